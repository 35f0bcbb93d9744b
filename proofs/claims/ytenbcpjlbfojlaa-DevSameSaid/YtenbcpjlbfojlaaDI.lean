/- Tamper. -/
import Derived.Test.YtenbcpjlbfojlaaDH
namespace Go.Proofs.Ytenbcpjlbfojlaa.DA
open Go.RowKit Go.Proofs.YtenbcpjlbfojlaaW.PrintWords Go.Proofs.YtenbcpjlbfojlaaW.PrintLast Go.Proofs.YtenbcpjlbfojlaaW.PrintMore Go.Proofs.Ytenbcpjlbfojlaa.PD
set_option linter.unusedVariables false
set_option linter.unusedSimpArgs false
/-- What Tamper answers. -/
def tamperE (N : Nat) (n at_ : Int) (len : Nat) : Int := if askE N n ≠ 0 then askE N n else if at_ < 0 ∨ at_ > 256 ∨ (len : Int) > 256 - at_ then 1 else 0
def Dv.tamper (d : Dv) (N : Nat) (n at_ : Int) (b : List Int) : Dv := if tamperE N n at_ b.length ≠ 0 then d else ⟨splice d.blocks (n * 256 + at_).toNat b, d.waits, d.shelf, d.trace⟩
theorem ask_ne {N : Nat} {n : Int} (h : n < 0 ∨ (N : Int) ≤ n) : askE N n = 1 := by unfold askE; rw [if_pos h]
theorem ask_in {N : Nat} {n : Int} (h : ¬ (n < 0 ∨ (N : Int) ≤ n)) : askE N n = 0 := by unfold askE; rw [if_neg h]
theorem all_cells {w : World} {A : Option Addr} {l : List Int} {n : Nat} (h : Kd.C kb w A n l) (h0 : 0 < (l.map (Value.int .u8)).length) : ∃ ad, A = some ad ∧ ∀ j v, (l.map (Value.int .u8))[j]? = some v → w.cell? (ad.add j) = some v := by
  have h1 := src_cells h n (Nat.le_refl _)
  rw [List.take_of_length_le (by rw [h.1]; exact Nat.le_refl _)] at h1
  exact h1 h0
section
variable {α : Type} {base B N : Nat} {d : Dv} {col col' : Nat → Nat} {w w' w1 : World} {vb vw vs vt : Value}
theorem SAfter.of_over {l : List Int} (h : Over base B d l col w w' vb vw vs vt) : SAfter base B ⟨l, d.waits, d.shelf, d.trace⟩ col w w' :=
  ⟨col, _, _, _, _, h.1, fun _ hk => .inl hk, h.2.1.mono (fun k hk => by rw [hk]; decide), h.2.2⟩
set_option maxHeartbeats 8000000 in
theorem tamper_calls (n at_ : Int) (Ab : Option Addr) (cb : Nat) (b : List Int) (w : World) (h : Sd base B d col w vb vw vs vt) (hN : Of d N) (hb : Kd.C kb w Ab b.length b) (hcb : b.length ≤ cb) :
    Calls Try.prog 24 #[.pointer (some ⟨B, 0, none⟩), .int .i64 n, .int .i64 at_, .slice Ab b.length cb] w fun e w' => e = .returned (.int .i64 (tamperE N n at_ b.length)) ∧ SAfter base B (d.tamper N n at_ b) col w w' := by
  have hA := ask_calls n w h hN
  have HS := Aside0.mk h
  by_cases hq : n < 0 ∨ (N : Int) ≤ n
  · have e0 := ask_ne hq
    have hE : tamperE N n at_ b.length = 1 := by unfold tamperE; rw [e0, if_pos (by decide)]
    have hD : d.tamper N n at_ b = d := by unfold Dv.tamper; rw [hE, if_pos (by decide)]
    rw [hE, hD]
    rw [e0] at hA
    have HA := Aside0.mk hA
    clear hq h hN hb hcb hA e0 hE hD
    go_enter Try.func24, Try.ntmps24
    go_wp2_with (go_at_call 29; refine HA.out.mono ?_; rintro e w2 ⟨rfl, rfl⟩)
    go_ret
    exact ⟨rfl, SAfter.same HS.out⟩
  · have e0 := ask_in hq
    rw [e0] at hA
    have HA := Aside0.mk hA
    by_cases h1 : at_ < 0 ∨ at_ > 256 ∨ (b.length : Int) > 256 - at_
    · have hE : tamperE N n at_ b.length = 1 := by unfold tamperE; rw [e0, if_neg (by decide), if_pos h1]
      have hD : d.tamper N n at_ b = d := by unfold Dv.tamper; rw [hE, if_pos (by decide)]
      rw [hE, hD]
      clear hq h hN hb hcb hA e0 hE hD
      by_cases g1 : at_ < 0
      · have b1 : decide (at_ < 0) = true := decide_eq_true g1
        clear g1 h1
        go_enter Try.func24, Try.ntmps24
        go_wp2_with (go_at_call 29; refine HA.out.mono ?_; rintro e w2 ⟨rfl, rfl⟩)
        go_ret
        exact ⟨rfl, SAfter.same HS.out⟩
      · have b1 : decide (at_ < 0) = false := decide_eq_false g1
        by_cases g2 : at_ > 256
        · have b2 : decide (at_ > 256) = true := decide_eq_true g2
          clear g1 g2 h1
          go_enter Try.func24, Try.ntmps24
          go_wp2_with (go_at_call 29; refine HA.out.mono ?_; rintro e w2 ⟨rfl, rfl⟩)
          go_ret
          exact ⟨rfl, SAfter.same HS.out⟩
        · have b2 : decide (at_ > 256) = false := decide_eq_false g2
          have b3 : decide ((b.length : Int) > 256 - at_) = true := decide_eq_true (by omega)
          have hw : IntKind.i64.wrap (256 - at_) = 256 - at_ := w64 _ (by omega) (by omega)
          clear g1 g2 h1
          go_enter Try.func24, Try.ntmps24
          go_wp2_with (go_at_call 29; refine HA.out.mono ?_; rintro e w2 ⟨rfl, rfl⟩)
          go_ret
          exact ⟨rfl, SAfter.same HS.out⟩
    · have hE : tamperE N n at_ b.length = 0 := by unfold tamperE; rw [e0, if_neg (by decide), if_neg h1]
      have hD : d.tamper N n at_ b = ⟨splice d.blocks (n * 256 + at_).toNat b, d.waits, d.shelf, d.trace⟩ := by unfold Dv.tamper; rw [hE, if_neg (by decide)]
      rw [hE, hD]
      obtain ⟨q, rfl⟩ : ∃ q : Nat, n = (q : Int) := ⟨n.toNat, by omega⟩
      obtain ⟨p, rfl⟩ : ∃ p : Nat, at_ = (p : Int) := ⟨at_.toNat, by omega⟩
      have b1 : decide ((p : Int) < 0) = false := decide_eq_false (by omega)
      have b2 : decide ((p : Int) > 256) = false := decide_eq_false (by omega)
      have b3 : decide ((b.length : Int) > 256 - (p : Int)) = false := decide_eq_false (by omega)
      have hw1 : IntKind.i64.wrap (256 - (p : Int)) = 256 - (p : Int) := w64 _ (by omega) (by omega)
      obtain ⟨hN1, hN2, hN3⟩ := hN
      have hqN : q < N := by omega
      have hpb : p + b.length ≤ 256 := by omega
      have hw2 : IntKind.i64.wrap ((q : Int) * 256) = (q : Int) * 256 := w64 _ (by omega) (by omega)
      have hw3 : IntKind.i64.wrap ((q : Int) * 256 + (p : Int)) = (q : Int) * 256 + (p : Int) := w64 _ (by omega) (by omega)
      obtain ⟨i0, hi0, _, hsz0, _⟩ := info_parts info5
      obtain ⟨g, c, rfl, hgb, hgl, _⟩ := Kd.R_form h.rb (by omega)
      have hcap := (Kd.R_reads' h.rb).2.1
      have hg2 : col g = 2 := h.rb.1 g rfl
      have h0 := h.c0
      obtain ⟨off, hoff⟩ : ∃ off, off = q * 256 + p := ⟨_, rfl⟩
      have hle : off + b.length ≤ d.blocks.length := by omega
      obtain ⟨L, hL⟩ : ∃ L, L = d.blocks.length := ⟨_, rfl⟩
      rw [← hL] at h0 hcap hle
      have hoI : ((q : Int) * 256 + (p : Int)).toNat = off := by omega
      have hcut1 := cut_from (P := Try.prog) 35 5 .i64 Try.underlying35 hi0 1 hsz0 (some ⟨g, 0, none⟩) L c ((q : Int) * 256 + (p : Int)) (by omega) (by omega)
      rw [hoI] at hcut1 ⊢
      obtain ⟨Ad, hAd⟩ : ∃ Ad, (if c = off then some (Addr.mk g 0 none) else (some (Addr.mk g 0 none)).map (·.add (off * 1))) = Ad := ⟨_, rfl⟩
      have hAdr : 0 < (b.map (Value.int .u8)).length → Ad = some ⟨g, off, none⟩ := by
        rw [List.length_map]
        intro hpos
        rw [← hAd, if_neg (by omega)]
        simp only [Option.map_some, Nat.mul_one]
        congr 1
        rcases Nat.eq_zero_or_pos off with h9 | h9
        · rw [h9]; simp [Addr.add]
        · have : off ≠ 0 := by omega
          simp [Addr.add, this]
      rw [hAd] at hcut1
      obtain ⟨cur, hg, hfit, hBg, hput⟩ := row_copy h.rb b off (by omega)
      have HD := Aside0.mk (show ((b.map (Value.int .u8)).length = b.length ∧ b.length = Nat.min b.length (L - off)) from ⟨by rw [List.length_map], by show _ = min _ _; omega⟩)
      have HP := Aside0.mk hput
      have HBC := Aside0.mk hb
      have HG2 := Aside0.mk (And.intro hg2 hgb)
      have HAD := Aside0.mk hAdr
      have HGc := Aside0.mk hg
      have HFT := Aside0.mk hfit
      clear hq h1 hN1 hN2 hN3 hb hcb hA e0 hE hD hi0 hsz0 hAd hAdr hput hg2 hgb hgl hcap hoff hg hfit h hL hoI
      go_enter Try.func24, Try.ntmps24
      go_wp2_with (first
        | (go_at_call 29; refine HA.out.mono ?_; rintro e w2 ⟨rfl, rfl⟩)
        | ((with_reducible refine gate_dst (N := 41) rfl ?_); refine copy_kept rfl (.tmp 39) (.tmp 40) 35 35 rfl 5 Try.underlying35 (by kernel_rfl) Ad Ab (L - off) (c - off) b.length cb rfl rfl g off cur 5 HGc.out (b.map (.int .u8)) (HD.out.1.trans HD.out.2) (fun h0 => ⟨HAD.out h0, all_cells HBC.out h0⟩) HFT.out (fun v hv => by obtain ⟨x, _, rfl⟩ := List.mem_map.1 hv; rfl) ?_; intro w3 HG HK HB3))
      go_ret
      have hS := HS.out
      refine ⟨rfl, SAfter.of_over ⟨hS.over (HP.out _ HG.out) HK.out HG2.out.1, HK.out.mono (fun k hk => by rw [hk]; exact HG2.out.1), HB3.out _ _ (Below.refl _ _) HG2.out.2⟩⟩
end
end Go.Proofs.Ytenbcpjlbfojlaa.DA
