/- Restore. -/
import Derived.Test.YtenbcpjlbfojlaaDJ
namespace Go.Proofs.Ytenbcpjlbfojlaa.DA
open Go.RowKit Go.Proofs.YtenbcpjlbfojlaaW.PrintWords Go.Proofs.YtenbcpjlbfojlaaW.PrintLast Go.Proofs.YtenbcpjlbfojlaaW.PrintMore Go.Proofs.Ytenbcpjlbfojlaa.PD
set_option linter.unusedVariables false
set_option linter.unusedSimpArgs false
def lAt (xs : List (List Int)) (i : Nat) : List Int := xs.getD i []
theorem lAt_mem {xs : List (List Int)} {j : Nat} (h : j < xs.length) : lAt xs j ∈ xs := by
  unfold lAt
  rw [List.getD_eq_getElem?_getD, List.getElem?_eq_getElem h]
  exact List.getElem_mem h
theorem at_L {w : World} {A : Option Addr} {n : Nat} {xs : List (List Int)} (h : Kd.C ks w A n xs) (i : Nat) (h1 : i < n) : ∃ ad Ab cb, A = some ad ∧ w.cell? (ad.add i) = some (.slice Ab (lAt xs i).length cb) ∧ (lAt xs i).length ≤ cb ∧ Kd.C kb w Ab (lAt xs i).length (lAt xs i) := by
  obtain ⟨ad, c, e, _, hK, hc0⟩ := Kd.C_get h [] i (by omega) (by omega)
  have hc : ∀ j u, c[j]? = some u → w.cell? (ad.add (i * 1 + j)) = some u := hc0
  obtain ⟨Ab, cb, rfl, hl, hr⟩ := ks_open hK
  have h9 := hc 0 _ rfl
  rw [Nat.mul_one, Nat.add_zero] at h9
  exact ⟨ad, Ab, cb, e, h9, hl, hr⟩
def Dv.restore (d : Dv) (k : Int) : Dv × Int := if k < 0 ∨ (d.shelf.length : Int) ≤ k then (d, 6) else (⟨lAt d.shelf k.toNat, [], d.shelf, d.trace⟩, 0)
section
variable {α : Type} {base B N : Nat} {d : Dv} {col col' : Nat → Nat} {w w' w1 : World} {vb vw vs vt : Value}
set_option maxHeartbeats 8000000 in
theorem restore_calls (k : Int) (w : World) (h : Sd base B d col w vb vw vs vt) (hN : Wf d N) :
    Calls Try.prog 25 #[.pointer (some ⟨B, 0, none⟩), .int .i64 k] w fun e w' => e = .returned (.int .i64 (d.restore k).2) ∧ SAfter base B (d.restore k).1 col w w' := by
  have hz : ((N : Int) == 0) = false := beq_eq_false_iff_ne.mpr (by have := hN.of.2.1; omega)
  have HL := Aside0.mk (len_calls w h hN.of)
  obtain ⟨As, cs, rfl⟩ := Kd.R_slice h.rs
  have h2 := h.c2
  have HS := Aside0.mk h
  unfold Dv.restore
  by_cases h1 : k < 0
  · rw [if_pos (.inl h1)]
    have hb : decide (k < 0) = true := decide_eq_true h1
    clear h1 h hN
    go_enter Try.func25, Try.ntmps25
    go_wp2_with (go_at_call 19; refine HL.out.mono ?_; rintro e w2 ⟨rfl, rfl⟩)
    go_ret
    exact ⟨rfl, SAfter.same HS.out⟩
  · have hb : decide (k < 0) = false := decide_eq_false h1
    by_cases h3 : (d.shelf.length : Int) ≤ k
    · rw [if_pos (.inr h3)]
      have hb2 : decide (k ≥ (d.shelf.length : Int)) = true := decide_eq_true h3
      clear h1 h3 h hN
      go_enter Try.func25, Try.ntmps25
      go_wp2_with (go_at_call 19; refine HL.out.mono ?_; rintro e w2 ⟨rfl, rfl⟩)
      go_ret
      exact ⟨rfl, SAfter.same HS.out⟩
    · rw [if_neg (by omega)]
      obtain ⟨i, rfl⟩ : ∃ i : Nat, k = (i : Int) := ⟨k.toNat, by omega⟩
      have hil : i < d.shelf.length := by omega
      have hb2 : decide ((i : Int) ≥ (d.shelf.length : Int)) = false := decide_eq_false (by omega)
      have hb3 : decide (d.shelf.length ≤ i) = false := decide_eq_false (by omega)
      have hb4 : decide ((i : Int) < 0) = false := hb
      have hi0 : (0 : Int) ≤ (i : Int) := by omega
      have hi1 : (i : Int) < (d.shelf.length : Int) := by omega
      obtain ⟨ad, Ab, cb, rfl, hx, hxl, hxc⟩ := at_L (Kd.R_reads' h.rs).2.2 i hil
      have hsl := hN.sh _ (lAt_mem hil)
      simp only [Int.toNat_natCast]
      have HC := Aside0.mk (fun W (hb : Below w.heap.size w W) => clone_calls Ab cb (lAt d.shelf i) W (Kd.C_below hxc hb) (by have := hN.of.2.2; omega))
      generalize lAt d.shelf i = s at hx HC ⊢
      clear h1 h3 h hN hsl hxc hxl hil
      go_enter Try.func25, Try.ntmps25
      go_wp2_with (first
        | (go_at_call 19; refine HL.out.mono ?_; rintro e w2 ⟨rfl, rfl⟩)
        | (go_at_call 30; refine (HC.out _ (Below.refl _ _)).mono ?_; rintro e w9 ⟨v9, rfl, ho9, hb9⟩; obtain ⟨A9, c9, rfl⟩ := Kd.R_slice ho9; have hbx := (HS.out.below hb9).box; have hcz := blk_cell hbx 0; have hfz := blk_frozen hbx 0; have hfz1 := blk_frozen hbx 1; have hcz1 := blk_cell hbx 1;
           have HP := Aside0.mk (HS.out.put0 (l := s) (v4 := .slice A9 s.length c9) (Kd.R_lower (Kd.R_mono (Kd.R_bound ho9) (fun k hk => .inr hk.2.1)) (Nat.le_trans HS.out.hB (Nat.le_of_lt HS.out.bl))) (Kept.of_below hb9 _) (hb9.mono (Nat.le_trans HS.out.hB (Nat.le_of_lt HS.out.bl)))); clear ho9 hb9 hbx))
      go_ret
      obtain ⟨col1, hS1, hA1⟩ := HP.out
      obtain ⟨col2, hS2, hA2⟩ := hS1.put1 (l := []) (v4 := .slice none 0 0) (Kd.R_nil _ _ _ _ _) (Kept.refl _ _) (Below.refl _ _)
      exact ⟨rfl, SAfter.then_ hA1 (SAfter.of ⟨col2, hS2, hA2⟩)⟩
end
end Go.Proofs.Ytenbcpjlbfojlaa.DA
