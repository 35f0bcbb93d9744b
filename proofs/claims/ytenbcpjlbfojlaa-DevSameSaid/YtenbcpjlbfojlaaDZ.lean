/- The document's Tamper, Restore. -/
import Derived.Test.YtenbcpjlbfojlaaDY
namespace Go.Proofs.Ytenbcpjlbfojlaa.DA
open Go.RowKit Go.Proofs.YtenbcpjlbfojlaaW.PrintWords Go.Proofs.YtenbcpjlbfojlaaW.PrintLast Go.Proofs.YtenbcpjlbfojlaaW.PrintMore Go.Proofs.Ytenbcpjlbfojlaa.PD
set_option linter.unusedVariables false
set_option linter.unusedSimpArgs false
section
variable {α : Type} {base RB N : Nat} {d : Dv} {RS RS' : Nat → Prop} {w w' w1 : World} {vb vw vs vt : Value}
theorem R_rows {k : Kd α} {e : Nat} {ok : Nat → Prop} {v : Value} {xs : List α} (h : k.R e w base ok v xs) : ∃ A c, v = .slice A xs.length c ∧ xs.length ≤ c ∧ ReadsRow (k.M w base (fun j => ok j ∧ some j ≠ v.ownBlock)) k.sz w A xs.length xs := OwnRow.reads h.2
theorem RAfter.of {d' : Dv} {vb vw vs vt : Value} (h : ∃ RS', Rm base RB N d' RS' w' vb vw vs vt ∧ (∀ k, RS' k → RS k ∨ w.heap.size ≤ k) ∧ Kept w w' (fun k => k = RB) ∧ Below base w w') : RAfter base RB N d' RS w w' := by
  obtain ⟨RS', h1, h2⟩ := h
  exact ⟨RS', vb, vw, vs, vt, h1, h2⟩
/-- A fresh row serves as any of the fields. -/
theorem fresh_ok {k : Kd α} {e : Nat} {v : Value} {l : List α} {ok : Nat → Prop} (h : k.R e w' w.heap.size ok v l) (hb : base ≤ w.heap.size) : k.R e w' base (fun j => (RS j ∧ j ≠ RB) ∨ w.heap.size ≤ j) v l :=
  Kd.R_mono (Kd.R_lower (Kd.R_bound h) hb) (fun j hj => .inr hj.2.1)
/-- Blocks with some bytes at a place, told to the store. -/
theorem laid_rm (h : Rm base RB N d RS w vb vw vs vt) (hL : d.blocks.length ≤ 1000000000) {A0 : Option Addr} {c0 : Nat} (hvb : vb = .slice A0 d.blocks.length c0) (p : Nat) (A2 : Option Addr) (c2 : Nat) (l2 : List Int) (hr2 : Kd.C kb w A2 l2.length l2) (hp : p + l2.length ≤ d.blocks.length) :
    Calls Try.prog 43 #[.slice A0 d.blocks.length c0, .int .i64 (p : Int), .slice A2 l2.length c2] w fun e w' => ∃ A m c, e = .returned (.slice A m c) ∧ Below w.heap.size w w' ∧ Rm base RB N d RS w' vb vw vs vt ∧
      ∃ RS', Rm base RB N ⟨splice d.blocks p l2, d.waits, d.shelf, d.trace⟩ RS' (w'.setCell ⟨RB, 1, none⟩ (.slice A m c)) (.slice A m c) vw vs vt ∧ (∀ k, RS' k → RS k ∨ w.heap.size ≤ k) ∧ Kept w (w'.setCell ⟨RB, 1, none⟩ (.slice A m c)) (fun k => k = RB) ∧ Below base w (w'.setCell ⟨RB, 1, none⟩ (.slice A m c)) := by
  have hR := Kd.R_reads' (hvb ▸ h.rb)
  refine (laid_calls A0 c0 d.blocks p A2 c2 l2 w hR.2.2 hR.2.1 hr2 hp hL).mono ?_
  rintro e w' ⟨v, he, ho, hb⟩
  obtain ⟨A, c, rfl⟩ := Kd.R_slice ho
  exact ⟨A, _, c, he, hb, h.below hb, h.put1 hb (fresh_ok ho (Nat.le_trans h.hB (Nat.le_of_lt h.bl)))⟩
set_option maxHeartbeats 8000000 in
theorem rtamper_bad (n at_ : Int) (Ab : Option Addr) (cb : Nat) (b : List Int) (w : World) (h : Rm base RB N d RS w vb vw vs vt) (hq : (n < 0 ∨ (N : Int) ≤ n) ∨ (at_ < 0 ∨ at_ > 256 ∨ (b.length : Int) > 256 - at_)) :
    Calls Try.prog 35 #[.pointer (some ⟨RB, 0, none⟩), .int .i64 n, .int .i64 at_, .slice Ab b.length cb] w fun e w' => e = .returned (.int .i64 1) ∧ w = w' := by
  have h0 := h.c0
  clear h
  by_cases g0 : n < 0
  · have b0 : decide (n < 0) = true := decide_eq_true g0
    clear hq g0
    go_enter Try.func35, Try.ntmps35
    go_wp2
    go_ret
    exact ⟨rfl, rfl⟩
  · have b0 : decide (n < 0) = false := decide_eq_false g0
    by_cases g1 : n ≥ (N : Int)
    · have b1 : decide (n ≥ (N : Int)) = true := decide_eq_true g1
      clear hq g1 g0
      go_enter Try.func35, Try.ntmps35
      go_wp2
      go_ret
      exact ⟨rfl, rfl⟩
    · have b1 : decide (n ≥ (N : Int)) = false := decide_eq_false g1
      by_cases g2 : at_ < 0
      · have b2 : decide (at_ < 0) = true := decide_eq_true g2
        clear hq g2 g0 g1
        go_enter Try.func35, Try.ntmps35
        go_wp2
        go_ret
        exact ⟨rfl, rfl⟩
      · have b2 : decide (at_ < 0) = false := decide_eq_false g2
        by_cases g3 : at_ > 256
        · have b3 : decide (at_ > 256) = true := decide_eq_true g3
          clear hq g3 g0 g1 g2
          go_enter Try.func35, Try.ntmps35
          go_wp2
          go_ret
          exact ⟨rfl, rfl⟩
        · have b3 : decide (at_ > 256) = false := decide_eq_false g3
          have hw1 : IntKind.i64.wrap (256 - at_) = 256 - at_ := w64 _ (by omega) (by omega)
          have b4 : decide ((b.length : Int) > 256 - at_) = true := decide_eq_true (by omega)
          clear hq g0 g1 g2 g3
          go_enter Try.func35, Try.ntmps35
          go_wp2
          go_ret
          exact ⟨rfl, rfl⟩
set_option maxHeartbeats 8000000 in
theorem rtamper_good (n at_ : Int) (Ab : Option Addr) (cb : Nat) (b : List Int) (w : World) (h : Rm base RB N d RS w vb vw vs vt) (hN : Of d N) (hb : Kd.C kb w Ab b.length b) (hq : ¬ (n < 0 ∨ (N : Int) ≤ n)) (h1 : ¬ (at_ < 0 ∨ at_ > 256 ∨ (b.length : Int) > 256 - at_)) :
    Calls Try.prog 35 #[.pointer (some ⟨RB, 0, none⟩), .int .i64 n, .int .i64 at_, .slice Ab b.length cb] w fun e w' => e = .returned (.int .i64 0) ∧ RAfter base RB N ⟨splice d.blocks (n * 256 + at_).toNat b, d.waits, d.shelf, d.trace⟩ RS w w' := by
  obtain ⟨A0, c0, rfl⟩ := Kd.R_slice h.rb
  obtain ⟨hN1, hN2, hN3⟩ := hN
  have hc0 := h.c0
  have hc1 := h.c1
  have HS := Aside0.mk h
  obtain ⟨p, hp⟩ : ∃ p : Nat, n * 256 + at_ = (p : Int) := ⟨(n * 256 + at_).toNat, by omega⟩
  have HL := Aside0.mk (laid_rm h (by omega) rfl p Ab cb b hb (by omega))
  rw [hp, Int.toNat_natCast]
  have b1 : decide (n < 0) = false := decide_eq_false (by omega)
  have b2 : decide (n ≥ (N : Int)) = false := decide_eq_false (by omega)
  have b3 : decide (at_ < 0) = false := decide_eq_false (by omega)
  have b4 : decide (at_ > 256) = false := decide_eq_false (by omega)
  have hw1 : IntKind.i64.wrap (256 - at_) = 256 - at_ := w64 _ (by omega) (by omega)
  have hw2 : IntKind.i64.wrap (n * 256) = n * 256 := w64 _ (by omega) (by omega)
  have hw3 : IntKind.i64.wrap (n * 256 + at_) = (p : Int) := (w64 _ (by omega) (by omega)).trans hp
  have b5 : decide ((b.length : Int) > 256 - at_) = false := decide_eq_false (by omega)
  generalize splice d.blocks p b = l4 at HL ⊢
  generalize d.blocks.length = L at hc1 HL
  generalize b.length = L2 at b5 HL ⊢
  clear h hb hq h1 hN1 hN2 hN3 hp
  go_enter Try.func35, Try.ntmps35
  go_wp2_with (go_at_call 43; refine HL.out.mono ?_; rintro e w2 ⟨A, m, c, rfl, hb2, hRm, hP⟩; have hbx := hRm.c1; have hfz := hRm.fz 1; have HP := Aside0.mk hP; clear hb2 hRm hP)
  go_ret
  exact ⟨rfl, RAfter.of HP.out⟩
theorem rtamper_calls (n at_ : Int) (Ab : Option Addr) (cb : Nat) (b : List Int) (w : World) (h : Rm base RB N d RS w vb vw vs vt) (hN : Of d N) (hb : Kd.C kb w Ab b.length b) :
    Calls Try.prog 35 #[.pointer (some ⟨RB, 0, none⟩), .int .i64 n, .int .i64 at_, .slice Ab b.length cb] w fun e w' => e = .returned (.int .i64 (tamperE N n at_ b.length)) ∧ RAfter base RB N (d.tamper N n at_ b) RS w w' := by
  by_cases hq : n < 0 ∨ (N : Int) ≤ n
  · have hE : tamperE N n at_ b.length = 1 := by unfold tamperE; rw [ask_ne hq, if_pos (by decide)]
    have hD : d.tamper N n at_ b = d := by unfold Dv.tamper; rw [hE, if_pos (by decide)]
    rw [hE, hD]
    exact (rtamper_bad n at_ Ab cb b w h (.inl hq)).mono fun e w' ⟨h1, h2⟩ => ⟨h1, h2 ▸ RAfter.same h⟩
  · by_cases h1 : at_ < 0 ∨ at_ > 256 ∨ (b.length : Int) > 256 - at_
    · have hE : tamperE N n at_ b.length = 1 := by unfold tamperE; rw [ask_in hq, if_neg (by decide), if_pos h1]
      have hD : d.tamper N n at_ b = d := by unfold Dv.tamper; rw [hE, if_pos (by decide)]
      rw [hE, hD]
      exact (rtamper_bad n at_ Ab cb b w h (.inr h1)).mono fun e w' ⟨h1, h2⟩ => ⟨h1, h2 ▸ RAfter.same h⟩
    · have hE : tamperE N n at_ b.length = 0 := by unfold tamperE; rw [ask_in hq, if_neg (by decide), if_neg h1]
      have hD : d.tamper N n at_ b = ⟨splice d.blocks (n * 256 + at_).toNat b, d.waits, d.shelf, d.trace⟩ := by unfold Dv.tamper; rw [hE, if_neg (by decide)]
      rw [hE, hD]
      exact rtamper_good n at_ Ab cb b w h hN hb hq h1
/-! ### Restore -/
theorem at_LM {ok : Nat → Prop} {v : Value} {xs : List (List Int)} (h : Kd.R ks 35 w base ok v xs) (i : Nat) (h1 : i < xs.length) : ∃ ad c, v = .slice (some ad) xs.length c ∧ ∃ A9 c9, w.cell? (ad.add i) = some (.slice A9 (lAt xs i).length c9) ∧ Kd.R kb 5 w base ok (.slice A9 (lAt xs i).length c9) (lAt xs i) := by
  obtain ⟨A, c, rfl, hl, hr⟩ := R_rows h
  obtain ⟨ad, cs, rfl, _, hM, hc0⟩ := hr.get_ [] (i : Int) (by omega) (by omega)
  obtain ⟨v9, rfl, hR⟩ := hM
  have hR' : Kd.R kb 5 w base ok v9 (lAt xs i) := Kd.R_mono hR (fun _ hk => hk.1)
  obtain ⟨A9, c9, rfl⟩ := Kd.R_slice hR'
  have h9 := hc0 0 _ rfl
  rw [Int.toNat_natCast, Nat.add_zero, show ks.sz = 1 from rfl, Nat.mul_one] at h9
  exact ⟨ad, c, rfl, A9, c9, h9, hR'⟩
set_option maxHeartbeats 8000000 in
theorem rrestore_calls (k : Int) (w : World) (h : Rm base RB N d RS w vb vw vs vt) :
    Calls Try.prog 37 #[.pointer (some ⟨RB, 0, none⟩), .int .i64 k] w fun e w' => e = .returned (.int .i64 (d.restore k).2) ∧ RAfter base RB N (d.restore k).1 RS w w' := by
  obtain ⟨As, cs, rfl⟩ := Kd.R_slice h.rs
  have h3 := h.c3
  have HS := Aside0.mk h
  unfold Dv.restore
  by_cases g1 : k < 0
  · rw [if_pos (.inl g1)]
    have b1 : decide (k < 0) = true := decide_eq_true g1
    clear g1 h
    go_enter Try.func37, Try.ntmps37
    go_wp2
    go_ret
    exact ⟨rfl, RAfter.same HS.out⟩
  · have b1 : decide (k < 0) = false := decide_eq_false g1
    by_cases g2 : (d.shelf.length : Int) ≤ k
    · rw [if_pos (.inr g2)]
      have b2 : decide (k ≥ (d.shelf.length : Int)) = true := decide_eq_true g2
      generalize d.shelf.length = L at h3 b2
      clear g1 g2 h
      go_enter Try.func37, Try.ntmps37
      go_wp2
      go_ret
      exact ⟨rfl, RAfter.same HS.out⟩
    · rw [if_neg (by omega)]
      have b2 : decide (k ≥ (d.shelf.length : Int)) = false := decide_eq_false g2
      obtain ⟨q, rfl⟩ : ∃ q : Nat, k = (q : Int) := ⟨k.toNat, by omega⟩
      rw [Int.toNat_natCast]
      obtain ⟨ad, c9, e9, A9, c8, hx, hR⟩ := at_LM h.rs q (by omega)
      injection e9 with e9 e8 e7
      subst e9 e7
      obtain ⟨RS1, hS1, hA1⟩ := h.put1 (Below.refl _ _) (Kd.R_mono hR (fun k hk => .inl hk))
      have HP := Aside0.mk (RAfter.then_ hA1 (RAfter.of (hS1.put2 (Below.refl _ _) (Kd.R_nil kW 58 _ _ _))))
      have hq0 : (0 : Int) ≤ (q : Int) := by omega
      have hq1 : (q : Int) < (d.shelf.length : Int) := by omega
      have hc1 := h.c1
      have hf1 := h.fz 1
      have hc2 := hS1.c2
      have hf2 := hS1.fz 2
      have b2' : decide (q ≥ d.shelf.length) = false := decide_eq_false (by omega)
      have b3' : decide (d.shelf.length ≤ q) = false := decide_eq_false (by omega)
      generalize (lAt d.shelf q) = l4 at HP hx hc2 hf2
      generalize l4.length = L4 at HP hx hc2 hf2
      clear hR
      generalize d.shelf.length = L at h3 b2 b2' b3' hq1
      clear hS1 hA1 h g1 g2
      go_enter Try.func37, Try.ntmps37
      go_wp2
      go_ret
      exact ⟨rfl, HP.out⟩
end
end Go.Proofs.Ytenbcpjlbfojlaa.DA
