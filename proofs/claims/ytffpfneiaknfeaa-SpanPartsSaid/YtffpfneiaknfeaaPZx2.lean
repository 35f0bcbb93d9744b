/- The functions that the law reaches, as Lean functions, and that the code comes to their answers; written by wip/xprint.py (a program of this repository over the print of the kit): Lean checks it. -/
import Derived.Test.YtffpfneiaknfeaaPZx0
import Derived.Test.YtffpfneiaknfeaaPZx1
namespace Go.Proofs.Ytffpfneiaknfeaa.PZ
open Go.RowKit Go.Proofs.YtffpfneiaknfeaaW.PrintWords Go.Proofs.YtffpfneiaknfeaaW.PrintLast Go.Proofs.YtffpfneiaknfeaaW.PrintMore
attribute [local go_sem] max2_int min2_int max_two min_two max_three min_three max_four min_four   -- for this text's walks alone
set_option linter.unusedVariables false
set_option linter.unusedSimpArgs false

attribute [local go_sem high] eqA28
/-! ### span_May: function 13 -/
def span_May.j0 : Nat → Int → Int → Bool → Option (Int)
  | 0, _, _, _ => none
  | k + 1, x0, x1, x5 => if x5 = true then (some 1) else (if x0 > 8192 then (some 18) else (if x1 > (wrap64 (8192 - x0)) then (some 18) else (some 0)))
def span_May.f (k : Nat) (a0 : Int) (a1 : Int) : Option (Int) := if a0 < 0 then (span_May.j0 k a0 a1 true) else (span_May.j0 k a0 a1 (decide (a1 < 0)))
theorem span_May.mono_l : ∀ k, (∀ y0 y1 y2, LeO (span_May.j0 k y0 y1 y2) (span_May.j0 (k + 1) y0 y1 y2))
  | 0 => fun _ _ _ r h => by simp [span_May.j0] at h
  | k + 1 => by
    have ih0 := span_May.mono_l k
    · intro y0 y1 y2
      unfold span_May.j0
      repeat' first
      | (with_reducible exact ih0 _ _ _)
      | (with_reducible exact LeO.refl _)
      | (with_reducible exact LeO.none _)
      | (with_reducible refine LeO.ite ?_ ?_)
      | (with_reducible refine LeO.bind ?_ (fun _ => ?_))
      | exact ih0 _ _ _
      | exact LeO.none _
      | refine LeO.ite ?_ ?_
      | refine LeO.bind ?_ (fun _ => ?_)
theorem span_May.mono : ∀ a0 a1 k, LeO (span_May.f k a0 a1) (span_May.f (k + 1) a0 a1) := by
  intro a0 a1 k
  have ih0 := span_May.mono_l k
  unfold span_May.f
  repeat' first
      | (with_reducible exact ih0 _ _ _)
      | (with_reducible exact LeO.refl _)
      | (with_reducible exact LeO.none _)
      | (with_reducible refine LeO.ite ?_ ?_)
      | (with_reducible refine LeO.bind ?_ (fun _ => ?_))
      | exact ih0 _ _ _
      | exact LeO.none _
      | refine LeO.ite ?_ ?_
      | refine LeO.bind ?_ (fun _ => ?_)
set_option maxHeartbeats 8000000 in
set_option maxRecDepth 100000 in
theorem span_May.calls (k : Nat) (a0 : Int) (a1 : Int) (r : Int) (w : World) (h : span_May.f k a0 a1 = some r) :
    Calls Try.prog 13 #[.int .i64 a0, .int .i64 a1] w fun e w' => e = .returned (.int .i64 r) ∧ Drawn0 w w' := by
  have H : (if a0 < 0 then (span_May.j0 k a0 a1 true) else (span_May.j0 k a0 a1 (decide (a1 < 0)))) = some r := h
  clear h
  have HC3 := Aside0.mk H
  clear H
  go_enter Try.func13, Try.ntmps13
  go_upto_region 1 with (fail)
  go_cut [5] (fun v5 wc => ∃ (kq : Nat) (x5_2 : Bool), v5 = .bool x5_2 ∧ Aside0 (span_May.j0 kq a0 a1 x5_2 = some r) ∧ Aside0 (kq ≤ k) ∧ Drawn0 w wc)
  case first =>
    have H := HC3.out
    clear HC3
    by_cases c4 : a0 < 0
    · rw [if_pos c4] at H
      have c4b0 : decide (a0 < 0) = true := decide_eq_true c4
      clear c4
      (first | rw [c4b0] | (simp only [i64_w, i32_w]; rw [c4b0]) | rw [c4b1] | skip)
      have H' := Aside0.mk H
      clear H
      go_wp2
      go_meet
      case rel => exact ⟨_, (true), (by first | rfl | (simp; done) | (simp [*]; done)), H', ⟨by first | omega | exact Nat.le_refl _⟩, by repeat (first | exact Drawn0.refl _ | apply Drawn0.step)⟩
    · rw [if_neg c4] at H
      have c4b0 : decide (a0 < 0) = false := decide_eq_false c4
      clear c4
      (first | rw [c4b0] | (simp only [i64_w, i32_w]; rw [c4b0]) | rw [c4b1] | skip)
      have H' := Aside0.mk H
      clear H
      go_wp2
      go_meet
      case rel => exact ⟨_, (decide (a1 < 0)), (by first | rfl | (simp; done) | (simp [*]; done)), H', ⟨by first | omega | exact Nat.le_refl _⟩, by repeat (first | exact Drawn0.refl _ | apply Drawn0.step)⟩
  case rest =>
    clear HC3
    try clear c1
    try clear p2
    try clear c4
    try clear c4b0
    try clear c4b1
    obtain ⟨kq, x5_2, rfl, HA, HJ2, ⟨mc2, rfl⟩⟩ := hcut
    cases kq with
    | zero => exact absurd HA.out (by simp [span_May.j0])
    | succ kj2 =>
      have H := HA.out
      clear HA
      simp only [span_May.j0] at H
      by_cases c5 : x5_2 = true
      · subst c5
        have H1 : (some 1) = some r := by rw [if_pos rfl] at H; exact H
        clear H
        have H := H1
        clear H1
        obtain rfl := Option.some.inj H
        go_wp2
        go_ret
        exact ⟨by first | rfl | (simp; done) | (simp [*]; done), by repeat (first | exact Drawn0.refl _ | apply Drawn0.step)⟩
      · replace c5 := Bool.eq_false_iff.mpr c5
        subst c5
        have H1 : (if a0 > 8192 then (some 18) else (if a1 > (wrap64 (8192 - a0)) then (some 18) else (some 0))) = some r := by rw [if_neg (show ¬ (false = true) by decide)] at H; exact H
        clear H
        have H := H1
        clear H1
        by_cases c6 : a0 > 8192
        · rw [if_pos c6] at H
          have c6b0 : decide (8192 < a0) = true := decide_eq_true c6
          clear c6
          obtain rfl := Option.some.inj H
          go_wp2
          go_ret
          exact ⟨by first | rfl | (simp; done) | (simp [*]; done), by repeat (first | exact Drawn0.refl _ | apply Drawn0.step)⟩
        · rw [if_neg c6] at H
          have c6b0 : decide (8192 < a0) = false := decide_eq_false c6
          clear c6
          by_cases c7 : a1 > (wrap64 (8192 - a0))
          · rw [if_pos c7] at H
            have c7b0 : decide ((wrap64 (8192 - a0)) < a1) = true := decide_eq_true c7
            clear c7
            obtain rfl := Option.some.inj H
            go_wp2
            go_ret
            exact ⟨by first | rfl | (simp; done) | (simp [*]; done), by repeat (first | exact Drawn0.refl _ | apply Drawn0.step)⟩
          · rw [if_neg c7] at H
            have c7b0 : decide ((wrap64 (8192 - a0)) < a1) = false := decide_eq_false c7
            clear c7
            obtain rfl := Option.some.inj H
            go_wp2
            go_ret
            exact ⟨by first | rfl | (simp; done) | (simp [*]; done), by repeat (first | exact Drawn0.refl _ | apply Drawn0.step)⟩

-- NOT PRINTED: function 20 (span_each)

/-! ### span_Parts: function 6 -/
set_option maxHeartbeats 4000000 in
set_option maxRecDepth 100000 in
/-- The closure of Parts: it appends. -/
theorem parts1 (p : S28) (B base : Nat) (v : Value) (l : List S28) (w0 w : World) (HB : Below base w0 w) (hbw : base ≤ w.heap.size) (hb : base ≤ B) (BK : w.heap[B]? = some (.cells #[v] 22 (0, 0)))
    (HO : Kd.R k28 28 w base (fun k_ => k_ ≠ B) v l) (hl : l.length < 100000) :
    Calls Try.prog 21 #[.agg #[.int .i64 p.f0, .int .i64 p.f1, .int .i64 p.f2], .pointer (some ⟨B, 0, none⟩)] w fun e w' => e = .returned (.tuple #[]) ∧ ∃ v', w'.heap[B]? = some (.cells #[v'] 22 (0, 0)) ∧ Kd.R k28 28 w' base (fun k_ => k_ ≠ B) v' (l ++ [p]) ∧ Below base w0 w' := by
  have hcz : w.cell? ⟨B, 0, none⟩ = some v := (blk_cell BK 0).trans rfl
  have hfz := blk_frozen BK 0
  have hlt : B < w.heap.size := (Array.getElem?_eq_some_iff.1 BK).1
  obtain ⟨A, c, rfl⟩ := Kd.R_slice HO
  go_enter Try.func21, Try.ntmps21
  have HO1 := Kd.R_alloc HO (.cells #[.int .i64 p.f0, .int .i64 p.f1, .int .i64 p.f2] 28)
  have HB1 := HB.alloc hbw (.cells #[.int .i64 p.f0, .int .i64 p.f1, .int .i64 p.f2] 28)
  have BK1 := blk_alloc BK (.cells #[.int .i64 p.f0, .int .i64 p.f1, .int .i64 p.f2] 28)
  have BH := Aside0.mk BK1
  have HH := Aside0.mk HO1
  have HBH := Aside0.mk HB1
  clear BK BK1 HO HO1 HB HB1
  go_wp2_with (at_builtin; go_loud (refine Kd.R_append k28 (w0 := w0) base rfl (.tmp 3) (.tmp 5) 22 28 (.agg #[(.int .i64 0), (.int .i64 0), (.int .i64 0)]) 24 rfl Try.underlying22 info28 rfl (by decide) (by omega) (.slice A l.length c) l p [.int .i64 p.f0, .int .i64 p.f1, .int .i64 p.f2] (fun k_ => k_ ≠ B) (fun _ => False) rfl (by first | (go_simp; done) | (go_simp; rfl)) (k28_mkM _ _ _ p) (fun _ hk => hk.elim) (by intro k hk; simp at hk; omega) HH.out HBH.out (by simp; omega) (by omega) ?_); intro v1 w1 ho hb1 hg hat; obtain ⟨A1, c1, rfl⟩ := Kd.R_slice ho; rw [show (l ++ [p]).length = l.length + 1 from by simp] at ho; have BK2 := blk_grown BH.out hg (Kd.R_ne HH.out BH.out (by decide)); have hcz1 : w1.cell? ⟨B, 0, none⟩ = some (.slice A l.length c) := (blk_cell BK2 0).trans rfl; have hfz1 := blk_frozen BK2 0; have BH2 := Aside0.mk BK2; have HH2 := Aside0.mk ho; have HB2 := Aside0.mk hb1; clear ho hb1 hg hat BK2)
  go_end0
  refine ⟨rfl, _, blk_put (cs := #[.slice A l.length c]) BH2.out 0 _ rfl, Kd.R_far (p := ⟨B, 0, none⟩) HH2.out (fun _ hk => hk) _, ?_⟩
  exact HB2.out.setCell (p := ⟨B, 0, none⟩) hb _

/-- The parts from at on, up to stop. -/
def prts : Nat → Int → Int → List S28
  | 0, _, _ => []
  | k + 1, at_, stop => if at_ < stop then ⟨at_ / 256, at_ % 256, mn (256 - at_ % 256) (stop - at_)⟩ :: prts k (at_ + mn (256 - at_ % 256) (stop - at_)) stop else []
/-- What May answers. -/
def mayF (a0 a1 : Int) : Int := if a0 < 0 ∨ a1 < 0 then 1 else if 8192 < a0 ∨ 8192 - a0 < a1 then 18 else 0
theorem may_calls (a0 a1 : Int) (w : World) : Calls Try.prog 13 #[.int .i64 a0, .int .i64 a1] w fun e w' => e = .returned (.int .i64 (mayF a0 a1)) ∧ w = w' := by
  by_cases h0 : a0 < 0
  · have hm : mayF a0 a1 = 1 := if_pos (.inl h0)
    have c0 : decide (a0 < 0) = true := decide_eq_true h0
    rw [hm]
    clear hm
    go_enter Try.func13, Try.ntmps13
    go_wp2
    go_ret
    exact ⟨rfl, rfl⟩
  · have c0 : decide (a0 < 0) = false := decide_eq_false h0
    by_cases h1 : a1 < 0
    · have hm : mayF a0 a1 = 1 := if_pos (.inr h1)
      have c1 : decide (a1 < 0) = true := decide_eq_true h1
      rw [hm]
      clear hm
      go_enter Try.func13, Try.ntmps13
      go_wp2
      go_ret
      exact ⟨rfl, rfl⟩
    · have c1 : decide (a1 < 0) = false := decide_eq_false h1
      by_cases h2 : 8192 < a0
      · have hm : mayF a0 a1 = 18 := by unfold mayF; rw [if_neg (by omega), if_pos (.inl h2)]
        have c2 : decide (8192 < a0) = true := decide_eq_true h2
        rw [hm]
        clear hm
        go_enter Try.func13, Try.ntmps13
        go_wp2
        go_ret
        exact ⟨rfl, rfl⟩
      · have c2 : decide (8192 < a0) = false := decide_eq_false h2
        by_cases h3 : 8192 - a0 < a1
        · have hm : mayF a0 a1 = 18 := by unfold mayF; rw [if_neg (by omega), if_pos (.inr h3)]
          have c3 : decide (8192 - a0 < a1) = true := decide_eq_true h3
          rw [hm]
          clear hm
          go_enter Try.func13, Try.ntmps13
          go_wp2
          go_ret
          exact ⟨rfl, rfl⟩
        · have hm : mayF a0 a1 = 0 := by unfold mayF; rw [if_neg (by omega), if_neg (by omega)]
          have c3 : decide (8192 - a0 < a1) = false := decide_eq_false h3
          rw [hm]
          clear hm
          go_enter Try.func13, Try.ntmps13
          go_wp2
          go_ret
          exact ⟨rfl, rfl⟩
theorem may_ok {a0 a1 : Int} (h : mayF a0 a1 = 0) : 0 ≤ a0 ∧ 0 ≤ a1 ∧ a0 + a1 ≤ 8192 := by
  unfold mayF at h
  split at h
  · cases h
  · split at h
    · cases h
    · omega
set_option maxHeartbeats 4000000 in
set_option maxRecDepth 100000 in
theorem each1 (a0 a1 : Int) (hmay : mayF a0 a1 = 0) (B base : Nat) (v : Value) (w0 w : World) (HB : Below base w0 w) (hbw : base ≤ w0.heap.size) (hb : base ≤ B) (BK : w.heap[B]? = some (.cells #[v] 22 (0, 0)))
    (HO : Kd.R k28 28 w base (fun k_ => k_ ≠ B) v []) :
    Calls Try.prog 20 #[.int .i64 a0, .int .i64 a1, .func (.func 21) #[] #[.pointer (some ⟨B, 0, none⟩)]] w fun e w' => e = .returned (.int .i64 0) ∧ ∃ v', w'.heap[B]? = some (.cells #[v'] 22 (0, 0)) ∧ Kd.R k28 28 w' base (fun k_ => k_ ≠ B) v' (prts 40 a0 (a0 + a1)) ∧ Below base w0 w' := by
  obtain ⟨h0, h1, h2⟩ := may_ok hmay
  have BH := Aside0.mk BK
  have HH := Aside0.mk HO
  have HBH := Aside0.mk HB
  have HM : ∀ w : World, Calls Try.prog 13 #[.int .i64 a0, .int .i64 a1] w fun e w' => e = .returned (.int .i64 0) ∧ w = w' := by
    have hmay0 := may_calls a0 a1
    rw [hmay] at hmay0
    exact hmay0
  have HMA := Aside0.mk HM
  clear BK HO HB hmay HM
  go_enter Try.func20, Try.ntmps20
  go_wp2_with (go_at_call 13; refine (HMA.out _).mono ?_; rintro e w' ⟨rfl, rfl⟩)
  go_loopg [0] 40 (fun kq v0 w' => ∃ (a : Int) (v : Value) (l : List S28), v0 = .int .i64 a ∧ Aside0 (l ++ prts kq a (a0 + a1) = prts 40 a0 (a0 + a1)) ∧ 0 ≤ a ∧ a ≤ a0 + a1 ∧ Aside0 (l.length + kq ≤ 40) ∧ Aside0 ((a0 + a1) / 256 - a / 256 < kq ∨ a = a0 + a1) ∧ Aside0 (w'.heap[B]? = some (.cells #[v] 22 (0, 0))) ∧ Aside0 (Kd.R k28 28 w' base (fun k_ => k_ ≠ B) v l) ∧ Aside0 (Below base w0 w'))
  case atStart => exact ⟨a0, v, [], rfl, ⟨rfl⟩, h0, by omega, ⟨by simp⟩, ⟨.inl (by omega)⟩, BH, HH, HBH⟩
  case round =>
    clear BH HH HBH
    obtain ⟨a, v, l, rfl, HE, ha0, ha1, HL, HQ, BH, HH, HBH⟩ := hrel
    by_cases hlt : a < a0 + a1
    · rcases (Int.lt_or_le (a0 + a1 - a) (256 - a % 256)) with hm | hm
      · have hmn : mn (256 - a % 256) (a0 + a1 - a) = a0 + a1 - a := by unfold mn; split <;> omega
        obtain ⟨gk, rfl⟩ : ∃ m, gk = m + 1 := ⟨gk - 1, by have := HQ.out; omega⟩
        have HE2 : Aside0 ((l ++ [⟨a / 256, a % 256, a0 + a1 - a⟩]) ++ prts gk (a + (a0 + a1 - a)) (a0 + a1) = prts 40 a0 (a0 + a1)) := ⟨by
          have h9 := HE.out
          rw [prts, if_pos hlt, hmn] at h9
          rw [List.append_assoc]
          exact h9⟩
        clear HE hmn
        have hlw := HBH.out.size
        go_wp2_with (go_at_call 21; go_loud (refine (parts1 ⟨a / 256, a % 256, a0 + a1 - a⟩ B base v l w0 _ HBH.out (by omega) hb BH.out HH.out (by have := HL.out; omega)).mono ?_); rintro e w1 ⟨rfl, v1, q1, q2, q3⟩; have BH2 := Aside0.mk q1; have HH2 := Aside0.mk q2; have HBH2 := Aside0.mk q3; clear q1 q2 q3)
        go_roundg gk
        case measure => omega
        case rel => exact ⟨a + (a0 + a1 - a), v1, l ++ [⟨a / 256, a % 256, a0 + a1 - a⟩], rfl, HE2, by omega, by omega, ⟨by have := HL.out; simp; omega⟩, ⟨by have := HQ.out; omega⟩, BH2, HH2, HBH2⟩
      · have hmn : mn (256 - a % 256) (a0 + a1 - a) = 256 - a % 256 := by unfold mn; split <;> omega
        obtain ⟨gk, rfl⟩ : ∃ m, gk = m + 1 := ⟨gk - 1, by have := HQ.out; omega⟩
        have HE2 : Aside0 ((l ++ [⟨a / 256, a % 256, 256 - a % 256⟩]) ++ prts gk (a + (256 - a % 256)) (a0 + a1) = prts 40 a0 (a0 + a1)) := ⟨by
          have h9 := HE.out
          rw [prts, if_pos hlt, hmn] at h9
          rw [List.append_assoc]
          exact h9⟩
        clear HE hmn
        have hlw := HBH.out.size
        go_wp2_with (go_at_call 21; go_loud (refine (parts1 ⟨a / 256, a % 256, 256 - a % 256⟩ B base v l w0 _ HBH.out (by omega) hb BH.out HH.out (by have := HL.out; omega)).mono ?_); rintro e w1 ⟨rfl, v1, q1, q2, q3⟩; have BH2 := Aside0.mk q1; have HH2 := Aside0.mk q2; have HBH2 := Aside0.mk q3; clear q1 q2 q3)
        go_roundg gk
        case measure => omega
        case rel => exact ⟨a + (256 - a % 256), v1, l ++ [⟨a / 256, a % 256, 256 - a % 256⟩], rfl, HE2, by omega, by omega, ⟨by have := HL.out; simp; omega⟩, ⟨by have := HQ.out; omega⟩, BH2, HH2, HBH2⟩
    · have hend : prts gk a (a0 + a1) = [] := by cases gk with | zero => rfl | succ k => rw [prts, if_neg hlt]
      have HE2 := HE.out
      rw [hend, List.append_nil] at HE2
      subst HE2
      clear HE hend
      go_wp2
      go_ret
      exact ⟨rfl, v, BH.out, HH.out, HBH.out⟩

/-- No span: nothing is gone through. -/
theorem each_no (a0 a1 : Int) (hmay : mayF a0 a1 ≠ 0) (f : Value) (w : World) :
    Calls Try.prog 20 #[.int .i64 a0, .int .i64 a1, f] w fun e w' => e = .returned (.int .i64 (mayF a0 a1)) ∧ w = w' := by
  have HMA := Aside0.mk (may_calls a0 a1)
  obtain ⟨r, hr⟩ : ∃ r, r = mayF a0 a1 := ⟨_, rfl⟩
  rw [← hr] at HMA hmay ⊢
  clear hr
  have c0 : (r != 0) = true := bne_iff_ne.2 hmay
  go_enter Try.func20, Try.ntmps20
  go_wp2_with (go_at_call 13; refine (HMA.out _).mono ?_; rintro e w' ⟨rfl, rfl⟩)
  go_ret
  exact ⟨rfl, rfl⟩
def span_Parts.f (a0 a1 : Int) : Option (List S28 × Int) := some (if mayF a0 a1 = 0 then (prts 40 a0 (a0 + a1), 0) else ([], mayF a0 a1))
set_option maxHeartbeats 4000000 in
set_option maxRecDepth 100000 in
theorem span_Parts.calls (a0 a1 : Int) (r1 : List S28) (r2 : Int) (w : World) (h : span_Parts.f a0 a1 = some (r1, r2)) :
    Calls Try.prog 6 #[.int .i64 a0, .int .i64 a1] w fun e w' => ∃ v0_ : Value, e = .returned (.tuple #[v0_, .int .i64 r2]) ∧ Kd.R k28 28 w' w.heap.size (fun _ => True) v0_ r1 ∧ Below w.heap.size w w' := by
  unfold span_Parts.f at h
  by_cases hm : mayF a0 a1 = 0
  · rw [if_pos hm] at h
    simp only [Option.some.injEq, Prod.mk.injEq] at h
    obtain ⟨rfl, rfl⟩ := h
    have HE := fun w1 B v (b1 : Below w.heap.size w w1) b2 b3 b4 => each1 a0 a1 hm B w.heap.size v w w1 b1 (Nat.le_refl _) b2 b3 b4
    have HEA := Aside0.mk HE
    clear HE hm
    go_enter Try.func6, Try.ntmps6
    go_wp2_with (go_at_call 20; refine (HEA.out _ w.heap.size (.slice none 0 0) ((Below.refl _ _).alloc (Nat.le_refl _) _) (Nat.le_refl _) (blk_new _ _) (Kd.R_nil _ _ _ _ _)).mono ?_; rintro e w1 ⟨rfl, v1, q1, q2, q3⟩; obtain ⟨A1, c1, rfl⟩ := Kd.R_slice q2; have hcz : w1.cell? ⟨w.heap.size, 0, none⟩ = some (.slice A1 (prts 40 a0 (a0 + a1)).length c1) := (blk_cell q1 0).trans rfl; have QQ := Aside0.mk q2; have QB := Aside0.mk q3; clear q1 q2 q3)
    go_ret2
    exact ⟨_, rfl, Kd.R_mono QQ.out (fun _ _ => trivial), QB.out⟩
  · rw [if_neg hm] at h
    simp only [Option.some.injEq, Prod.mk.injEq] at h
    obtain ⟨rfl, rfl⟩ := h
    have HEA := Aside0.mk (fun f w1 => each_no a0 a1 hm f w1)
    obtain ⟨r, hr⟩ : ∃ r, r = mayF a0 a1 := ⟨_, rfl⟩
    rw [← hr] at HEA ⊢
    clear hr hm
    have hcz : (w.alloc (.cells #[.slice none 0 0] 22)).cell? ⟨w.heap.size, 0, none⟩ = some (.slice none 0 0) := (blk_cell (blk_new _ _) 0).trans rfl
    go_enter Try.func6, Try.ntmps6
    go_wp2_with (go_at_call 20; refine (HEA.out _ _).mono ?_; rintro e w1 ⟨rfl, rfl⟩)
    go_ret2
    exact ⟨_, rfl, Kd.R_nil _ _ _ _ _, (Below.refl _ _).alloc (Nat.le_refl _) _⟩


/-! ### span_Pages: function 8 -/
def span_Pages.f (a0 : Int) : Option (Int) := if a0 < 1 then (some 0) else (some (wrap64 ((wrap64 (Int.tdiv (wrap64 (a0 - 1)) 256)) + 1)))
set_option maxHeartbeats 8000000 in
set_option maxRecDepth 100000 in
theorem span_Pages.calls (a0 : Int) (r : Int) (w : World) (h : span_Pages.f a0 = some r) :
    Calls Try.prog 8 #[.int .i64 a0] w fun e w' => e = .returned (.int .i64 r) ∧ Drawn0 w w' := by
  have H : (if a0 < 1 then (some 0) else (some (wrap64 ((wrap64 (Int.tdiv (wrap64 (a0 - 1)) 256)) + 1)))) = some r := h
  clear h
  by_cases c2 : a0 < 1
  · rw [if_pos c2] at H
    have c2b0 : decide (a0 < 1) = true := decide_eq_true c2
    clear c2
    obtain rfl := Option.some.inj H
    go_enter Try.func8, Try.ntmps8
    go_wp2
    go_ret
    exact ⟨by first | rfl | (simp; done) | (simp [*]; done), by repeat (first | exact Drawn0.refl _ | apply Drawn0.step)⟩
  · rw [if_neg c2] at H
    have c2b0 : decide (a0 < 1) = false := decide_eq_false c2
    clear c2
    obtain rfl := Option.some.inj H
    go_enter Try.func8, Try.ntmps8
    go_wp2
    go_ret
    exact ⟨by first | rfl | (simp; done) | (simp [*]; done), by repeat (first | exact Drawn0.refl _ | apply Drawn0.step)⟩

/-! ### carlinglaw26_alive: function 7 -/
def carlinglaw26_alive.f  : Option (Bool) := (span_Parts.f 250 10).bind fun bt101 => ((span_Parts.f 8192 1).bind fun bt105 => (if bt101.2 = 0 then (if (bt101.1.length : Int) = 2 then (if 0 < (bt101.1.length : Int) then (if (((rd_T28 bt101.1 0).f0) == 0 && (((rd_T28 bt101.1 0).f1) == 250 && (((rd_T28 bt101.1 0).f2) == 6))) = true then (if 1 < (bt101.1.length : Int) then (if (((rd_T28 bt101.1 1).f0) == 1 && (((rd_T28 bt101.1 1).f1) == 0 && (((rd_T28 bt101.1 1).f2) == 4))) = true then (if bt105.2 = 18 then ((span_Pages.f 257).bind fun t111 => (some (t111 == 2))) else (some false)) else (some false)) else (none)) else (some false)) else (none)) else (some false)) else (some false)))
set_option maxHeartbeats 8000000 in
set_option maxRecDepth 100000 in
theorem carlinglaw26_alive.calls  (r : Bool) (w : World) (h : carlinglaw26_alive.f  = some r) :
    Calls Try.prog 7 #[] w fun e w' => e = .returned (.bool r) ∧ Below w.heap.size w w' := by
  have hu28 := Try.underlying28
  have HB := Aside0.mk (Below.refl w.heap.size w)
  have H : ((span_Parts.f 250 10).bind fun bt101 => ((span_Parts.f 8192 1).bind fun bt105 => (if bt101.2 = 0 then (if (bt101.1.length : Int) = 2 then (if 0 < (bt101.1.length : Int) then (if (((rd_T28 bt101.1 0).f0) == 0 && (((rd_T28 bt101.1 0).f1) == 250 && (((rd_T28 bt101.1 0).f2) == 6))) = true then (if 1 < (bt101.1.length : Int) then (if (((rd_T28 bt101.1 1).f0) == 1 && (((rd_T28 bt101.1 1).f1) == 0 && (((rd_T28 bt101.1 1).f2) == 4))) = true then (if bt105.2 = 18 then ((span_Pages.f 257).bind fun t111 => (some (t111 == 2))) else (some false)) else (some false)) else (none)) else (some false)) else (none)) else (some false)) else (some false)))) = some r := h
  clear h
  replace H := Option.bind_eq_some_iff.mp H
  obtain ⟨⟨t101, t102⟩, A10, H⟩ := H
  replace H : ((span_Parts.f 8192 1).bind fun bt105 => (if t102 = 0 then (if (t101.length : Int) = 2 then (if 0 < (t101.length : Int) then (if (((rd_T28 t101 0).f0) == 0 && (((rd_T28 t101 0).f1) == 250 && (((rd_T28 t101 0).f2) == 6))) = true then (if 1 < (t101.length : Int) then (if (((rd_T28 t101 1).f0) == 1 && (((rd_T28 t101 1).f1) == 0 && (((rd_T28 t101 1).f2) == 4))) = true then (if bt105.2 = 18 then ((span_Pages.f 257).bind fun t111 => (some (t111 == 2))) else (some false)) else (some false)) else (none)) else (some false)) else (none)) else (some false)) else (some false))) = some r := H
  have A1 := Aside0.mk A10
  clear A10
  replace H := Option.bind_eq_some_iff.mp H
  obtain ⟨⟨t105, t106⟩, A20, H⟩ := H
  replace H : (if t102 = 0 then (if (t101.length : Int) = 2 then (if 0 < (t101.length : Int) then (if (((rd_T28 t101 0).f0) == 0 && (((rd_T28 t101 0).f1) == 250 && (((rd_T28 t101 0).f2) == 6))) = true then (if 1 < (t101.length : Int) then (if (((rd_T28 t101 1).f0) == 1 && (((rd_T28 t101 1).f1) == 0 && (((rd_T28 t101 1).f2) == 4))) = true then (if t106 = 18 then ((span_Pages.f 257).bind fun t111 => (some (t111 == 2))) else (some false)) else (some false)) else (none)) else (some false)) else (none)) else (some false)) else (some false)) = some r := H
  have A2 := Aside0.mk A20
  clear A20
  by_cases c3 : t102 = 0
  · rw [if_pos c3] at H
    have c3b0 : (t102 == 0) = true := beq_iff_eq.mpr c3
    have c3b1 : (t102 != 0) = false := bne_eq_false_iff_eq.mpr c3
    clear c3
    by_cases c4 : (t101.length : Int) = 2
    · rw [if_pos c4] at H
      have c4b0 : ((t101.length : Int) == 2) = true := beq_iff_eq.mpr c4
      have c4b1 : ((t101.length : Int) != 2) = false := bne_eq_false_iff_eq.mpr c4
      clear c4
      by_cases c5 : 0 < (t101.length : Int)
      · rw [if_pos c5] at H
        have c5b0 : decide (0 < (t101.length : Int)) = true := decide_eq_true c5
        have c5b1 : decide (0 < t101.length) = true := decide_eq_true (by omega)
        clear c5
        by_cases c6 : (((rd_T28 t101 0).f0) == 0 && (((rd_T28 t101 0).f1) == 250 && (((rd_T28 t101 0).f2) == 6))) = true
        · rw [if_pos c6] at H
          have c6b0 : (((rd_T28 t101 0).f0) == 0 && (((rd_T28 t101 0).f1) == 250 && (((rd_T28 t101 0).f2) == 6))) = true := c6
          (try (have c6b1 : decide (((rd_T28 t101 0).f0) = 0 && (((rd_T28 t101 0).f1) == 250 && (((rd_T28 t101 0).f2) == 6))) = true := by simpa using c6))
          (try (have c6b2 : (((rd_T28 t101 0).f0) == 0 && (((rd_T28 t101 0).f1) == 250 && (((rd_T28 t101 0).f2) == 6))) = true := by simpa using c6))
          clear c6
          by_cases c7 : 1 < (t101.length : Int)
          · rw [if_pos c7] at H
            have c7b0 : decide (1 < (t101.length : Int)) = true := decide_eq_true c7
            have c7b1 : decide (1 < t101.length) = true := decide_eq_true (by omega)
            clear c7
            by_cases c8 : (((rd_T28 t101 1).f0) == 1 && (((rd_T28 t101 1).f1) == 0 && (((rd_T28 t101 1).f2) == 4))) = true
            · rw [if_pos c8] at H
              have c8b0 : (((rd_T28 t101 1).f0) == 1 && (((rd_T28 t101 1).f1) == 0 && (((rd_T28 t101 1).f2) == 4))) = true := c8
              (try (have c8b1 : decide (((rd_T28 t101 1).f0) = 1 && (((rd_T28 t101 1).f1) == 0 && (((rd_T28 t101 1).f2) == 4))) = true := by simpa using c8))
              (try (have c8b2 : (((rd_T28 t101 1).f0) == 1 && (((rd_T28 t101 1).f1) == 0 && (((rd_T28 t101 1).f2) == 4))) = true := by simpa using c8))
              clear c8
              by_cases c9 : t106 = 18
              · rw [if_pos c9] at H
                have c9b0 : (t106 == 18) = true := beq_iff_eq.mpr c9
                have c9b1 : (t106 != 18) = false := bne_eq_false_iff_eq.mpr c9
                clear c9
                replace H := Option.bind_eq_some_iff.mp H
                obtain ⟨t111, A100, H⟩ := H
                replace H : (some (t111 == 2)) = some r := H
                have A10 := Aside0.mk A100
                clear A100
                obtain rfl := Option.some.inj H
                go_enter Try.func7, Try.ntmps7
                go_wp2_with (first | ((with_reducible refine gate_callee (f := 6) rfl ?_); refine goesL_ (some 6) rfl rfl Try.func6 (by kernel_rfl) rfl #[.int .i64 250, .int .i64 10] rfl (by (try simp only [List.map_toArray, List.map_cons, List.map_nil]); first | done | rfl | (simp only [List.length_drop, List.length_take]; rfl)) ?_; (with_reducible refine (span_Parts.calls 250 10 t101 t102 _ A1.out).mono ?_); rintro e w11 ⟨v103, rfl, ho0, hb⟩; refine ⟨_, rfl, ?_⟩; have n0_ := Aside0.mk (Kd.R_lower ho0 (below_size (by repeat (first | (with_reducible first | exact HB.out | apply below_alloc | apply pw_below_drewN | apply below_drew1) | exact HB.out)))); have n1_ := Aside0.mk (below_step (by repeat (first | (with_reducible first | exact HB.out | apply below_alloc | apply pw_below_drewN | apply below_drew1) | exact HB.out)) hb); clear HB; have HO104 := n0_; have HB := n1_; clear n0_ n1_; (try clear hb); (try clear hb2); (try clear hk); (try clear hi); (try clear ho0)) | ((with_reducible refine gate_callee (f := 6) rfl ?_); refine goesL_ (some 10) rfl rfl Try.func6 (by kernel_rfl) rfl #[.int .i64 8192, .int .i64 1] rfl (by (try simp only [List.map_toArray, List.map_cons, List.map_nil]); first | done | rfl | (simp only [List.length_drop, List.length_take]; rfl)) ?_; (with_reducible refine (span_Parts.calls 8192 1 t105 t106 _ A2.out).mono ?_); rintro e w12 ⟨v107, rfl, ho0, hb⟩; refine ⟨_, rfl, ?_⟩; have n0_ := Aside0.mk (Kd.R_elder' (by (with_reducible repeat (first | apply Kd.R_alloc | apply Kd.R_drewN | apply Kd.R_drew)); exact HO104.out) (Kd.R_base ho0) hb); have n1_ := Aside0.mk (Kd.R_lower (Kd.R_new' ho0 (Kd.R_lt (by (with_reducible repeat (first | apply Kd.R_alloc | apply Kd.R_drewN | apply Kd.R_drew)); exact HO104.out))) (below_size (by repeat (first | (with_reducible first | exact HB.out | apply below_alloc | apply pw_below_drewN | apply below_drew1) | exact HB.out)))); have n2_ := Aside0.mk (below_step (by repeat (first | (with_reducible first | exact HB.out | apply below_alloc | apply pw_below_drewN | apply below_drew1) | exact HB.out)) hb); clear HO104; clear HB; have HO104 := n0_; have HO108 := n1_; have HB := n2_; clear n0_ n1_ n2_; (try clear hb); (try clear hb2); (try clear hk); (try clear hi); (try clear ho0); obtain ⟨Ao13, co13, eo13⟩ := Kd.R_slice HO104.out; subst eo13; have p109 : 0 ≤ (0 : Int) := (by omega); have q109 : 0 < (t101.length : Int) := of_decide_eq_true (by first | (with_reducible assumption) | assumption); obtain ⟨ad109, e109, hx109_0, hx109_1, hx109_2⟩ := at_T28 (Kd.R_reads' HO104.out).2.2 0 p109 q109; cases e109; have qi109 : (0 < t101.length) = True := eq_true (by omega); (try rw [show ((0 : Int)).toNat = 0 from rfl] at hx109_0); (try rw [show 0 * 3 = 0 from rfl] at hx109_0); (try rw [Addr.add_zero'] at hx109_0); (try rw [show ((0 : Int)).toNat = 0 from rfl] at hx109_1); (try rw [show 0 * 3 = 0 from rfl] at hx109_1); (try rw [Addr.add_zero'] at hx109_1); (try rw [show ((0 : Int)).toNat = 0 from rfl] at hx109_2); (try rw [show 0 * 3 = 0 from rfl] at hx109_2); (try rw [Addr.add_zero'] at hx109_2); replace p109 := eq_true p109; replace q109 := eq_true q109; have p110 : 0 ≤ (1 : Int) := (by omega); have q110 : 1 < (t101.length : Int) := of_decide_eq_true (by first | (with_reducible assumption) | assumption); obtain ⟨ad110, e110, hx110_0, hx110_1, hx110_2⟩ := at_T28 (Kd.R_reads' HO104.out).2.2 1 p110 q110; obtain rfl : ad109 = ad110 := (by injection e110); (try simp only [show (1 : Int).toNat = 1 from rfl, Nat.reduceMul, Nat.reduceEqDiff, Go.Addr.add, ↓reduceIte] at hx110_0); (try simp only [show (1 : Int).toNat = 1 from rfl, Nat.reduceMul, Nat.reduceEqDiff, Go.Addr.add, ↓reduceIte] at hx110_1); (try simp only [show (1 : Int).toNat = 1 from rfl, Nat.reduceMul, Nat.reduceEqDiff, Go.Addr.add, ↓reduceIte] at hx110_2); have qi110 : (1 < t101.length) = True := eq_true (by omega); (try rw [show ((1 : Int)).toNat = 1 from rfl] at hx110_0); (try rw [show 1 * 3 = 3 from rfl] at hx110_0); (try rw [show ((1 : Int)).toNat = 1 from rfl] at hx110_1); (try rw [show 1 * 3 = 3 from rfl] at hx110_1); (try rw [show ((1 : Int)).toNat = 1 from rfl] at hx110_2); (try rw [show 1 * 3 = 3 from rfl] at hx110_2); replace p110 := eq_true p110; replace q110 := eq_true q110) | (go_at_call 8; (with_reducible refine (span_Pages.calls 257 t111 _ A10.out).mono ?_); rintro e w' ⟨rfl, ⟨nd, rfl⟩⟩))
                go_ret
                exact ⟨by first | rfl | (simp [errW_none, errW_some] <;> rfl) | (simp [*, errW_none, errW_some] <;> rfl), by repeat (first | (with_reducible first | exact HB.out | apply below_alloc | apply pw_below_drewN | apply below_drew1) | exact HB.out)⟩
              · rw [if_neg c9] at H
                have c9b0 : (t106 == 18) = false := beq_eq_false_iff_ne.mpr c9
                have c9b1 : (t106 != 18) = true := bne_iff_ne.mpr c9
                obtain rfl := Option.some.inj H
                go_enter Try.func7, Try.ntmps7
                go_wp2_with (first | ((with_reducible refine gate_callee (f := 6) rfl ?_); refine goesL_ (some 6) rfl rfl Try.func6 (by kernel_rfl) rfl #[.int .i64 250, .int .i64 10] rfl (by (try simp only [List.map_toArray, List.map_cons, List.map_nil]); first | done | rfl | (simp only [List.length_drop, List.length_take]; rfl)) ?_; (with_reducible refine (span_Parts.calls 250 10 t101 t102 _ A1.out).mono ?_); rintro e w14 ⟨v103, rfl, ho0, hb⟩; refine ⟨_, rfl, ?_⟩; have n0_ := Aside0.mk (Kd.R_lower ho0 (below_size (by repeat (first | (with_reducible first | exact HB.out | apply below_alloc | apply pw_below_drewN | apply below_drew1) | exact HB.out)))); have n1_ := Aside0.mk (below_step (by repeat (first | (with_reducible first | exact HB.out | apply below_alloc | apply pw_below_drewN | apply below_drew1) | exact HB.out)) hb); clear HB; have HO104 := n0_; have HB := n1_; clear n0_ n1_; (try clear hb); (try clear hb2); (try clear hk); (try clear hi); (try clear ho0)) | ((with_reducible refine gate_callee (f := 6) rfl ?_); refine goesL_ (some 10) rfl rfl Try.func6 (by kernel_rfl) rfl #[.int .i64 8192, .int .i64 1] rfl (by (try simp only [List.map_toArray, List.map_cons, List.map_nil]); first | done | rfl | (simp only [List.length_drop, List.length_take]; rfl)) ?_; (with_reducible refine (span_Parts.calls 8192 1 t105 t106 _ A2.out).mono ?_); rintro e w15 ⟨v107, rfl, ho0, hb⟩; refine ⟨_, rfl, ?_⟩; have n0_ := Aside0.mk (Kd.R_elder' (by (with_reducible repeat (first | apply Kd.R_alloc | apply Kd.R_drewN | apply Kd.R_drew)); exact HO104.out) (Kd.R_base ho0) hb); have n1_ := Aside0.mk (Kd.R_lower (Kd.R_new' ho0 (Kd.R_lt (by (with_reducible repeat (first | apply Kd.R_alloc | apply Kd.R_drewN | apply Kd.R_drew)); exact HO104.out))) (below_size (by repeat (first | (with_reducible first | exact HB.out | apply below_alloc | apply pw_below_drewN | apply below_drew1) | exact HB.out)))); have n2_ := Aside0.mk (below_step (by repeat (first | (with_reducible first | exact HB.out | apply below_alloc | apply pw_below_drewN | apply below_drew1) | exact HB.out)) hb); clear HO104; clear HB; have HO104 := n0_; have HO108 := n1_; have HB := n2_; clear n0_ n1_ n2_; (try clear hb); (try clear hb2); (try clear hk); (try clear hi); (try clear ho0); obtain ⟨Ao16, co16, eo16⟩ := Kd.R_slice HO104.out; subst eo16; have p109 : 0 ≤ (0 : Int) := (by omega); have q109 : 0 < (t101.length : Int) := of_decide_eq_true (by first | (with_reducible assumption) | assumption); obtain ⟨ad109, e109, hx109_0, hx109_1, hx109_2⟩ := at_T28 (Kd.R_reads' HO104.out).2.2 0 p109 q109; cases e109; have qi109 : (0 < t101.length) = True := eq_true (by omega); (try rw [show ((0 : Int)).toNat = 0 from rfl] at hx109_0); (try rw [show 0 * 3 = 0 from rfl] at hx109_0); (try rw [Addr.add_zero'] at hx109_0); (try rw [show ((0 : Int)).toNat = 0 from rfl] at hx109_1); (try rw [show 0 * 3 = 0 from rfl] at hx109_1); (try rw [Addr.add_zero'] at hx109_1); (try rw [show ((0 : Int)).toNat = 0 from rfl] at hx109_2); (try rw [show 0 * 3 = 0 from rfl] at hx109_2); (try rw [Addr.add_zero'] at hx109_2); replace p109 := eq_true p109; replace q109 := eq_true q109; have p110 : 0 ≤ (1 : Int) := (by omega); have q110 : 1 < (t101.length : Int) := of_decide_eq_true (by first | (with_reducible assumption) | assumption); obtain ⟨ad110, e110, hx110_0, hx110_1, hx110_2⟩ := at_T28 (Kd.R_reads' HO104.out).2.2 1 p110 q110; obtain rfl : ad109 = ad110 := (by injection e110); (try simp only [show (1 : Int).toNat = 1 from rfl, Nat.reduceMul, Nat.reduceEqDiff, Go.Addr.add, ↓reduceIte] at hx110_0); (try simp only [show (1 : Int).toNat = 1 from rfl, Nat.reduceMul, Nat.reduceEqDiff, Go.Addr.add, ↓reduceIte] at hx110_1); (try simp only [show (1 : Int).toNat = 1 from rfl, Nat.reduceMul, Nat.reduceEqDiff, Go.Addr.add, ↓reduceIte] at hx110_2); have qi110 : (1 < t101.length) = True := eq_true (by omega); (try rw [show ((1 : Int)).toNat = 1 from rfl] at hx110_0); (try rw [show 1 * 3 = 3 from rfl] at hx110_0); (try rw [show ((1 : Int)).toNat = 1 from rfl] at hx110_1); (try rw [show 1 * 3 = 3 from rfl] at hx110_1); (try rw [show ((1 : Int)).toNat = 1 from rfl] at hx110_2); (try rw [show 1 * 3 = 3 from rfl] at hx110_2); replace p110 := eq_true p110; replace q110 := eq_true q110))
                go_ret
                exact ⟨by first | rfl | (simp [errW_none, errW_some] <;> rfl) | (simp [*, errW_none, errW_some] <;> rfl), by repeat (first | (with_reducible first | exact HB.out | apply below_alloc | apply pw_below_drewN | apply below_drew1) | exact HB.out)⟩
            · rw [if_neg c8] at H
              have c8b0 : (((rd_T28 t101 1).f0) == 1 && (((rd_T28 t101 1).f1) == 0 && (((rd_T28 t101 1).f2) == 4))) = false := by simpa using c8
              (try (have c8b1 : decide (((rd_T28 t101 1).f0) = 1 && (((rd_T28 t101 1).f1) == 0 && (((rd_T28 t101 1).f2) == 4))) = false := by simpa using c8))
              (try (have c8b2 : (((rd_T28 t101 1).f0) == 1 && (((rd_T28 t101 1).f1) == 0 && (((rd_T28 t101 1).f2) == 4))) = false := by simpa using c8))
              (try (have c8b3 : ¬ (((rd_T28 t101 1).f0) = 1 && (((rd_T28 t101 1).f1) == 0 && (((rd_T28 t101 1).f2) == 4))) := by simpa using c8))
              clear c8
              obtain rfl := Option.some.inj H
              go_enter Try.func7, Try.ntmps7
              go_wp2_with (first | ((with_reducible refine gate_callee (f := 6) rfl ?_); refine goesL_ (some 6) rfl rfl Try.func6 (by kernel_rfl) rfl #[.int .i64 250, .int .i64 10] rfl (by (try simp only [List.map_toArray, List.map_cons, List.map_nil]); first | done | rfl | (simp only [List.length_drop, List.length_take]; rfl)) ?_; (with_reducible refine (span_Parts.calls 250 10 t101 t102 _ A1.out).mono ?_); rintro e w17 ⟨v103, rfl, ho0, hb⟩; refine ⟨_, rfl, ?_⟩; have n0_ := Aside0.mk (Kd.R_lower ho0 (below_size (by repeat (first | (with_reducible first | exact HB.out | apply below_alloc | apply pw_below_drewN | apply below_drew1) | exact HB.out)))); have n1_ := Aside0.mk (below_step (by repeat (first | (with_reducible first | exact HB.out | apply below_alloc | apply pw_below_drewN | apply below_drew1) | exact HB.out)) hb); clear HB; have HO104 := n0_; have HB := n1_; clear n0_ n1_; (try clear hb); (try clear hb2); (try clear hk); (try clear hi); (try clear ho0)) | ((with_reducible refine gate_callee (f := 6) rfl ?_); refine goesL_ (some 10) rfl rfl Try.func6 (by kernel_rfl) rfl #[.int .i64 8192, .int .i64 1] rfl (by (try simp only [List.map_toArray, List.map_cons, List.map_nil]); first | done | rfl | (simp only [List.length_drop, List.length_take]; rfl)) ?_; (with_reducible refine (span_Parts.calls 8192 1 t105 t106 _ A2.out).mono ?_); rintro e w18 ⟨v107, rfl, ho0, hb⟩; refine ⟨_, rfl, ?_⟩; have n0_ := Aside0.mk (Kd.R_elder' (by (with_reducible repeat (first | apply Kd.R_alloc | apply Kd.R_drewN | apply Kd.R_drew)); exact HO104.out) (Kd.R_base ho0) hb); have n1_ := Aside0.mk (Kd.R_lower (Kd.R_new' ho0 (Kd.R_lt (by (with_reducible repeat (first | apply Kd.R_alloc | apply Kd.R_drewN | apply Kd.R_drew)); exact HO104.out))) (below_size (by repeat (first | (with_reducible first | exact HB.out | apply below_alloc | apply pw_below_drewN | apply below_drew1) | exact HB.out)))); have n2_ := Aside0.mk (below_step (by repeat (first | (with_reducible first | exact HB.out | apply below_alloc | apply pw_below_drewN | apply below_drew1) | exact HB.out)) hb); clear HO104; clear HB; have HO104 := n0_; have HO108 := n1_; have HB := n2_; clear n0_ n1_ n2_; (try clear hb); (try clear hb2); (try clear hk); (try clear hi); (try clear ho0); obtain ⟨Ao19, co19, eo19⟩ := Kd.R_slice HO104.out; subst eo19; have p109 : 0 ≤ (0 : Int) := (by omega); have q109 : 0 < (t101.length : Int) := of_decide_eq_true (by first | (with_reducible assumption) | assumption); obtain ⟨ad109, e109, hx109_0, hx109_1, hx109_2⟩ := at_T28 (Kd.R_reads' HO104.out).2.2 0 p109 q109; cases e109; have qi109 : (0 < t101.length) = True := eq_true (by omega); (try rw [show ((0 : Int)).toNat = 0 from rfl] at hx109_0); (try rw [show 0 * 3 = 0 from rfl] at hx109_0); (try rw [Addr.add_zero'] at hx109_0); (try rw [show ((0 : Int)).toNat = 0 from rfl] at hx109_1); (try rw [show 0 * 3 = 0 from rfl] at hx109_1); (try rw [Addr.add_zero'] at hx109_1); (try rw [show ((0 : Int)).toNat = 0 from rfl] at hx109_2); (try rw [show 0 * 3 = 0 from rfl] at hx109_2); (try rw [Addr.add_zero'] at hx109_2); replace p109 := eq_true p109; replace q109 := eq_true q109; have p110 : 0 ≤ (1 : Int) := (by omega); have q110 : 1 < (t101.length : Int) := of_decide_eq_true (by first | (with_reducible assumption) | assumption); obtain ⟨ad110, e110, hx110_0, hx110_1, hx110_2⟩ := at_T28 (Kd.R_reads' HO104.out).2.2 1 p110 q110; obtain rfl : ad109 = ad110 := (by injection e110); (try simp only [show (1 : Int).toNat = 1 from rfl, Nat.reduceMul, Nat.reduceEqDiff, Go.Addr.add, ↓reduceIte] at hx110_0); (try simp only [show (1 : Int).toNat = 1 from rfl, Nat.reduceMul, Nat.reduceEqDiff, Go.Addr.add, ↓reduceIte] at hx110_1); (try simp only [show (1 : Int).toNat = 1 from rfl, Nat.reduceMul, Nat.reduceEqDiff, Go.Addr.add, ↓reduceIte] at hx110_2); have qi110 : (1 < t101.length) = True := eq_true (by omega); (try rw [show ((1 : Int)).toNat = 1 from rfl] at hx110_0); (try rw [show 1 * 3 = 3 from rfl] at hx110_0); (try rw [show ((1 : Int)).toNat = 1 from rfl] at hx110_1); (try rw [show 1 * 3 = 3 from rfl] at hx110_1); (try rw [show ((1 : Int)).toNat = 1 from rfl] at hx110_2); (try rw [show 1 * 3 = 3 from rfl] at hx110_2); replace p110 := eq_true p110; replace q110 := eq_true q110))
              go_ret
              exact ⟨by first | rfl | (simp [errW_none, errW_some] <;> rfl) | (simp [*, errW_none, errW_some] <;> rfl), by repeat (first | (with_reducible first | exact HB.out | apply below_alloc | apply pw_below_drewN | apply below_drew1) | exact HB.out)⟩
          · rw [if_neg c7] at H
            exact absurd H (by simp)
        · rw [if_neg c6] at H
          have c6b0 : (((rd_T28 t101 0).f0) == 0 && (((rd_T28 t101 0).f1) == 250 && (((rd_T28 t101 0).f2) == 6))) = false := by simpa using c6
          (try (have c6b1 : decide (((rd_T28 t101 0).f0) = 0 && (((rd_T28 t101 0).f1) == 250 && (((rd_T28 t101 0).f2) == 6))) = false := by simpa using c6))
          (try (have c6b2 : (((rd_T28 t101 0).f0) == 0 && (((rd_T28 t101 0).f1) == 250 && (((rd_T28 t101 0).f2) == 6))) = false := by simpa using c6))
          (try (have c6b3 : ¬ (((rd_T28 t101 0).f0) = 0 && (((rd_T28 t101 0).f1) == 250 && (((rd_T28 t101 0).f2) == 6))) := by simpa using c6))
          clear c6
          obtain rfl := Option.some.inj H
          go_enter Try.func7, Try.ntmps7
          go_wp2_with (first | ((with_reducible refine gate_callee (f := 6) rfl ?_); refine goesL_ (some 6) rfl rfl Try.func6 (by kernel_rfl) rfl #[.int .i64 250, .int .i64 10] rfl (by (try simp only [List.map_toArray, List.map_cons, List.map_nil]); first | done | rfl | (simp only [List.length_drop, List.length_take]; rfl)) ?_; (with_reducible refine (span_Parts.calls 250 10 t101 t102 _ A1.out).mono ?_); rintro e w20 ⟨v103, rfl, ho0, hb⟩; refine ⟨_, rfl, ?_⟩; have n0_ := Aside0.mk (Kd.R_lower ho0 (below_size (by repeat (first | (with_reducible first | exact HB.out | apply below_alloc | apply pw_below_drewN | apply below_drew1) | exact HB.out)))); have n1_ := Aside0.mk (below_step (by repeat (first | (with_reducible first | exact HB.out | apply below_alloc | apply pw_below_drewN | apply below_drew1) | exact HB.out)) hb); clear HB; have HO104 := n0_; have HB := n1_; clear n0_ n1_; (try clear hb); (try clear hb2); (try clear hk); (try clear hi); (try clear ho0)) | ((with_reducible refine gate_callee (f := 6) rfl ?_); refine goesL_ (some 10) rfl rfl Try.func6 (by kernel_rfl) rfl #[.int .i64 8192, .int .i64 1] rfl (by (try simp only [List.map_toArray, List.map_cons, List.map_nil]); first | done | rfl | (simp only [List.length_drop, List.length_take]; rfl)) ?_; (with_reducible refine (span_Parts.calls 8192 1 t105 t106 _ A2.out).mono ?_); rintro e w21 ⟨v107, rfl, ho0, hb⟩; refine ⟨_, rfl, ?_⟩; have n0_ := Aside0.mk (Kd.R_elder' (by (with_reducible repeat (first | apply Kd.R_alloc | apply Kd.R_drewN | apply Kd.R_drew)); exact HO104.out) (Kd.R_base ho0) hb); have n1_ := Aside0.mk (Kd.R_lower (Kd.R_new' ho0 (Kd.R_lt (by (with_reducible repeat (first | apply Kd.R_alloc | apply Kd.R_drewN | apply Kd.R_drew)); exact HO104.out))) (below_size (by repeat (first | (with_reducible first | exact HB.out | apply below_alloc | apply pw_below_drewN | apply below_drew1) | exact HB.out)))); have n2_ := Aside0.mk (below_step (by repeat (first | (with_reducible first | exact HB.out | apply below_alloc | apply pw_below_drewN | apply below_drew1) | exact HB.out)) hb); clear HO104; clear HB; have HO104 := n0_; have HO108 := n1_; have HB := n2_; clear n0_ n1_ n2_; (try clear hb); (try clear hb2); (try clear hk); (try clear hi); (try clear ho0); obtain ⟨Ao22, co22, eo22⟩ := Kd.R_slice HO104.out; subst eo22; have p109 : 0 ≤ (0 : Int) := (by omega); have q109 : 0 < (t101.length : Int) := of_decide_eq_true (by first | (with_reducible assumption) | assumption); obtain ⟨ad109, e109, hx109_0, hx109_1, hx109_2⟩ := at_T28 (Kd.R_reads' HO104.out).2.2 0 p109 q109; cases e109; have qi109 : (0 < t101.length) = True := eq_true (by omega); (try rw [show ((0 : Int)).toNat = 0 from rfl] at hx109_0); (try rw [show 0 * 3 = 0 from rfl] at hx109_0); (try rw [Addr.add_zero'] at hx109_0); (try rw [show ((0 : Int)).toNat = 0 from rfl] at hx109_1); (try rw [show 0 * 3 = 0 from rfl] at hx109_1); (try rw [Addr.add_zero'] at hx109_1); (try rw [show ((0 : Int)).toNat = 0 from rfl] at hx109_2); (try rw [show 0 * 3 = 0 from rfl] at hx109_2); (try rw [Addr.add_zero'] at hx109_2); replace p109 := eq_true p109; replace q109 := eq_true q109))
          go_ret
          exact ⟨by first | rfl | (simp [errW_none, errW_some] <;> rfl) | (simp [*, errW_none, errW_some] <;> rfl), by repeat (first | (with_reducible first | exact HB.out | apply below_alloc | apply pw_below_drewN | apply below_drew1) | exact HB.out)⟩
      · rw [if_neg c5] at H
        exact absurd H (by simp)
    · rw [if_neg c4] at H
      have c4b0 : ((t101.length : Int) == 2) = false := beq_eq_false_iff_ne.mpr c4
      have c4b1 : ((t101.length : Int) != 2) = true := bne_iff_ne.mpr c4
      obtain rfl := Option.some.inj H
      go_enter Try.func7, Try.ntmps7
      go_wp2_with (first | ((with_reducible refine gate_callee (f := 6) rfl ?_); refine goesL_ (some 6) rfl rfl Try.func6 (by kernel_rfl) rfl #[.int .i64 250, .int .i64 10] rfl (by (try simp only [List.map_toArray, List.map_cons, List.map_nil]); first | done | rfl | (simp only [List.length_drop, List.length_take]; rfl)) ?_; (with_reducible refine (span_Parts.calls 250 10 t101 t102 _ A1.out).mono ?_); rintro e w23 ⟨v103, rfl, ho0, hb⟩; refine ⟨_, rfl, ?_⟩; have n0_ := Aside0.mk (Kd.R_lower ho0 (below_size (by repeat (first | (with_reducible first | exact HB.out | apply below_alloc | apply pw_below_drewN | apply below_drew1) | exact HB.out)))); have n1_ := Aside0.mk (below_step (by repeat (first | (with_reducible first | exact HB.out | apply below_alloc | apply pw_below_drewN | apply below_drew1) | exact HB.out)) hb); clear HB; have HO104 := n0_; have HB := n1_; clear n0_ n1_; (try clear hb); (try clear hb2); (try clear hk); (try clear hi); (try clear ho0)) | ((with_reducible refine gate_callee (f := 6) rfl ?_); refine goesL_ (some 10) rfl rfl Try.func6 (by kernel_rfl) rfl #[.int .i64 8192, .int .i64 1] rfl (by (try simp only [List.map_toArray, List.map_cons, List.map_nil]); first | done | rfl | (simp only [List.length_drop, List.length_take]; rfl)) ?_; (with_reducible refine (span_Parts.calls 8192 1 t105 t106 _ A2.out).mono ?_); rintro e w24 ⟨v107, rfl, ho0, hb⟩; refine ⟨_, rfl, ?_⟩; have n0_ := Aside0.mk (Kd.R_elder' (by (with_reducible repeat (first | apply Kd.R_alloc | apply Kd.R_drewN | apply Kd.R_drew)); exact HO104.out) (Kd.R_base ho0) hb); have n1_ := Aside0.mk (Kd.R_lower (Kd.R_new' ho0 (Kd.R_lt (by (with_reducible repeat (first | apply Kd.R_alloc | apply Kd.R_drewN | apply Kd.R_drew)); exact HO104.out))) (below_size (by repeat (first | (with_reducible first | exact HB.out | apply below_alloc | apply pw_below_drewN | apply below_drew1) | exact HB.out)))); have n2_ := Aside0.mk (below_step (by repeat (first | (with_reducible first | exact HB.out | apply below_alloc | apply pw_below_drewN | apply below_drew1) | exact HB.out)) hb); clear HO104; clear HB; have HO104 := n0_; have HO108 := n1_; have HB := n2_; clear n0_ n1_ n2_; (try clear hb); (try clear hb2); (try clear hk); (try clear hi); (try clear ho0); obtain ⟨Ao25, co25, eo25⟩ := Kd.R_slice HO104.out; subst eo25))
      go_ret
      exact ⟨by first | rfl | (simp [errW_none, errW_some] <;> rfl) | (simp [*, errW_none, errW_some] <;> rfl), by repeat (first | (with_reducible first | exact HB.out | apply below_alloc | apply pw_below_drewN | apply below_drew1) | exact HB.out)⟩
  · rw [if_neg c3] at H
    have c3b0 : (t102 == 0) = false := beq_eq_false_iff_ne.mpr c3
    have c3b1 : (t102 != 0) = true := bne_iff_ne.mpr c3
    obtain rfl := Option.some.inj H
    go_enter Try.func7, Try.ntmps7
    go_wp2_with (first | ((with_reducible refine gate_callee (f := 6) rfl ?_); refine goesL_ (some 6) rfl rfl Try.func6 (by kernel_rfl) rfl #[.int .i64 250, .int .i64 10] rfl (by (try simp only [List.map_toArray, List.map_cons, List.map_nil]); first | done | rfl | (simp only [List.length_drop, List.length_take]; rfl)) ?_; (with_reducible refine (span_Parts.calls 250 10 t101 t102 _ A1.out).mono ?_); rintro e w26 ⟨v103, rfl, ho0, hb⟩; refine ⟨_, rfl, ?_⟩; have n0_ := Aside0.mk (Kd.R_lower ho0 (below_size (by repeat (first | (with_reducible first | exact HB.out | apply below_alloc | apply pw_below_drewN | apply below_drew1) | exact HB.out)))); have n1_ := Aside0.mk (below_step (by repeat (first | (with_reducible first | exact HB.out | apply below_alloc | apply pw_below_drewN | apply below_drew1) | exact HB.out)) hb); clear HB; have HO104 := n0_; have HB := n1_; clear n0_ n1_; (try clear hb); (try clear hb2); (try clear hk); (try clear hi); (try clear ho0)) | ((with_reducible refine gate_callee (f := 6) rfl ?_); refine goesL_ (some 10) rfl rfl Try.func6 (by kernel_rfl) rfl #[.int .i64 8192, .int .i64 1] rfl (by (try simp only [List.map_toArray, List.map_cons, List.map_nil]); first | done | rfl | (simp only [List.length_drop, List.length_take]; rfl)) ?_; (with_reducible refine (span_Parts.calls 8192 1 t105 t106 _ A2.out).mono ?_); rintro e w27 ⟨v107, rfl, ho0, hb⟩; refine ⟨_, rfl, ?_⟩; have n0_ := Aside0.mk (Kd.R_elder' (by (with_reducible repeat (first | apply Kd.R_alloc | apply Kd.R_drewN | apply Kd.R_drew)); exact HO104.out) (Kd.R_base ho0) hb); have n1_ := Aside0.mk (Kd.R_lower (Kd.R_new' ho0 (Kd.R_lt (by (with_reducible repeat (first | apply Kd.R_alloc | apply Kd.R_drewN | apply Kd.R_drew)); exact HO104.out))) (below_size (by repeat (first | (with_reducible first | exact HB.out | apply below_alloc | apply pw_below_drewN | apply below_drew1) | exact HB.out)))); have n2_ := Aside0.mk (below_step (by repeat (first | (with_reducible first | exact HB.out | apply below_alloc | apply pw_below_drewN | apply below_drew1) | exact HB.out)) hb); clear HO104; clear HB; have HO104 := n0_; have HO108 := n1_; have HB := n2_; clear n0_ n1_ n2_; (try clear hb); (try clear hb2); (try clear hk); (try clear hi); (try clear ho0)))
    go_ret
    exact ⟨by first | rfl | (simp [errW_none, errW_some] <;> rfl) | (simp [*, errW_none, errW_some] <;> rfl), by repeat (first | (with_reducible first | exact HB.out | apply below_alloc | apply pw_below_drewN | apply below_drew1) | exact HB.out)⟩

/-! ### carlingref26_May: function 14 -/
def carlingref26_May.j0 : Nat → Int → Int → Bool → Option (Int)
  | 0, _, _, _ => none
  | k + 1, x0, x1, x10 => if x10 = true then (some 1) else (if x0 > 8192 then (some 18) else (if x1 > (wrap64 (8192 - x0)) then (some 18) else (some 0)))
def carlingref26_May.f (k : Nat) (a0 : Int) (a1 : Int) : Option (Int) := if a0 < 0 then (carlingref26_May.j0 k a0 a1 true) else (carlingref26_May.j0 k a0 a1 (decide (a1 < 0)))
theorem carlingref26_May.mono_l : ∀ k, (∀ y0 y1 y2, LeO (carlingref26_May.j0 k y0 y1 y2) (carlingref26_May.j0 (k + 1) y0 y1 y2))
  | 0 => fun _ _ _ r h => by simp [carlingref26_May.j0] at h
  | k + 1 => by
    have ih0 := carlingref26_May.mono_l k
    · intro y0 y1 y2
      unfold carlingref26_May.j0
      repeat' first
      | (with_reducible exact ih0 _ _ _)
      | (with_reducible exact LeO.refl _)
      | (with_reducible exact LeO.none _)
      | (with_reducible refine LeO.ite ?_ ?_)
      | (with_reducible refine LeO.bind ?_ (fun _ => ?_))
      | exact ih0 _ _ _
      | exact LeO.none _
      | refine LeO.ite ?_ ?_
      | refine LeO.bind ?_ (fun _ => ?_)
theorem carlingref26_May.mono : ∀ a0 a1 k, LeO (carlingref26_May.f k a0 a1) (carlingref26_May.f (k + 1) a0 a1) := by
  intro a0 a1 k
  have ih0 := carlingref26_May.mono_l k
  unfold carlingref26_May.f
  repeat' first
      | (with_reducible exact ih0 _ _ _)
      | (with_reducible exact LeO.refl _)
      | (with_reducible exact LeO.none _)
      | (with_reducible refine LeO.ite ?_ ?_)
      | (with_reducible refine LeO.bind ?_ (fun _ => ?_))
      | exact ih0 _ _ _
      | exact LeO.none _
      | refine LeO.ite ?_ ?_
      | refine LeO.bind ?_ (fun _ => ?_)
set_option maxHeartbeats 8000000 in
set_option maxRecDepth 100000 in
theorem carlingref26_May.calls (k : Nat) (a0 : Int) (a1 : Int) (r : Int) (w : World) (h : carlingref26_May.f k a0 a1 = some r) :
    Calls Try.prog 14 #[.int .i64 a0, .int .i64 a1] w fun e w' => e = .returned (.int .i64 r) ∧ Drawn0 w w' := by
  have H : (if a0 < 0 then (carlingref26_May.j0 k a0 a1 true) else (carlingref26_May.j0 k a0 a1 (decide (a1 < 0)))) = some r := h
  clear h
  have HC3 := Aside0.mk H
  clear H
  go_enter Try.func14, Try.ntmps14
  go_upto_region 1 with (fail)
  go_cut [10] (fun v10 wc => ∃ (kq : Nat) (x10_2 : Bool), v10 = .bool x10_2 ∧ Aside0 (carlingref26_May.j0 kq a0 a1 x10_2 = some r) ∧ Aside0 (kq ≤ k) ∧ Drawn0 w wc)
  case first =>
    have H := HC3.out
    clear HC3
    by_cases c4 : a0 < 0
    · rw [if_pos c4] at H
      have c4b0 : decide (a0 < 0) = true := decide_eq_true c4
      clear c4
      (first | rw [c4b0] | (simp only [i64_w, i32_w]; rw [c4b0]) | rw [c4b1] | skip)
      have H' := Aside0.mk H
      clear H
      go_wp2
      go_meet
      case rel => exact ⟨_, (true), (by first | rfl | (simp; done) | (simp [*]; done)), H', ⟨by first | omega | exact Nat.le_refl _⟩, by repeat (first | exact Drawn0.refl _ | apply Drawn0.step)⟩
    · rw [if_neg c4] at H
      have c4b0 : decide (a0 < 0) = false := decide_eq_false c4
      clear c4
      (first | rw [c4b0] | (simp only [i64_w, i32_w]; rw [c4b0]) | rw [c4b1] | skip)
      have H' := Aside0.mk H
      clear H
      go_wp2
      go_meet
      case rel => exact ⟨_, (decide (a1 < 0)), (by first | rfl | (simp; done) | (simp [*]; done)), H', ⟨by first | omega | exact Nat.le_refl _⟩, by repeat (first | exact Drawn0.refl _ | apply Drawn0.step)⟩
  case rest =>
    clear HC3
    try clear c1
    try clear p2
    try clear c4
    try clear c4b0
    try clear c4b1
    obtain ⟨kq, x10_2, rfl, HA, HJ2, ⟨mc2, rfl⟩⟩ := hcut
    cases kq with
    | zero => exact absurd HA.out (by simp [carlingref26_May.j0])
    | succ kj2 =>
      have H := HA.out
      clear HA
      simp only [carlingref26_May.j0] at H
      by_cases c5 : x10_2 = true
      · subst c5
        have H1 : (some 1) = some r := by rw [if_pos rfl] at H; exact H
        clear H
        have H := H1
        clear H1
        obtain rfl := Option.some.inj H
        go_wp2
        go_ret
        exact ⟨by first | rfl | (simp; done) | (simp [*]; done), by repeat (first | exact Drawn0.refl _ | apply Drawn0.step)⟩
      · replace c5 := Bool.eq_false_iff.mpr c5
        subst c5
        have H1 : (if a0 > 8192 then (some 18) else (if a1 > (wrap64 (8192 - a0)) then (some 18) else (some 0))) = some r := by rw [if_neg (show ¬ (false = true) by decide)] at H; exact H
        clear H
        have H := H1
        clear H1
        by_cases c6 : a0 > 8192
        · rw [if_pos c6] at H
          have c6b0 : decide (8192 < a0) = true := decide_eq_true c6
          clear c6
          obtain rfl := Option.some.inj H
          go_wp2
          go_ret
          exact ⟨by first | rfl | (simp; done) | (simp [*]; done), by repeat (first | exact Drawn0.refl _ | apply Drawn0.step)⟩
        · rw [if_neg c6] at H
          have c6b0 : decide (8192 < a0) = false := decide_eq_false c6
          clear c6
          by_cases c7 : a1 > (wrap64 (8192 - a0))
          · rw [if_pos c7] at H
            have c7b0 : decide ((wrap64 (8192 - a0)) < a1) = true := decide_eq_true c7
            clear c7
            obtain rfl := Option.some.inj H
            go_wp2
            go_ret
            exact ⟨by first | rfl | (simp; done) | (simp [*]; done), by repeat (first | exact Drawn0.refl _ | apply Drawn0.step)⟩
          · rw [if_neg c7] at H
            have c7b0 : decide ((wrap64 (8192 - a0)) < a1) = false := decide_eq_false c7
            clear c7
            obtain rfl := Option.some.inj H
            go_wp2
            go_ret
            exact ⟨by first | rfl | (simp; done) | (simp [*]; done), by repeat (first | exact Drawn0.refl _ | apply Drawn0.step)⟩

/-! ### carlingref26_Parts: function 9 -/
def carlingref26_Parts.l0 : Nat → Int → Int → List (S52) → Int → Option ((List (S52)) × Int)
  | 0, _, _, _, _ => none
  | k + 1, x0, x1, x7, x8 => if x8 < (wrap64 (x0 + x1)) then (if (x7.length : Int) > 0 then (if 0 ≤ (wrap64 ((x7.length : Int) - 1)) then (if (wrap64 ((x7.length : Int) - 1)) < (x7.length : Int) then (if ((rd_T52 x7 (wrap64 ((x7.length : Int) - 1))).f0) = (wrap64 (Int.tdiv x8 256)) then (carlingref26_Parts.l0 k x0 x1 (x7.set ((wrap64 ((x7.length : Int) - 1)) : Int).toNat (⟨(rd_T52 x7 (wrap64 ((x7.length : Int) - 1))).f0, (rd_T52 x7 (wrap64 ((x7.length : Int) - 1))).f1, wrap64 (((rd_T52 x7 (wrap64 ((x7.length : Int) - 1))).f2) + 1)⟩ : S52)) (wrap64 (x8 + 1))) else (if x7.length < 5864062014805 then (carlingref26_Parts.l0 k x0 x1 (x7 ++ [(⟨wrap64 (Int.tdiv x8 256), Int.tmod x8 256, 1⟩ : S52)]) (wrap64 (x8 + 1))) else (none))) else (none)) else (none)) else (if x7.length < 5864062014805 then (carlingref26_Parts.l0 k x0 x1 (x7 ++ [(⟨wrap64 (Int.tdiv x8 256), Int.tmod x8 256, 1⟩ : S52)]) (wrap64 (x8 + 1))) else (none))) else (some (x7, 0))
def carlingref26_Parts.f (k : Nat) (a0 : Int) (a1 : Int) : Option ((List (S52)) × Int) := (carlingref26_May.f k a0 a1).bind fun t112 => (if t112 = 0 then (carlingref26_Parts.l0 k a0 a1 ([] : List (S52)) a0) else (some (([] : List (S52)), t112)))
theorem carlingref26_Parts.mono_l : ∀ k, (∀ y0 y1 y2 y3, LeO (carlingref26_Parts.l0 k y0 y1 y2 y3) (carlingref26_Parts.l0 (k + 1) y0 y1 y2 y3))
  | 0 => fun _ _ _ _ r h => by simp [carlingref26_Parts.l0] at h
  | k + 1 => by
    have ih0 := carlingref26_Parts.mono_l k
    · intro y0 y1 y2 y3
      unfold carlingref26_Parts.l0
      repeat' first
      | (with_reducible exact ih0 _ _ _ _)
      | (with_reducible exact carlingref26_May.mono _ _ _)
      | (with_reducible exact LeO.refl _)
      | (with_reducible exact LeO.none _)
      | (with_reducible refine LeO.ite ?_ ?_)
      | (with_reducible refine LeO.bind ?_ (fun _ => ?_))
      | exact ih0 _ _ _ _
      | exact carlingref26_May.mono _ _ _
      | exact LeO.none _
      | refine LeO.ite ?_ ?_
      | refine LeO.bind ?_ (fun _ => ?_)
theorem carlingref26_Parts.mono : ∀ a0 a1 k, LeO (carlingref26_Parts.f k a0 a1) (carlingref26_Parts.f (k + 1) a0 a1) := by
  intro a0 a1 k
  have ih0 := carlingref26_Parts.mono_l k
  unfold carlingref26_Parts.f
  repeat' first
      | (with_reducible exact ih0 _ _ _ _)
      | (with_reducible exact carlingref26_May.mono _ _ _)
      | (with_reducible exact LeO.refl _)
      | (with_reducible exact LeO.none _)
      | (with_reducible refine LeO.ite ?_ ?_)
      | (with_reducible refine LeO.bind ?_ (fun _ => ?_))
      | exact ih0 _ _ _ _
      | exact carlingref26_May.mono _ _ _
      | exact LeO.none _
      | refine LeO.ite ?_ ?_
      | refine LeO.bind ?_ (fun _ => ?_)
set_option maxHeartbeats 8000000 in
set_option maxRecDepth 100000 in
theorem carlingref26_Parts.calls (k : Nat) (a0 : Int) (a1 : Int) (r1 : List (S52)) (r2 : Int) (w : World) (h : carlingref26_Parts.f k a0 a1 = some (r1, r2)) :
    Calls Try.prog 9 #[.int .i64 a0, .int .i64 a1] w fun e w' => ∃ v0_ : Value, e = .returned (.tuple #[v0_, .int .i64 r2]) ∧ Kd.R k52 52 w' w.heap.size (fun _ => True) v0_ r1 ∧ Below w.heap.size w w' := by
  have hu52 := Try.underlying52
  have HB := Aside0.mk (Below.refl w.heap.size w)
  have H : ((carlingref26_May.f k a0 a1).bind fun t112 => (if t112 = 0 then (carlingref26_Parts.l0 k a0 a1 ([] : List (S52)) a0) else (some (([] : List (S52)), t112)))) = some (r1, r2) := h
  clear h
  replace H := Option.bind_eq_some_iff.mp H
  obtain ⟨t112, A30, H⟩ := H
  replace H : (if t112 = 0 then (carlingref26_Parts.l0 k a0 a1 ([] : List (S52)) a0) else (some (([] : List (S52)), t112))) = some (r1, r2) := H
  have A3 := Aside0.mk A30
  clear A30
  by_cases c4 : t112 = 0
  · rw [if_pos c4] at H
    have c4b0 : (t112 == 0) = true := beq_iff_eq.mpr c4
    have c4b1 : (t112 != 0) = false := bne_eq_false_iff_eq.mpr c4
    clear c4
    have H' := Aside0.mk H
    clear H
    go_enter Try.func9, Try.ntmps9
    go_wp2_with (first | ((with_reducible refine gate_callee (f := 14) rfl ?_); refine goesL_ (some 12) rfl rfl Try.func14 (by kernel_rfl) rfl #[.int .i64 a0, .int .i64 a1] rfl (by (try simp only [List.map_toArray, List.map_cons, List.map_nil]); first | done | rfl | (simp only [List.length_drop, List.length_take]; rfl)) ?_; (with_reducible refine (carlingref26_May.calls k a0 a1 t112 _ A3.out).mono ?_); rintro e w' ⟨rfl, ⟨nd, rfl⟩⟩; refine ⟨_, rfl, ?_⟩))
    go_loopg [7, 8] k (fun kq v7 v8 w' => ∃ (x7_1 : List (S52)) (x8_1 : Int), v8 = .int .i64 x8_1 ∧ Aside0 (carlingref26_Parts.l0 kq a0 a1 x7_1 x8_1 = some (r1, r2)) ∧ Aside0 (kq ≤ k) ∧ Aside0 (Kd.R k52 52 w' w.heap.size (fun _ => True) v7 x7_1) ∧ Aside0 (Below w.heap.size w w'))
    case atStart => exact ⟨(([] : List (S52))), (a0), (by first | rfl | (simp; done) | (simp [*]; done)), H', ⟨Nat.le_refl _⟩, ⟨by first | exact Kd.R_nil _ _ _ _ _ | exact Kd.N_nil _ _ _ _ _ | exact Kd.V_nil _ _ _ _ _ | exact Kd.Q_nil _ _ _ _ _ | exact Kd.S_nil _ _ _ _ _⟩, ⟨by repeat (first | (with_reducible first | exact HB.out | apply below_alloc | apply pw_below_drewN | apply below_drew1) | exact HB.out)⟩⟩
    case round =>
      clear H'
      try clear c1
      try clear p2
      try clear c4
      try clear c4b0
      try clear c4b1
      obtain ⟨x7_1, x8_1, rfl, HA, HK1, HO_7, HB⟩ := hrel
      cases gk with
      | zero => exact absurd HA.out (by simp [carlingref26_Parts.l0])
      | succ k1 =>
        have H := HA.out
        clear HA
        simp only [carlingref26_Parts.l0] at H
        by_cases c5 : x8_1 < (wrap64 (a0 + a1))
        · rw [if_pos c5] at H
          have c5b0 : decide (x8_1 < (wrap64 (a0 + a1))) = true := decide_eq_true c5
          clear c5
          by_cases c6 : (x7_1.length : Int) > 0
          · rw [if_pos c6] at H
            have c6b0 : decide (0 < (x7_1.length : Int)) = true := decide_eq_true c6
            have c6b1 : decide (0 < x7_1.length) = true := decide_eq_true (by omega)
            clear c6
            obtain ⟨ji7, hji7⟩ : ∃ j_ : Int, (wrap64 ((x7_1.length : Int) - 1)) = j_ := ⟨_, rfl⟩
            replace H : (if 0 ≤ (ji7) then (if (ji7) < (x7_1.length : Int) then (if ((rd_T52 x7_1 (ji7)).f0) = (wrap64 (Int.tdiv x8_1 256)) then (carlingref26_Parts.l0 k1 a0 a1 (x7_1.set ((ji7) : Int).toNat (⟨(rd_T52 x7_1 (ji7)).f0, (rd_T52 x7_1 (ji7)).f1, wrap64 (((rd_T52 x7_1 (ji7)).f2) + 1)⟩ : S52)) (wrap64 (x8_1 + 1))) else (if x7_1.length < 5864062014805 then (carlingref26_Parts.l0 k1 a0 a1 (x7_1 ++ [(⟨wrap64 (Int.tdiv x8_1 256), Int.tmod x8_1 256, 1⟩ : S52)]) (wrap64 (x8_1 + 1))) else (none))) else (none)) else (none)) = some (r1, r2) := by first | (rw [hji7] at H; exact H) | (simp only [hji7] at H ⊢; exact H)
            have hji7w : (IntKind.i64.wrap ((x7_1.length : Int) - 1)) = ji7 := (i64_w _).trans hji7
            by_cases c8 : 0 ≤ (ji7)
            · rw [if_pos c8] at H
              have c8b0 : decide (0 ≤ (ji7)) = true := decide_eq_true c8
              clear c8
              by_cases c9 : (ji7) < (x7_1.length : Int)
              · rw [if_pos c9] at H
                have c9b0 : decide ((ji7) < (x7_1.length : Int)) = true := decide_eq_true c9
                clear c9
                by_cases c10 : ((rd_T52 x7_1 (ji7)).f0) = (wrap64 (Int.tdiv x8_1 256))
                · rw [if_pos c10] at H
                  have c10b0 : (((rd_T52 x7_1 (ji7)).f0) == (wrap64 (Int.tdiv x8_1 256))) = true := beq_iff_eq.mpr c10
                  have c10b1 : (((rd_T52 x7_1 (ji7)).f0) != (wrap64 (Int.tdiv x8_1 256))) = false := bne_eq_false_iff_eq.mpr c10
                  clear c10
                  obtain ⟨y115, hy115⟩ : ∃ y_ : List (S52), y_ = (x7_1.set ((ji7) : Int).toNat (⟨(rd_T52 x7_1 (ji7)).f0, (rd_T52 x7_1 (ji7)).f1, wrap64 (((rd_T52 x7_1 (ji7)).f2) + 1)⟩ : S52)) := ⟨_, rfl⟩
                  replace H : (carlingref26_Parts.l0 k1 a0 a1 y115 (wrap64 (x8_1 + 1))) = some (r1, r2) := by first | (rw [hy115]; with_reducible exact H) | (have H2_ := (Option.bind_some _ _).symm.trans H; rw [hy115]; with_reducible exact H2_) | (have H2_ := (Option.bind_some _ _).symm.trans H; with_reducible exact H2_) | with_reducible exact H | (rw [hy115]; exact H) | exact H
                  have Ny115 := Aside0.mk hy115
                  clear hy115
                  have H' := Aside0.mk H
                  clear H
                  obtain ⟨Ao12, co12, eo12⟩ := Kd.R_slice HO_7.out
                  subst eo12
                  have p113 : 0 ≤ ((ji7) : Int) := of_decide_eq_true (by first | (with_reducible assumption) | assumption)
                  have q113 : (ji7) < (x7_1.length : Int) := of_decide_eq_true (by first | (with_reducible assumption) | assumption)
                  obtain ⟨ad113, e113, hx113_0, hx113_1, hx113_2⟩ := at_T52 (Kd.R_reads' HO_7.out).2.2 (ji7) p113 q113
                  cases e113
                  replace p113 := eq_true p113
                  replace q113 := eq_true q113
                  have p114 : 0 ≤ ((ji7) : Int) := of_decide_eq_true (by first | (with_reducible assumption) | assumption)
                  have q114 : (ji7) < (x7_1.length : Int) := of_decide_eq_true (by first | (with_reducible assumption) | assumption)
                  obtain ⟨ad114, e114, hx114_0, hx114_1, hx114_2⟩ := at_T52 (Kd.R_reads' HO_7.out).2.2 (ji7) p114 q114
                  obtain rfl : ad113 = ad114 := (by injection e114)
                  replace p114 := eq_true p114
                  replace q114 := eq_true q114
                  have p11 : 0 ≤ ((ji7) : Int) := of_decide_eq_true (by first | (with_reducible assumption) | assumption)
                  have q11 : ((ji7) : Int) < ((x7_1.length : Int) : Int) := of_decide_eq_true (by first | (with_reducible assumption) | assumption)
                  obtain ⟨go11, co11, eo11, gb11, gl11, cl11, HG11⟩ := Kd.R_form HO_7.out (by omega)
                  (first | cases eo11 | (injection eo11 with ea_ en_ ec_; (first | subst ea_ | (injection ea_ with ea_; subst ea_)); subst ec_; clear en_))
                  have GB11 := Aside0.mk gb11
                  have GG11 := Aside0.mk HG11
                  clear gb11 gl11 HG11
                  (first | simp only [add_plain] at hx113_0 | skip)
                  (first | simp only [add_plain] at hx113_1 | skip)
                  (first | simp only [add_plain] at hx113_2 | skip)
                  (first | simp only [add_plain] at hx114_0 | skip)
                  (first | simp only [add_plain] at hx114_1 | skip)
                  (first | simp only [add_plain] at hx114_2 | skip)
                  obtain ⟨ce11, hcl11, hM11, hcc11, hfr11⟩ := Kd.R_elem HO_7.out z52 ((ji7) : Int) p11 q11
                  obtain rfl := k52_openM hM11
                  have hx11_0 : wr.cell? ⟨go11, ((ji7) : Int).toNat * 3, none⟩ = some (.int .i64 ((rd_T52 x7_1 (ji7)).f0)) := hcc11 0 _ rfl
                  have hx11_1 : wr.cell? ⟨go11, ((ji7) : Int).toNat * 3 + 1, none⟩ = some (.int .i64 ((rd_T52 x7_1 (ji7)).f1)) := hcc11 1 _ rfl
                  have hx11_2 : wr.cell? ⟨go11, ((ji7) : Int).toNat * 3 + 2, none⟩ = some (.int .i64 ((rd_T52 x7_1 (ji7)).f2)) := hcc11 2 _ rfl
                  have hf11_0 : wr.frozen? ⟨go11, ((ji7) : Int).toNat * 3, none⟩ = false := hfr11 0
                  have hf11_1 : wr.frozen? ⟨go11, ((ji7) : Int).toNat * 3 + 1, none⟩ = false := hfr11 1
                  have hf11_2 : wr.frozen? ⟨go11, ((ji7) : Int).toNat * 3 + 2, none⟩ = false := hfr11 2
                  clear hcl11 hcc11 hfr11 hM11
                  replace p11 := eq_true p11
                  replace q11 := eq_true q11
                  have HX13 := Aside0.mk (show Kd.R k52 52 wr w.heap.size (fun _ => True) (.slice (some ⟨go11, 0, none⟩) x7_1.length co12) x7_1 from (by (with_reducible repeat (first | apply Kd.R_alloc | apply Kd.R_drewN | apply Kd.R_drew)); exact HO_7.out))
                  obtain ⟨ce13, hcl13, hM13, hcc13, hfr13⟩ := Kd.R_elem HX13.out z52 ((ji7) : Int) (of_decide_eq_true (by first | (with_reducible assumption) | assumption)) (by have h_ : ((ji7) : Int) < ((x7_1.length : Int) : Int) := of_decide_eq_true (by first | (with_reducible assumption) | assumption); first | exact h_ | (have e_ := (Kd.R_reads' HO_7.out).1; omega) | simpa using h_)
                  obtain rfl := k52_openM hM13
                  have HP13 := Kd.R_seg HX13.out ((ji7) : Int) (of_decide_eq_true (by first | (with_reducible assumption) | assumption)) (by have h_ : ((ji7) : Int) < ((x7_1.length : Int) : Int) := of_decide_eq_true (by first | (with_reducible assumption) | assumption); first | exact h_ | (have e_ := (Kd.R_reads' HO_7.out).1; omega) | simpa using h_) (seg := [.int .i64 (wrap64 (((rd_T52 x7_1 (ji7)).f2) + 1))]) (j := 2) hcl13 hcc13 (show 3 ≤ 3 from by decide) (x' := (⟨(rd_T52 x7_1 (ji7)).f0, (rd_T52 x7_1 (ji7)).f1, wrap64 (((rd_T52 x7_1 (ji7)).f2) + 1)⟩ : S52)) (k52_mkM _ _ _ (⟨(rd_T52 x7_1 (ji7)).f0, (rd_T52 x7_1 (ji7)).f1, wrap64 (((rd_T52 x7_1 (ji7)).f2) + 1)⟩ : S52) ) (fun _ hk => hk)
                  have hx13_2 := hcc13 2 _ rfl
                  (try simp only [show (k52).sz = 3 from rfl, Nat.mul_one, Nat.add_zero] at hx13_2)
                  have hf13_2 := hfr13 2
                  (try simp only [show (k52).sz = 3 from rfl, Nat.mul_one, Nat.add_zero] at hf13_2)
                  clear hcl13 hcc13 hfr13 hM13
                  go_wp2_with (first | ((with_reducible refine gate_store (t := 3) (p := 47) rfl ?_); refine store_event (t := 3) (p := 47) (v := ?vo_w14) (w1 := (wr.setCell ⟨go11, ((ji7) : Int).toNat * 3 + 2, none⟩ (.int .i64 (wrap64 (((rd_T52 x7_1 (ji7)).f2) + 1))))) ?hg ?ho ?hn ?hr ?_; (case ho => rfl); (case hg => rfl); (case hn => rfl); (case hr => first | (go_simp; done) | (go_simp; rfl)); intro w14 hw; have hg : wr.grownBy w14 (some go11) := (by rw [hw]; exact HP13.2); have hp_ : Kd.R k52 52 w14 w.heap.size (fun _ => True) (.slice (some ⟨go11, 0, none⟩) x7_1.length co12) y115 := (by rw [hw, Ny115.out]; exact HP13.1); clear HP13; have n0_ := Aside0.mk (hp_); have n1_ := Aside0.mk ((by rw [hw]; exact below_set (HB.out) GB11.out : Below w.heap.size w w14)); clear HO_7; clear HB; have HO_7 := n0_; have HB := n1_; clear n0_ n1_; clear hg hw hp_))
                  go_roundg k1
                  case measure => have := HK1.out; omega
                  case rel => exact ⟨(y115), (wrap64 (x8_1 + 1)), (by first | rfl | (simp; done) | (simp [*]; done)), H', ⟨by have := HK1.out; omega⟩, ⟨by (with_reducible repeat (first | apply Kd.R_alloc | apply Kd.R_drewN | apply Kd.R_drew)); exact HO_7.out⟩, ⟨by repeat (first | (with_reducible first | exact HB.out | apply below_alloc | apply pw_below_drewN | apply below_drew1) | exact HB.out)⟩⟩
                · rw [if_neg c10] at H
                  have c10b0 : (((rd_T52 x7_1 (ji7)).f0) == (wrap64 (Int.tdiv x8_1 256))) = false := beq_eq_false_iff_ne.mpr c10
                  have c10b1 : (((rd_T52 x7_1 (ji7)).f0) != (wrap64 (Int.tdiv x8_1 256))) = true := bne_iff_ne.mpr c10
                  by_cases c15 : x7_1.length < 5864062014805
                  · rw [if_pos c15] at H
                    have LMc15 := Aside0.mk c15
                    clear c15
                    obtain ⟨y116, hy116⟩ : ∃ y_ : List (S52), y_ = (x7_1 ++ [(⟨wrap64 (Int.tdiv x8_1 256), Int.tmod x8_1 256, 1⟩ : S52)]) := ⟨_, rfl⟩
                    replace H : (carlingref26_Parts.l0 k1 a0 a1 y116 (wrap64 (x8_1 + 1))) = some (r1, r2) := by first | (rw [hy116]; with_reducible exact H) | (have H2_ := (Option.bind_some _ _).symm.trans H; rw [hy116]; with_reducible exact H2_) | (have H2_ := (Option.bind_some _ _).symm.trans H; with_reducible exact H2_) | with_reducible exact H | (rw [hy116]; exact H) | exact H
                    have Ny116 := Aside0.mk hy116
                    clear hy116
                    have H' := Aside0.mk H
                    clear H
                    obtain ⟨Ao16, co16, eo16⟩ := Kd.R_slice HO_7.out
                    subst eo16
                    have p113 : 0 ≤ ((ji7) : Int) := of_decide_eq_true (by first | (with_reducible assumption) | assumption)
                    have q113 : (ji7) < (x7_1.length : Int) := of_decide_eq_true (by first | (with_reducible assumption) | assumption)
                    obtain ⟨ad113, e113, hx113_0, hx113_1, hx113_2⟩ := at_T52 (Kd.R_reads' HO_7.out).2.2 (ji7) p113 q113
                    cases e113
                    replace p113 := eq_true p113
                    replace q113 := eq_true q113
                    go_wp2_with (first | ((with_reducible refine gate_builtin (b := .append) (xs := #[.tmp 48, .tmp 54]) rfl ?_); at_builtin; refine Kd.R_append k52 (w0 := w) w.heap.size rfl (.tmp 48) (.tmp 54) 33 52 (.agg #[(.int .i64 0), (.int .i64 0), (.int .i64 0)]) 24 rfl Try.underlying33 info52 rfl (by decide) (by omega) (.slice (some ad113) x7_1.length co16) x7_1 (⟨wrap64 (Int.tdiv x8_1 256), Int.tmod x8_1 256, 1⟩ : S52) [.int .i64 (wrap64 (Int.tdiv x8_1 256)), .int .i64 (Int.tmod x8_1 256), .int .i64 1] (fun _ => True) (fun _ => False) rfl rfl ?aP (fun _ hk => hk.elim) ?aF ?aO ?aB ?aS ?aL ?_; (case aP => exact k52_mkM _ _ _ (⟨wrap64 (Int.tdiv x8_1 256), Int.tmod x8_1 256, 1⟩ : S52)); (case aB => exact (by repeat (first | (with_reducible first | exact HB.out | apply below_alloc | apply pw_below_drewN | apply below_drew1) | exact HB.out))); (case aF => exact (fun _ _ => trivial)); (case aO => exact (by (with_reducible repeat (first | apply Kd.R_alloc | apply Kd.R_drewN | apply Kd.R_drew)); exact HO_7.out)); (case aS => exact (below_size (by repeat (first | (with_reducible first | exact HB.out | apply below_alloc | apply pw_below_drewN | apply below_drew1) | exact HB.out)))); (case aL => have := LMc15.out; omega); intro v117 w17 ho hb hg hat; rw [← Ny116.out] at ho; have n0_ := Aside0.mk (hb); have n1_ := Aside0.mk (ho); clear HB; clear HO_7; have HB := n0_; have HO118 := n1_; clear n0_ n1_; clear ho hb hg hat))
                    go_roundg k1
                    case measure => have := HK1.out; omega
                    case rel => exact ⟨(y116), (wrap64 (x8_1 + 1)), (by first | rfl | (simp; done) | (simp [*]; done)), H', ⟨by have := HK1.out; omega⟩, ⟨by (with_reducible repeat (first | apply Kd.R_alloc | apply Kd.R_drewN | apply Kd.R_drew)); exact HO118.out⟩, ⟨by repeat (first | (with_reducible first | exact HB.out | apply below_alloc | apply pw_below_drewN | apply below_drew1) | exact HB.out)⟩⟩
                  · rw [if_neg c15] at H
                    exact absurd H (by simp)
              · rw [if_neg c9] at H
                exact absurd H (by simp)
            · rw [if_neg c8] at H
              exact absurd H (by simp)
          · rw [if_neg c6] at H
            have c6b0 : decide (0 < (x7_1.length : Int)) = false := decide_eq_false c6
            have c6b1 : decide (0 < x7_1.length) = false := decide_eq_false (by omega)
            clear c6
            by_cases c18 : x7_1.length < 5864062014805
            · rw [if_pos c18] at H
              have LMc18 := Aside0.mk c18
              clear c18
              obtain ⟨y119, hy119⟩ : ∃ y_ : List (S52), y_ = (x7_1 ++ [(⟨wrap64 (Int.tdiv x8_1 256), Int.tmod x8_1 256, 1⟩ : S52)]) := ⟨_, rfl⟩
              replace H : (carlingref26_Parts.l0 k1 a0 a1 y119 (wrap64 (x8_1 + 1))) = some (r1, r2) := by first | (rw [hy119]; with_reducible exact H) | (have H2_ := (Option.bind_some _ _).symm.trans H; rw [hy119]; with_reducible exact H2_) | (have H2_ := (Option.bind_some _ _).symm.trans H; with_reducible exact H2_) | with_reducible exact H | (rw [hy119]; exact H) | exact H
              have Ny119 := Aside0.mk hy119
              clear hy119
              have H' := Aside0.mk H
              clear H
              obtain ⟨Ao19, co19, eo19⟩ := Kd.R_slice HO_7.out
              subst eo19
              go_wp2_with (first | ((with_reducible refine gate_builtin (b := .append) (xs := #[.tmp 48, .tmp 54]) rfl ?_); at_builtin; refine Kd.R_append k52 (w0 := w) w.heap.size rfl (.tmp 48) (.tmp 54) 33 52 (.agg #[(.int .i64 0), (.int .i64 0), (.int .i64 0)]) 24 rfl Try.underlying33 info52 rfl (by decide) (by omega) (.slice Ao19 x7_1.length co19) x7_1 (⟨wrap64 (Int.tdiv x8_1 256), Int.tmod x8_1 256, 1⟩ : S52) [.int .i64 (wrap64 (Int.tdiv x8_1 256)), .int .i64 (Int.tmod x8_1 256), .int .i64 1] (fun _ => True) (fun _ => False) rfl rfl ?aP (fun _ hk => hk.elim) ?aF ?aO ?aB ?aS ?aL ?_; (case aP => exact k52_mkM _ _ _ (⟨wrap64 (Int.tdiv x8_1 256), Int.tmod x8_1 256, 1⟩ : S52)); (case aB => exact (by repeat (first | (with_reducible first | exact HB.out | apply below_alloc | apply pw_below_drewN | apply below_drew1) | exact HB.out))); (case aF => exact (fun _ _ => trivial)); (case aO => exact (by (with_reducible repeat (first | apply Kd.R_alloc | apply Kd.R_drewN | apply Kd.R_drew)); exact HO_7.out)); (case aS => exact (below_size (by repeat (first | (with_reducible first | exact HB.out | apply below_alloc | apply pw_below_drewN | apply below_drew1) | exact HB.out)))); (case aL => have := LMc18.out; omega); intro v120 w20 ho hb hg hat; rw [← Ny119.out] at ho; have n0_ := Aside0.mk (hb); have n1_ := Aside0.mk (ho); clear HB; clear HO_7; have HB := n0_; have HO121 := n1_; clear n0_ n1_; clear ho hb hg hat))
              go_roundg k1
              case measure => have := HK1.out; omega
              case rel => exact ⟨(y119), (wrap64 (x8_1 + 1)), (by first | rfl | (simp; done) | (simp [*]; done)), H', ⟨by have := HK1.out; omega⟩, ⟨by (with_reducible repeat (first | apply Kd.R_alloc | apply Kd.R_drewN | apply Kd.R_drew)); exact HO121.out⟩, ⟨by repeat (first | (with_reducible first | exact HB.out | apply below_alloc | apply pw_below_drewN | apply below_drew1) | exact HB.out)⟩⟩
            · rw [if_neg c18] at H
              exact absurd H (by simp)
        · rw [if_neg c5] at H
          have c5b0 : decide (x8_1 < (wrap64 (a0 + a1))) = false := decide_eq_false c5
          clear c5
          simp only [Option.some.injEq, Prod.mk.injEq] at H
          obtain ⟨rfl, rfl⟩ := H
          go_wp2
          go_ret2
          exact ⟨_, by first | rfl | (simp [errW_none, errW_some] <;> rfl) | (simp [*, errW_none, errW_some] <;> rfl), by (with_reducible repeat (first | apply Kd.R_alloc | apply Kd.R_drewN | apply Kd.R_drew)); exact HO_7.out, by repeat (first | (with_reducible first | exact HB.out | apply below_alloc | apply pw_below_drewN | apply below_drew1) | exact HB.out)⟩
  · rw [if_neg c4] at H
    have c4b0 : (t112 == 0) = false := beq_eq_false_iff_ne.mpr c4
    have c4b1 : (t112 != 0) = true := bne_iff_ne.mpr c4
    simp only [Option.some.injEq, Prod.mk.injEq] at H
    obtain ⟨rfl, rfl⟩ := H
    go_enter Try.func9, Try.ntmps9
    go_wp2_with (first | ((with_reducible refine gate_callee (f := 14) rfl ?_); refine goesL_ (some 12) rfl rfl Try.func14 (by kernel_rfl) rfl #[.int .i64 a0, .int .i64 a1] rfl (by (try simp only [List.map_toArray, List.map_cons, List.map_nil]); first | done | rfl | (simp only [List.length_drop, List.length_take]; rfl)) ?_; (with_reducible refine (carlingref26_May.calls k a0 a1 t112 _ A3.out).mono ?_); rintro e w' ⟨rfl, ⟨nd, rfl⟩⟩; refine ⟨_, rfl, ?_⟩))
    go_ret2
    exact ⟨_, by first | rfl | (simp [errW_none, errW_some] <;> rfl) | (simp [*, errW_none, errW_some] <;> rfl), by first | exact Kd.R_nil _ _ _ _ _ | exact Kd.N_nil _ _ _ _ _ | exact Kd.V_nil _ _ _ _ _ | exact Kd.Q_nil _ _ _ _ _ | exact Kd.S_nil _ _ _ _ _, by repeat (first | (with_reducible first | exact HB.out | apply below_alloc | apply pw_below_drewN | apply below_drew1) | exact HB.out)⟩

-- NOT PRINTED: function 10 (span_Missing)

-- NOT PRINTED: function 11 (carlingref26_Missing)

/-! ### carlinglaw26_same: function 12 -/
theorem eqA52 (d : Nat) (w : World) (x0 y0 : Int) (x1 y1 : Int) (x2 y2 : Int) :
    (Op.equalIn (d + 2) 52 (.agg #[.int .i64 x0, .int .i64 x1, .int .i64 x2]) (.agg #[.int .i64 y0, .int .i64 y1, .int .i64 y2])).run Try.prog w = .ok (x0 == y0 && (x1 == y1 && (x2 == y2))) w := by
  refine eqA_of Try.underlying52 (by kernel_rfl) ?_
  refine eqf_cons (by rfl) (by go_simp; rfl) (by go_simp; rfl) (by go_simp) ?_
  refine eqf_cons (by rfl) (by go_simp; rfl) (by go_simp; rfl) (by go_simp) ?_
  exact eqf_last (by rfl) (by go_simp; rfl) (by go_simp; rfl) (by go_simp)
attribute [local go_sem high] eqA52
/-- Are they the same, one by one? -/
def eqL : List S28 → List S52 → Bool
  | p :: ps, q :: qs => p.f0 == q.f0 && p.f1 == q.f1 && p.f2 == q.f2 && eqL ps qs
  | [], [] => true
  | _, _ => false
theorem eqL_len : ∀ (l : List S28) (m : List S52), eqL l m = true → l.length = m.length
  | [], [], _ => rfl
  | [], _ :: _, h => by simp [eqL] at h
  | _ :: _, [], h => by simp [eqL] at h
  | _ :: ps, _ :: qs, h => by
    simp only [eqL, Bool.and_eq_true] at h
    simp only [List.length_cons, eqL_len ps qs h.2]
theorem eqL_at : ∀ (l : List S28) (m : List S52), eqL l m = true → ∀ i : Nat, i < l.length → (m.getD i z52).f0 = (l.getD i z28).f0 ∧ (m.getD i z52).f1 = (l.getD i z28).f1 ∧ (m.getD i z52).f2 = (l.getD i z28).f2
  | [], _, _, _, hi => absurd hi (by simp)
  | _ :: _, [], h, _, _ => by simp [eqL] at h
  | p :: ps, q :: qs, h, 0, _ => by
    simp only [eqL, Bool.and_eq_true, beq_iff_eq] at h
    exact ⟨h.1.1.1.symm, h.1.1.2.symm, h.1.2.symm⟩
  | p :: ps, q :: qs, h, i + 1, hi => by
    simp only [eqL, Bool.and_eq_true] at h
    exact eqL_at ps qs h.2 i (by simpa using hi)
/-- The compare (told where they are the same alone). -/
def carlinglaw26_same.f (l0 : List S28) (l1 : List S52) : Option Bool := if eqL l0 l1 = true ∧ l0.length ≤ 100000 then some true else none
set_option maxHeartbeats 4000000 in
set_option maxRecDepth 100000 in
theorem carlinglaw26_same.calls (A0 : Option Addr) (c0 : Nat) (l0 : List S28) (A1 : Option Addr) (c1 : Nat) (l1 : List S52) (r : Bool) (w : World) (hr0 : Kd.C k28 w A0 l0.length l0) (_hc0 : l0.length ≤ c0) (hr1 : Kd.C k52 w A1 l1.length l1) (_hc1 : l1.length ≤ c1) (h : carlinglaw26_same.f l0 l1 = some r) :
    Calls Try.prog 12 #[.slice A0 l0.length c0, .slice A1 l1.length c1] w fun e w' => e = .returned (.bool r) ∧ Drawn0 w w' := by
  unfold carlinglaw26_same.f at h
  split at h
  · next hh =>
    obtain rfl := Option.some.inj h
    have hlen := eqL_len _ _ hh.1
    have AT := Aside0.mk (eqL_at _ _ hh.1)
    have HL := hh.2
    have HR0 := Aside0.mk hr0
    have HR1 := Aside0.mk hr1
    have hb : ((l0.length : Int) != (l1.length : Int)) = false := bne_eq_false_iff_eq.mpr (by omega)
    have HN := Aside0.mk hlen
    clear h hh hr0 hr1 hlen
    go_enter Try.func12, Try.ntmps12
    go_wp2
    go_loopg [13] l0.length (fun kq v13 w' => ∃ (i : Nat), v13 = .int .i64 (i : Int) ∧ Aside0 (i + kq = l0.length) ∧ Drawn0 w w')
    case atStart => exact ⟨0, rfl, ⟨by omega⟩, by repeat (first | exact Drawn0.refl _ | apply Drawn0.step)⟩
    case round =>
      obtain ⟨i, rfl, HI, ⟨m1, rfl⟩⟩ := hrel
      by_cases hlt : (i : Int) < (l0.length : Int)
      · have hi0 : decide ((i : Int) < (l0.length : Int)) = true := decide_eq_true hlt
        have hi1 : (i : Int) < (l1.length : Int) := by have := HN.out; omega
        have hia : 0 ≤ (i : Int) := by omega
        obtain ⟨e1, e2, e3⟩ := AT.out i (by omega)
        obtain ⟨ad0, e0, hx0, hx1, hx2⟩ := at_T28 HR0.out (i : Int) hia hlt
        cases e0
        obtain ⟨ad1, e0, hy0, hy1, hy2⟩ := at_T52 HR1.out (i : Int) hia hi1
        cases e0
        have hq : rd_T28 l0 (i : Int) = l0.getD i z28 := rfl
        have hq2 : rd_T52 l1 (i : Int) = l1.getD i z52 := rfl
        rw [hq] at hx0 hx1 hx2
        rw [hq2] at hy0 hy1 hy2
        rw [e1] at hy0
        rw [e2] at hy1
        rw [e3] at hy2
        simp only [Int.toNat_natCast] at hx0 hx1 hx2 hy0 hy1 hy2
        obtain ⟨gk, rfl⟩ : ∃ m, gk = m + 1 := ⟨gk - 1, by have := HI.out; omega⟩
        clear hq hq2 e1 e2 e3
        go_wp2
        repeat (go_quiet (fail); try go_wp2)
        go_roundg gk
        case measure => omega
        case rel => exact ⟨i + 1, by first | rfl | simp, ⟨by have := HI.out; omega⟩, by repeat (first | exact Drawn0.refl _ | apply Drawn0.step)⟩
      · have hi0 : decide ((i : Int) < (l0.length : Int)) = false := decide_eq_false hlt
        go_wp2
        go_ret
        exact ⟨rfl, by repeat (first | exact Drawn0.refl _ | apply Drawn0.step)⟩
  · cases h


end Go.Proofs.Ytffpfneiaknfeaa.PZ
