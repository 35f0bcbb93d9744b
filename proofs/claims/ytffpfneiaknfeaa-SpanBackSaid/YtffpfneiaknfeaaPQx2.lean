/- The functions that the law reaches, as Lean functions, and that the code comes to their answers; written by wip/xprint.py (a program of this repository over the print of the kit): Lean checks it. -/
import Derived.Test.YtffpfneiaknfeaaPQx0
import Derived.Test.YtffpfneiaknfeaaPQx1
namespace Go.Proofs.Ytffpfneiaknfeaa.PQ
open Go.RowKit Go.Proofs.YtffpfneiaknfeaaW.PrintWords Go.Proofs.YtffpfneiaknfeaaW.PrintLast Go.Proofs.YtffpfneiaknfeaaW.PrintMore
attribute [local go_sem] max2_int min2_int max_two min_two max_three min_three max_four min_four   -- for this text's walks alone
set_option linter.unusedVariables false
set_option linter.unusedSimpArgs false

attribute [local go_sem high] eqA28
/-! ### span_May: function 13 -/
def span_May.j0 : Nat → Int → Int → Bool → Option (Int)
  | 0, _, _, _ => none
  | k + 1, x0, x1, x5 => if x5 = true then (some 1) else (if x0 > 8192 then (some 18) else (if x1 > (wrap64 (8192 - x0)) then (some 18) else (some 0)))
def span_May.f (k : Nat) (a0 : Int) (a1 : Int) : Option (Int) := if a0 < 0 then (span_May.j0 k a0 a1 true) else (span_May.j0 k a0 a1 (decide (a1 < 0)))
theorem span_May.mono_l : ∀ k, (∀ y0 y1 y2, LeO (span_May.j0 k y0 y1 y2) (span_May.j0 (k + 1) y0 y1 y2))
  | 0 => fun _ _ _ r h => by simp [span_May.j0] at h
  | k + 1 => by
    have ih0 := span_May.mono_l k
    · intro y0 y1 y2
      unfold span_May.j0
      repeat' first
      | (with_reducible exact ih0 _ _ _)
      | (with_reducible exact LeO.refl _)
      | (with_reducible exact LeO.none _)
      | (with_reducible refine LeO.ite ?_ ?_)
      | (with_reducible refine LeO.bind ?_ (fun _ => ?_))
      | exact ih0 _ _ _
      | exact LeO.none _
      | refine LeO.ite ?_ ?_
      | refine LeO.bind ?_ (fun _ => ?_)
theorem span_May.mono : ∀ a0 a1 k, LeO (span_May.f k a0 a1) (span_May.f (k + 1) a0 a1) := by
  intro a0 a1 k
  have ih0 := span_May.mono_l k
  unfold span_May.f
  repeat' first
      | (with_reducible exact ih0 _ _ _)
      | (with_reducible exact LeO.refl _)
      | (with_reducible exact LeO.none _)
      | (with_reducible refine LeO.ite ?_ ?_)
      | (with_reducible refine LeO.bind ?_ (fun _ => ?_))
      | exact ih0 _ _ _
      | exact LeO.none _
      | refine LeO.ite ?_ ?_
      | refine LeO.bind ?_ (fun _ => ?_)
set_option maxHeartbeats 8000000 in
set_option maxRecDepth 100000 in
theorem span_May.calls (k : Nat) (a0 : Int) (a1 : Int) (r : Int) (w : World) (h : span_May.f k a0 a1 = some r) :
    Calls Try.prog 13 #[.int .i64 a0, .int .i64 a1] w fun e w' => e = .returned (.int .i64 r) ∧ Drawn0 w w' := by
  have H : (if a0 < 0 then (span_May.j0 k a0 a1 true) else (span_May.j0 k a0 a1 (decide (a1 < 0)))) = some r := h
  clear h
  have HC3 := Aside0.mk H
  clear H
  go_enter Try.func13, Try.ntmps13
  go_upto_region 1 with (fail)
  go_cut [5] (fun v5 wc => ∃ (kq : Nat) (x5_2 : Bool), v5 = .bool x5_2 ∧ Aside0 (span_May.j0 kq a0 a1 x5_2 = some r) ∧ Aside0 (kq ≤ k) ∧ Drawn0 w wc)
  case first =>
    have H := HC3.out
    clear HC3
    by_cases c4 : a0 < 0
    · rw [if_pos c4] at H
      have c4b0 : decide (a0 < 0) = true := decide_eq_true c4
      clear c4
      (first | rw [c4b0] | (simp only [i64_w, i32_w]; rw [c4b0]) | rw [c4b1] | skip)
      have H' := Aside0.mk H
      clear H
      go_wp2
      go_meet
      case rel => exact ⟨_, (true), (by first | rfl | (simp; done) | (simp [*]; done)), H', ⟨by first | omega | exact Nat.le_refl _⟩, by repeat (first | exact Drawn0.refl _ | apply Drawn0.step)⟩
    · rw [if_neg c4] at H
      have c4b0 : decide (a0 < 0) = false := decide_eq_false c4
      clear c4
      (first | rw [c4b0] | (simp only [i64_w, i32_w]; rw [c4b0]) | rw [c4b1] | skip)
      have H' := Aside0.mk H
      clear H
      go_wp2
      go_meet
      case rel => exact ⟨_, (decide (a1 < 0)), (by first | rfl | (simp; done) | (simp [*]; done)), H', ⟨by first | omega | exact Nat.le_refl _⟩, by repeat (first | exact Drawn0.refl _ | apply Drawn0.step)⟩
  case rest =>
    clear HC3
    try clear c1
    try clear p2
    try clear c4
    try clear c4b0
    try clear c4b1
    obtain ⟨kq, x5_2, rfl, HA, HJ2, ⟨mc2, rfl⟩⟩ := hcut
    cases kq with
    | zero => exact absurd HA.out (by simp [span_May.j0])
    | succ kj2 =>
      have H := HA.out
      clear HA
      simp only [span_May.j0] at H
      by_cases c5 : x5_2 = true
      · subst c5
        have H1 : (some 1) = some r := by rw [if_pos rfl] at H; exact H
        clear H
        have H := H1
        clear H1
        obtain rfl := Option.some.inj H
        go_wp2
        go_ret
        exact ⟨by first | rfl | (simp; done) | (simp [*]; done), by repeat (first | exact Drawn0.refl _ | apply Drawn0.step)⟩
      · replace c5 := Bool.eq_false_iff.mpr c5
        subst c5
        have H1 : (if a0 > 8192 then (some 18) else (if a1 > (wrap64 (8192 - a0)) then (some 18) else (some 0))) = some r := by rw [if_neg (show ¬ (false = true) by decide)] at H; exact H
        clear H
        have H := H1
        clear H1
        by_cases c6 : a0 > 8192
        · rw [if_pos c6] at H
          have c6b0 : decide (8192 < a0) = true := decide_eq_true c6
          clear c6
          obtain rfl := Option.some.inj H
          go_wp2
          go_ret
          exact ⟨by first | rfl | (simp; done) | (simp [*]; done), by repeat (first | exact Drawn0.refl _ | apply Drawn0.step)⟩
        · rw [if_neg c6] at H
          have c6b0 : decide (8192 < a0) = false := decide_eq_false c6
          clear c6
          by_cases c7 : a1 > (wrap64 (8192 - a0))
          · rw [if_pos c7] at H
            have c7b0 : decide ((wrap64 (8192 - a0)) < a1) = true := decide_eq_true c7
            clear c7
            obtain rfl := Option.some.inj H
            go_wp2
            go_ret
            exact ⟨by first | rfl | (simp; done) | (simp [*]; done), by repeat (first | exact Drawn0.refl _ | apply Drawn0.step)⟩
          · rw [if_neg c7] at H
            have c7b0 : decide ((wrap64 (8192 - a0)) < a1) = false := decide_eq_false c7
            clear c7
            obtain rfl := Option.some.inj H
            go_wp2
            go_ret
            exact ⟨by first | rfl | (simp; done) | (simp [*]; done), by repeat (first | exact Drawn0.refl _ | apply Drawn0.step)⟩

-- NOT PRINTED: function 20 (span_each)

/-! ### span_Parts: function 6 -/
set_option maxHeartbeats 4000000 in
set_option maxRecDepth 100000 in
/-- The closure of Parts: it appends. -/
theorem parts1 (p : S28) (B base : Nat) (v : Value) (l : List S28) (w0 w : World) (HB : Below base w0 w) (hbw : base ≤ w.heap.size) (hb : base ≤ B) (BK : w.heap[B]? = some (.cells #[v] 22 (0, 0)))
    (HO : Kd.R k28 28 w base (fun k_ => k_ ≠ B) v l) (hl : l.length < 100000) :
    Calls Try.prog 21 #[.agg #[.int .i64 p.f0, .int .i64 p.f1, .int .i64 p.f2], .pointer (some ⟨B, 0, none⟩)] w fun e w' => e = .returned (.tuple #[]) ∧ ∃ v', w'.heap[B]? = some (.cells #[v'] 22 (0, 0)) ∧ Kd.R k28 28 w' base (fun k_ => k_ ≠ B) v' (l ++ [p]) ∧ Below base w0 w' := by
  have hcz : w.cell? ⟨B, 0, none⟩ = some v := (blk_cell BK 0).trans rfl
  have hfz := blk_frozen BK 0
  have hlt : B < w.heap.size := (Array.getElem?_eq_some_iff.1 BK).1
  obtain ⟨A, c, rfl⟩ := Kd.R_slice HO
  go_enter Try.func21, Try.ntmps21
  have HO1 := Kd.R_alloc HO (.cells #[.int .i64 p.f0, .int .i64 p.f1, .int .i64 p.f2] 28)
  have HB1 := HB.alloc hbw (.cells #[.int .i64 p.f0, .int .i64 p.f1, .int .i64 p.f2] 28)
  have BK1 := blk_alloc BK (.cells #[.int .i64 p.f0, .int .i64 p.f1, .int .i64 p.f2] 28)
  have BH := Aside0.mk BK1
  have HH := Aside0.mk HO1
  have HBH := Aside0.mk HB1
  clear BK BK1 HO HO1 HB HB1
  go_wp2_with (at_builtin; go_loud (refine Kd.R_append k28 (w0 := w0) base rfl (.tmp 3) (.tmp 5) 22 28 (.agg #[(.int .i64 0), (.int .i64 0), (.int .i64 0)]) 24 rfl Try.underlying22 info28 rfl (by decide) (by omega) (.slice A l.length c) l p [.int .i64 p.f0, .int .i64 p.f1, .int .i64 p.f2] (fun k_ => k_ ≠ B) (fun _ => False) rfl (by first | (go_simp; done) | (go_simp; rfl)) (k28_mkM _ _ _ p) (fun _ hk => hk.elim) (by intro k hk; simp at hk; omega) HH.out HBH.out (by simp; omega) (by omega) ?_); intro v1 w1 ho hb1 hg hat; obtain ⟨A1, c1, rfl⟩ := Kd.R_slice ho; rw [show (l ++ [p]).length = l.length + 1 from by simp] at ho; have BK2 := blk_grown BH.out hg (Kd.R_ne HH.out BH.out (by decide)); have hcz1 : w1.cell? ⟨B, 0, none⟩ = some (.slice A l.length c) := (blk_cell BK2 0).trans rfl; have hfz1 := blk_frozen BK2 0; have BH2 := Aside0.mk BK2; have HH2 := Aside0.mk ho; have HB2 := Aside0.mk hb1; clear ho hb1 hg hat BK2)
  go_end0
  refine ⟨rfl, _, blk_put (cs := #[.slice A l.length c]) BH2.out 0 _ rfl, Kd.R_far (p := ⟨B, 0, none⟩) HH2.out (fun _ hk => hk) _, ?_⟩
  exact HB2.out.setCell (p := ⟨B, 0, none⟩) hb _

/-- The parts from at on, up to stop. -/
def prts : Nat → Int → Int → List S28
  | 0, _, _ => []
  | k + 1, at_, stop => if at_ < stop then ⟨at_ / 256, at_ % 256, mn (256 - at_ % 256) (stop - at_)⟩ :: prts k (at_ + mn (256 - at_ % 256) (stop - at_)) stop else []
/-- What May answers. -/
def mayF (a0 a1 : Int) : Int := if a0 < 0 ∨ a1 < 0 then 1 else if 8192 < a0 ∨ 8192 - a0 < a1 then 18 else 0
theorem may_calls (a0 a1 : Int) (w : World) : Calls Try.prog 13 #[.int .i64 a0, .int .i64 a1] w fun e w' => e = .returned (.int .i64 (mayF a0 a1)) ∧ w = w' := by
  by_cases h0 : a0 < 0
  · have hm : mayF a0 a1 = 1 := if_pos (.inl h0)
    have c0 : decide (a0 < 0) = true := decide_eq_true h0
    rw [hm]
    clear hm
    go_enter Try.func13, Try.ntmps13
    go_wp2
    go_ret
    exact ⟨rfl, rfl⟩
  · have c0 : decide (a0 < 0) = false := decide_eq_false h0
    by_cases h1 : a1 < 0
    · have hm : mayF a0 a1 = 1 := if_pos (.inr h1)
      have c1 : decide (a1 < 0) = true := decide_eq_true h1
      rw [hm]
      clear hm
      go_enter Try.func13, Try.ntmps13
      go_wp2
      go_ret
      exact ⟨rfl, rfl⟩
    · have c1 : decide (a1 < 0) = false := decide_eq_false h1
      by_cases h2 : 8192 < a0
      · have hm : mayF a0 a1 = 18 := by unfold mayF; rw [if_neg (by omega), if_pos (.inl h2)]
        have c2 : decide (8192 < a0) = true := decide_eq_true h2
        rw [hm]
        clear hm
        go_enter Try.func13, Try.ntmps13
        go_wp2
        go_ret
        exact ⟨rfl, rfl⟩
      · have c2 : decide (8192 < a0) = false := decide_eq_false h2
        by_cases h3 : 8192 - a0 < a1
        · have hm : mayF a0 a1 = 18 := by unfold mayF; rw [if_neg (by omega), if_pos (.inr h3)]
          have c3 : decide (8192 - a0 < a1) = true := decide_eq_true h3
          rw [hm]
          clear hm
          go_enter Try.func13, Try.ntmps13
          go_wp2
          go_ret
          exact ⟨rfl, rfl⟩
        · have hm : mayF a0 a1 = 0 := by unfold mayF; rw [if_neg (by omega), if_neg (by omega)]
          have c3 : decide (8192 - a0 < a1) = false := decide_eq_false h3
          rw [hm]
          clear hm
          go_enter Try.func13, Try.ntmps13
          go_wp2
          go_ret
          exact ⟨rfl, rfl⟩
theorem may_ok {a0 a1 : Int} (h : mayF a0 a1 = 0) : 0 ≤ a0 ∧ 0 ≤ a1 ∧ a0 + a1 ≤ 8192 := by
  unfold mayF at h
  split at h
  · cases h
  · split at h
    · cases h
    · omega
set_option maxHeartbeats 4000000 in
set_option maxRecDepth 100000 in
theorem each1 (a0 a1 : Int) (hmay : mayF a0 a1 = 0) (B base : Nat) (v : Value) (w0 w : World) (HB : Below base w0 w) (hbw : base ≤ w0.heap.size) (hb : base ≤ B) (BK : w.heap[B]? = some (.cells #[v] 22 (0, 0)))
    (HO : Kd.R k28 28 w base (fun k_ => k_ ≠ B) v []) :
    Calls Try.prog 20 #[.int .i64 a0, .int .i64 a1, .func (.func 21) #[] #[.pointer (some ⟨B, 0, none⟩)]] w fun e w' => e = .returned (.int .i64 0) ∧ ∃ v', w'.heap[B]? = some (.cells #[v'] 22 (0, 0)) ∧ Kd.R k28 28 w' base (fun k_ => k_ ≠ B) v' (prts 40 a0 (a0 + a1)) ∧ Below base w0 w' := by
  obtain ⟨h0, h1, h2⟩ := may_ok hmay
  have BH := Aside0.mk BK
  have HH := Aside0.mk HO
  have HBH := Aside0.mk HB
  have HM : ∀ w : World, Calls Try.prog 13 #[.int .i64 a0, .int .i64 a1] w fun e w' => e = .returned (.int .i64 0) ∧ w = w' := by
    have hmay0 := may_calls a0 a1
    rw [hmay] at hmay0
    exact hmay0
  have HMA := Aside0.mk HM
  clear BK HO HB hmay HM
  go_enter Try.func20, Try.ntmps20
  go_wp2_with (go_at_call 13; refine (HMA.out _).mono ?_; rintro e w' ⟨rfl, rfl⟩)
  go_loopg [0] 40 (fun kq v0 w' => ∃ (a : Int) (v : Value) (l : List S28), v0 = .int .i64 a ∧ Aside0 (l ++ prts kq a (a0 + a1) = prts 40 a0 (a0 + a1)) ∧ 0 ≤ a ∧ a ≤ a0 + a1 ∧ Aside0 (l.length + kq ≤ 40) ∧ Aside0 ((a0 + a1) / 256 - a / 256 < kq ∨ a = a0 + a1) ∧ Aside0 (w'.heap[B]? = some (.cells #[v] 22 (0, 0))) ∧ Aside0 (Kd.R k28 28 w' base (fun k_ => k_ ≠ B) v l) ∧ Aside0 (Below base w0 w'))
  case atStart => exact ⟨a0, v, [], rfl, ⟨rfl⟩, h0, by omega, ⟨by simp⟩, ⟨.inl (by omega)⟩, BH, HH, HBH⟩
  case round =>
    clear BH HH HBH
    obtain ⟨a, v, l, rfl, HE, ha0, ha1, HL, HQ, BH, HH, HBH⟩ := hrel
    by_cases hlt : a < a0 + a1
    · rcases (Int.lt_or_le (a0 + a1 - a) (256 - a % 256)) with hm | hm
      · have hmn : mn (256 - a % 256) (a0 + a1 - a) = a0 + a1 - a := by unfold mn; split <;> omega
        obtain ⟨gk, rfl⟩ : ∃ m, gk = m + 1 := ⟨gk - 1, by have := HQ.out; omega⟩
        have HE2 : Aside0 ((l ++ [⟨a / 256, a % 256, a0 + a1 - a⟩]) ++ prts gk (a + (a0 + a1 - a)) (a0 + a1) = prts 40 a0 (a0 + a1)) := ⟨by
          have h9 := HE.out
          rw [prts, if_pos hlt, hmn] at h9
          rw [List.append_assoc]
          exact h9⟩
        clear HE hmn
        have hlw := HBH.out.size
        go_wp2_with (go_at_call 21; go_loud (refine (parts1 ⟨a / 256, a % 256, a0 + a1 - a⟩ B base v l w0 _ HBH.out (by omega) hb BH.out HH.out (by have := HL.out; omega)).mono ?_); rintro e w1 ⟨rfl, v1, q1, q2, q3⟩; have BH2 := Aside0.mk q1; have HH2 := Aside0.mk q2; have HBH2 := Aside0.mk q3; clear q1 q2 q3)
        go_roundg gk
        case measure => omega
        case rel => exact ⟨a + (a0 + a1 - a), v1, l ++ [⟨a / 256, a % 256, a0 + a1 - a⟩], rfl, HE2, by omega, by omega, ⟨by have := HL.out; simp; omega⟩, ⟨by have := HQ.out; omega⟩, BH2, HH2, HBH2⟩
      · have hmn : mn (256 - a % 256) (a0 + a1 - a) = 256 - a % 256 := by unfold mn; split <;> omega
        obtain ⟨gk, rfl⟩ : ∃ m, gk = m + 1 := ⟨gk - 1, by have := HQ.out; omega⟩
        have HE2 : Aside0 ((l ++ [⟨a / 256, a % 256, 256 - a % 256⟩]) ++ prts gk (a + (256 - a % 256)) (a0 + a1) = prts 40 a0 (a0 + a1)) := ⟨by
          have h9 := HE.out
          rw [prts, if_pos hlt, hmn] at h9
          rw [List.append_assoc]
          exact h9⟩
        clear HE hmn
        have hlw := HBH.out.size
        go_wp2_with (go_at_call 21; go_loud (refine (parts1 ⟨a / 256, a % 256, 256 - a % 256⟩ B base v l w0 _ HBH.out (by omega) hb BH.out HH.out (by have := HL.out; omega)).mono ?_); rintro e w1 ⟨rfl, v1, q1, q2, q3⟩; have BH2 := Aside0.mk q1; have HH2 := Aside0.mk q2; have HBH2 := Aside0.mk q3; clear q1 q2 q3)
        go_roundg gk
        case measure => omega
        case rel => exact ⟨a + (256 - a % 256), v1, l ++ [⟨a / 256, a % 256, 256 - a % 256⟩], rfl, HE2, by omega, by omega, ⟨by have := HL.out; simp; omega⟩, ⟨by have := HQ.out; omega⟩, BH2, HH2, HBH2⟩
    · have hend : prts gk a (a0 + a1) = [] := by cases gk with | zero => rfl | succ k => rw [prts, if_neg hlt]
      have HE2 := HE.out
      rw [hend, List.append_nil] at HE2
      subst HE2
      clear HE hend
      go_wp2
      go_ret
      exact ⟨rfl, v, BH.out, HH.out, HBH.out⟩

/-- No span: nothing is gone through. -/
theorem each_no (a0 a1 : Int) (hmay : mayF a0 a1 ≠ 0) (f : Value) (w : World) :
    Calls Try.prog 20 #[.int .i64 a0, .int .i64 a1, f] w fun e w' => e = .returned (.int .i64 (mayF a0 a1)) ∧ w = w' := by
  have HMA := Aside0.mk (may_calls a0 a1)
  obtain ⟨r, hr⟩ : ∃ r, r = mayF a0 a1 := ⟨_, rfl⟩
  rw [← hr] at HMA hmay ⊢
  clear hr
  have c0 : (r != 0) = true := bne_iff_ne.2 hmay
  go_enter Try.func20, Try.ntmps20
  go_wp2_with (go_at_call 13; refine (HMA.out _).mono ?_; rintro e w' ⟨rfl, rfl⟩)
  go_ret
  exact ⟨rfl, rfl⟩
def span_Parts.f (a0 a1 : Int) : Option (List S28 × Int) := some (if mayF a0 a1 = 0 then (prts 40 a0 (a0 + a1), 0) else ([], mayF a0 a1))
set_option maxHeartbeats 4000000 in
set_option maxRecDepth 100000 in
theorem span_Parts.calls (a0 a1 : Int) (r1 : List S28) (r2 : Int) (w : World) (h : span_Parts.f a0 a1 = some (r1, r2)) :
    Calls Try.prog 6 #[.int .i64 a0, .int .i64 a1] w fun e w' => ∃ v0_ : Value, e = .returned (.tuple #[v0_, .int .i64 r2]) ∧ Kd.R k28 28 w' w.heap.size (fun _ => True) v0_ r1 ∧ Below w.heap.size w w' := by
  unfold span_Parts.f at h
  by_cases hm : mayF a0 a1 = 0
  · rw [if_pos hm] at h
    simp only [Option.some.injEq, Prod.mk.injEq] at h
    obtain ⟨rfl, rfl⟩ := h
    have HE := fun w1 B v (b1 : Below w.heap.size w w1) b2 b3 b4 => each1 a0 a1 hm B w.heap.size v w w1 b1 (Nat.le_refl _) b2 b3 b4
    have HEA := Aside0.mk HE
    clear HE hm
    go_enter Try.func6, Try.ntmps6
    go_wp2_with (go_at_call 20; refine (HEA.out _ w.heap.size (.slice none 0 0) ((Below.refl _ _).alloc (Nat.le_refl _) _) (Nat.le_refl _) (blk_new _ _) (Kd.R_nil _ _ _ _ _)).mono ?_; rintro e w1 ⟨rfl, v1, q1, q2, q3⟩; obtain ⟨A1, c1, rfl⟩ := Kd.R_slice q2; have hcz : w1.cell? ⟨w.heap.size, 0, none⟩ = some (.slice A1 (prts 40 a0 (a0 + a1)).length c1) := (blk_cell q1 0).trans rfl; have QQ := Aside0.mk q2; have QB := Aside0.mk q3; clear q1 q2 q3)
    go_ret2
    exact ⟨_, rfl, Kd.R_mono QQ.out (fun _ _ => trivial), QB.out⟩
  · rw [if_neg hm] at h
    simp only [Option.some.injEq, Prod.mk.injEq] at h
    obtain ⟨rfl, rfl⟩ := h
    have HEA := Aside0.mk (fun f w1 => each_no a0 a1 hm f w1)
    obtain ⟨r, hr⟩ : ∃ r, r = mayF a0 a1 := ⟨_, rfl⟩
    rw [← hr] at HEA ⊢
    clear hr hm
    have hcz : (w.alloc (.cells #[.slice none 0 0] 22)).cell? ⟨w.heap.size, 0, none⟩ = some (.slice none 0 0) := (blk_cell (blk_new _ _) 0).trans rfl
    go_enter Try.func6, Try.ntmps6
    go_wp2_with (go_at_call 20; refine (HEA.out _ _).mono ?_; rintro e w1 ⟨rfl, rfl⟩)
    go_ret2
    exact ⟨_, rfl, Kd.R_nil _ _ _ _ _, (Below.refl _ _).alloc (Nat.le_refl _) _⟩


/-! ### span_Pages: function 8 -/
def span_Pages.f (a0 : Int) : Option (Int) := if a0 < 1 then (some 0) else (some (wrap64 ((wrap64 (Int.tdiv (wrap64 (a0 - 1)) 256)) + 1)))
set_option maxHeartbeats 8000000 in
set_option maxRecDepth 100000 in
theorem span_Pages.calls (a0 : Int) (r : Int) (w : World) (h : span_Pages.f a0 = some r) :
    Calls Try.prog 8 #[.int .i64 a0] w fun e w' => e = .returned (.int .i64 r) ∧ Drawn0 w w' := by
  have H : (if a0 < 1 then (some 0) else (some (wrap64 ((wrap64 (Int.tdiv (wrap64 (a0 - 1)) 256)) + 1)))) = some r := h
  clear h
  by_cases c2 : a0 < 1
  · rw [if_pos c2] at H
    have c2b0 : decide (a0 < 1) = true := decide_eq_true c2
    clear c2
    obtain rfl := Option.some.inj H
    go_enter Try.func8, Try.ntmps8
    go_wp2
    go_ret
    exact ⟨by first | rfl | (simp; done) | (simp [*]; done), by repeat (first | exact Drawn0.refl _ | apply Drawn0.step)⟩
  · rw [if_neg c2] at H
    have c2b0 : decide (a0 < 1) = false := decide_eq_false c2
    clear c2
    obtain rfl := Option.some.inj H
    go_enter Try.func8, Try.ntmps8
    go_wp2
    go_ret
    exact ⟨by first | rfl | (simp; done) | (simp [*]; done), by repeat (first | exact Drawn0.refl _ | apply Drawn0.step)⟩

/-! ### carlinglaw26_alive: function 7 -/
def carlinglaw26_alive.f  : Option (Bool) := (span_Parts.f 250 10).bind fun bt101 => ((span_Parts.f 8192 1).bind fun bt105 => (if bt101.2 = 0 then (if (bt101.1.length : Int) = 2 then (if 0 < (bt101.1.length : Int) then (if (((rd_T28 bt101.1 0).f0) == 0 && (((rd_T28 bt101.1 0).f1) == 250 && (((rd_T28 bt101.1 0).f2) == 6))) = true then (if 1 < (bt101.1.length : Int) then (if (((rd_T28 bt101.1 1).f0) == 1 && (((rd_T28 bt101.1 1).f1) == 0 && (((rd_T28 bt101.1 1).f2) == 4))) = true then (if bt105.2 = 18 then ((span_Pages.f 257).bind fun t111 => (some (t111 == 2))) else (some false)) else (some false)) else (none)) else (some false)) else (none)) else (some false)) else (some false)))
set_option maxHeartbeats 8000000 in
set_option maxRecDepth 100000 in
theorem carlinglaw26_alive.calls  (r : Bool) (w : World) (h : carlinglaw26_alive.f  = some r) :
    Calls Try.prog 7 #[] w fun e w' => e = .returned (.bool r) ∧ Below w.heap.size w w' := by
  have hu28 := Try.underlying28
  have HB := Aside0.mk (Below.refl w.heap.size w)
  have H : ((span_Parts.f 250 10).bind fun bt101 => ((span_Parts.f 8192 1).bind fun bt105 => (if bt101.2 = 0 then (if (bt101.1.length : Int) = 2 then (if 0 < (bt101.1.length : Int) then (if (((rd_T28 bt101.1 0).f0) == 0 && (((rd_T28 bt101.1 0).f1) == 250 && (((rd_T28 bt101.1 0).f2) == 6))) = true then (if 1 < (bt101.1.length : Int) then (if (((rd_T28 bt101.1 1).f0) == 1 && (((rd_T28 bt101.1 1).f1) == 0 && (((rd_T28 bt101.1 1).f2) == 4))) = true then (if bt105.2 = 18 then ((span_Pages.f 257).bind fun t111 => (some (t111 == 2))) else (some false)) else (some false)) else (none)) else (some false)) else (none)) else (some false)) else (some false)))) = some r := h
  clear h
  replace H := Option.bind_eq_some_iff.mp H
  obtain ⟨⟨t101, t102⟩, A10, H⟩ := H
  replace H : ((span_Parts.f 8192 1).bind fun bt105 => (if t102 = 0 then (if (t101.length : Int) = 2 then (if 0 < (t101.length : Int) then (if (((rd_T28 t101 0).f0) == 0 && (((rd_T28 t101 0).f1) == 250 && (((rd_T28 t101 0).f2) == 6))) = true then (if 1 < (t101.length : Int) then (if (((rd_T28 t101 1).f0) == 1 && (((rd_T28 t101 1).f1) == 0 && (((rd_T28 t101 1).f2) == 4))) = true then (if bt105.2 = 18 then ((span_Pages.f 257).bind fun t111 => (some (t111 == 2))) else (some false)) else (some false)) else (none)) else (some false)) else (none)) else (some false)) else (some false))) = some r := H
  have A1 := Aside0.mk A10
  clear A10
  replace H := Option.bind_eq_some_iff.mp H
  obtain ⟨⟨t105, t106⟩, A20, H⟩ := H
  replace H : (if t102 = 0 then (if (t101.length : Int) = 2 then (if 0 < (t101.length : Int) then (if (((rd_T28 t101 0).f0) == 0 && (((rd_T28 t101 0).f1) == 250 && (((rd_T28 t101 0).f2) == 6))) = true then (if 1 < (t101.length : Int) then (if (((rd_T28 t101 1).f0) == 1 && (((rd_T28 t101 1).f1) == 0 && (((rd_T28 t101 1).f2) == 4))) = true then (if t106 = 18 then ((span_Pages.f 257).bind fun t111 => (some (t111 == 2))) else (some false)) else (some false)) else (none)) else (some false)) else (none)) else (some false)) else (some false)) = some r := H
  have A2 := Aside0.mk A20
  clear A20
  by_cases c3 : t102 = 0
  · rw [if_pos c3] at H
    have c3b0 : (t102 == 0) = true := beq_iff_eq.mpr c3
    have c3b1 : (t102 != 0) = false := bne_eq_false_iff_eq.mpr c3
    clear c3
    by_cases c4 : (t101.length : Int) = 2
    · rw [if_pos c4] at H
      have c4b0 : ((t101.length : Int) == 2) = true := beq_iff_eq.mpr c4
      have c4b1 : ((t101.length : Int) != 2) = false := bne_eq_false_iff_eq.mpr c4
      clear c4
      by_cases c5 : 0 < (t101.length : Int)
      · rw [if_pos c5] at H
        have c5b0 : decide (0 < (t101.length : Int)) = true := decide_eq_true c5
        have c5b1 : decide (0 < t101.length) = true := decide_eq_true (by omega)
        clear c5
        by_cases c6 : (((rd_T28 t101 0).f0) == 0 && (((rd_T28 t101 0).f1) == 250 && (((rd_T28 t101 0).f2) == 6))) = true
        · rw [if_pos c6] at H
          have c6b0 : (((rd_T28 t101 0).f0) == 0 && (((rd_T28 t101 0).f1) == 250 && (((rd_T28 t101 0).f2) == 6))) = true := c6
          (try (have c6b1 : decide (((rd_T28 t101 0).f0) = 0 && (((rd_T28 t101 0).f1) == 250 && (((rd_T28 t101 0).f2) == 6))) = true := by simpa using c6))
          (try (have c6b2 : (((rd_T28 t101 0).f0) == 0 && (((rd_T28 t101 0).f1) == 250 && (((rd_T28 t101 0).f2) == 6))) = true := by simpa using c6))
          clear c6
          by_cases c7 : 1 < (t101.length : Int)
          · rw [if_pos c7] at H
            have c7b0 : decide (1 < (t101.length : Int)) = true := decide_eq_true c7
            have c7b1 : decide (1 < t101.length) = true := decide_eq_true (by omega)
            clear c7
            by_cases c8 : (((rd_T28 t101 1).f0) == 1 && (((rd_T28 t101 1).f1) == 0 && (((rd_T28 t101 1).f2) == 4))) = true
            · rw [if_pos c8] at H
              have c8b0 : (((rd_T28 t101 1).f0) == 1 && (((rd_T28 t101 1).f1) == 0 && (((rd_T28 t101 1).f2) == 4))) = true := c8
              (try (have c8b1 : decide (((rd_T28 t101 1).f0) = 1 && (((rd_T28 t101 1).f1) == 0 && (((rd_T28 t101 1).f2) == 4))) = true := by simpa using c8))
              (try (have c8b2 : (((rd_T28 t101 1).f0) == 1 && (((rd_T28 t101 1).f1) == 0 && (((rd_T28 t101 1).f2) == 4))) = true := by simpa using c8))
              clear c8
              by_cases c9 : t106 = 18
              · rw [if_pos c9] at H
                have c9b0 : (t106 == 18) = true := beq_iff_eq.mpr c9
                have c9b1 : (t106 != 18) = false := bne_eq_false_iff_eq.mpr c9
                clear c9
                replace H := Option.bind_eq_some_iff.mp H
                obtain ⟨t111, A100, H⟩ := H
                replace H : (some (t111 == 2)) = some r := H
                have A10 := Aside0.mk A100
                clear A100
                obtain rfl := Option.some.inj H
                go_enter Try.func7, Try.ntmps7
                go_wp2_with (first | ((with_reducible refine gate_callee (f := 6) rfl ?_); refine goesL_ (some 6) rfl rfl Try.func6 (by kernel_rfl) rfl #[.int .i64 250, .int .i64 10] rfl (by (try simp only [List.map_toArray, List.map_cons, List.map_nil]); first | done | rfl | (simp only [List.length_drop, List.length_take]; rfl)) ?_; (with_reducible refine (span_Parts.calls 250 10 t101 t102 _ A1.out).mono ?_); rintro e w11 ⟨v103, rfl, ho0, hb⟩; refine ⟨_, rfl, ?_⟩; have n0_ := Aside0.mk (Kd.R_lower ho0 (below_size (by repeat (first | (with_reducible first | exact HB.out | apply below_alloc | apply pw_below_drewN | apply below_drew1) | exact HB.out)))); have n1_ := Aside0.mk (below_step (by repeat (first | (with_reducible first | exact HB.out | apply below_alloc | apply pw_below_drewN | apply below_drew1) | exact HB.out)) hb); clear HB; have HO104 := n0_; have HB := n1_; clear n0_ n1_; (try clear hb); (try clear hb2); (try clear hk); (try clear hi); (try clear ho0)) | ((with_reducible refine gate_callee (f := 6) rfl ?_); refine goesL_ (some 10) rfl rfl Try.func6 (by kernel_rfl) rfl #[.int .i64 8192, .int .i64 1] rfl (by (try simp only [List.map_toArray, List.map_cons, List.map_nil]); first | done | rfl | (simp only [List.length_drop, List.length_take]; rfl)) ?_; (with_reducible refine (span_Parts.calls 8192 1 t105 t106 _ A2.out).mono ?_); rintro e w12 ⟨v107, rfl, ho0, hb⟩; refine ⟨_, rfl, ?_⟩; have n0_ := Aside0.mk (Kd.R_elder' (by (with_reducible repeat (first | apply Kd.R_alloc | apply Kd.R_drewN | apply Kd.R_drew)); exact HO104.out) (Kd.R_base ho0) hb); have n1_ := Aside0.mk (Kd.R_lower (Kd.R_new' ho0 (Kd.R_lt (by (with_reducible repeat (first | apply Kd.R_alloc | apply Kd.R_drewN | apply Kd.R_drew)); exact HO104.out))) (below_size (by repeat (first | (with_reducible first | exact HB.out | apply below_alloc | apply pw_below_drewN | apply below_drew1) | exact HB.out)))); have n2_ := Aside0.mk (below_step (by repeat (first | (with_reducible first | exact HB.out | apply below_alloc | apply pw_below_drewN | apply below_drew1) | exact HB.out)) hb); clear HO104; clear HB; have HO104 := n0_; have HO108 := n1_; have HB := n2_; clear n0_ n1_ n2_; (try clear hb); (try clear hb2); (try clear hk); (try clear hi); (try clear ho0); obtain ⟨Ao13, co13, eo13⟩ := Kd.R_slice HO104.out; subst eo13; have p109 : 0 ≤ (0 : Int) := (by omega); have q109 : 0 < (t101.length : Int) := of_decide_eq_true (by first | (with_reducible assumption) | assumption); obtain ⟨ad109, e109, hx109_0, hx109_1, hx109_2⟩ := at_T28 (Kd.R_reads' HO104.out).2.2 0 p109 q109; cases e109; have qi109 : (0 < t101.length) = True := eq_true (by omega); (try rw [show ((0 : Int)).toNat = 0 from rfl] at hx109_0); (try rw [show 0 * 3 = 0 from rfl] at hx109_0); (try rw [Addr.add_zero'] at hx109_0); (try rw [show ((0 : Int)).toNat = 0 from rfl] at hx109_1); (try rw [show 0 * 3 = 0 from rfl] at hx109_1); (try rw [Addr.add_zero'] at hx109_1); (try rw [show ((0 : Int)).toNat = 0 from rfl] at hx109_2); (try rw [show 0 * 3 = 0 from rfl] at hx109_2); (try rw [Addr.add_zero'] at hx109_2); replace p109 := eq_true p109; replace q109 := eq_true q109; have p110 : 0 ≤ (1 : Int) := (by omega); have q110 : 1 < (t101.length : Int) := of_decide_eq_true (by first | (with_reducible assumption) | assumption); obtain ⟨ad110, e110, hx110_0, hx110_1, hx110_2⟩ := at_T28 (Kd.R_reads' HO104.out).2.2 1 p110 q110; obtain rfl : ad109 = ad110 := (by injection e110); (try simp only [show (1 : Int).toNat = 1 from rfl, Nat.reduceMul, Nat.reduceEqDiff, Go.Addr.add, ↓reduceIte] at hx110_0); (try simp only [show (1 : Int).toNat = 1 from rfl, Nat.reduceMul, Nat.reduceEqDiff, Go.Addr.add, ↓reduceIte] at hx110_1); (try simp only [show (1 : Int).toNat = 1 from rfl, Nat.reduceMul, Nat.reduceEqDiff, Go.Addr.add, ↓reduceIte] at hx110_2); have qi110 : (1 < t101.length) = True := eq_true (by omega); (try rw [show ((1 : Int)).toNat = 1 from rfl] at hx110_0); (try rw [show 1 * 3 = 3 from rfl] at hx110_0); (try rw [show ((1 : Int)).toNat = 1 from rfl] at hx110_1); (try rw [show 1 * 3 = 3 from rfl] at hx110_1); (try rw [show ((1 : Int)).toNat = 1 from rfl] at hx110_2); (try rw [show 1 * 3 = 3 from rfl] at hx110_2); replace p110 := eq_true p110; replace q110 := eq_true q110) | (go_at_call 8; (with_reducible refine (span_Pages.calls 257 t111 _ A10.out).mono ?_); rintro e w' ⟨rfl, ⟨nd, rfl⟩⟩))
                go_ret
                exact ⟨by first | rfl | (simp [errW_none, errW_some] <;> rfl) | (simp [*, errW_none, errW_some] <;> rfl), by repeat (first | (with_reducible first | exact HB.out | apply below_alloc | apply pw_below_drewN | apply below_drew1) | exact HB.out)⟩
              · rw [if_neg c9] at H
                have c9b0 : (t106 == 18) = false := beq_eq_false_iff_ne.mpr c9
                have c9b1 : (t106 != 18) = true := bne_iff_ne.mpr c9
                obtain rfl := Option.some.inj H
                go_enter Try.func7, Try.ntmps7
                go_wp2_with (first | ((with_reducible refine gate_callee (f := 6) rfl ?_); refine goesL_ (some 6) rfl rfl Try.func6 (by kernel_rfl) rfl #[.int .i64 250, .int .i64 10] rfl (by (try simp only [List.map_toArray, List.map_cons, List.map_nil]); first | done | rfl | (simp only [List.length_drop, List.length_take]; rfl)) ?_; (with_reducible refine (span_Parts.calls 250 10 t101 t102 _ A1.out).mono ?_); rintro e w14 ⟨v103, rfl, ho0, hb⟩; refine ⟨_, rfl, ?_⟩; have n0_ := Aside0.mk (Kd.R_lower ho0 (below_size (by repeat (first | (with_reducible first | exact HB.out | apply below_alloc | apply pw_below_drewN | apply below_drew1) | exact HB.out)))); have n1_ := Aside0.mk (below_step (by repeat (first | (with_reducible first | exact HB.out | apply below_alloc | apply pw_below_drewN | apply below_drew1) | exact HB.out)) hb); clear HB; have HO104 := n0_; have HB := n1_; clear n0_ n1_; (try clear hb); (try clear hb2); (try clear hk); (try clear hi); (try clear ho0)) | ((with_reducible refine gate_callee (f := 6) rfl ?_); refine goesL_ (some 10) rfl rfl Try.func6 (by kernel_rfl) rfl #[.int .i64 8192, .int .i64 1] rfl (by (try simp only [List.map_toArray, List.map_cons, List.map_nil]); first | done | rfl | (simp only [List.length_drop, List.length_take]; rfl)) ?_; (with_reducible refine (span_Parts.calls 8192 1 t105 t106 _ A2.out).mono ?_); rintro e w15 ⟨v107, rfl, ho0, hb⟩; refine ⟨_, rfl, ?_⟩; have n0_ := Aside0.mk (Kd.R_elder' (by (with_reducible repeat (first | apply Kd.R_alloc | apply Kd.R_drewN | apply Kd.R_drew)); exact HO104.out) (Kd.R_base ho0) hb); have n1_ := Aside0.mk (Kd.R_lower (Kd.R_new' ho0 (Kd.R_lt (by (with_reducible repeat (first | apply Kd.R_alloc | apply Kd.R_drewN | apply Kd.R_drew)); exact HO104.out))) (below_size (by repeat (first | (with_reducible first | exact HB.out | apply below_alloc | apply pw_below_drewN | apply below_drew1) | exact HB.out)))); have n2_ := Aside0.mk (below_step (by repeat (first | (with_reducible first | exact HB.out | apply below_alloc | apply pw_below_drewN | apply below_drew1) | exact HB.out)) hb); clear HO104; clear HB; have HO104 := n0_; have HO108 := n1_; have HB := n2_; clear n0_ n1_ n2_; (try clear hb); (try clear hb2); (try clear hk); (try clear hi); (try clear ho0); obtain ⟨Ao16, co16, eo16⟩ := Kd.R_slice HO104.out; subst eo16; have p109 : 0 ≤ (0 : Int) := (by omega); have q109 : 0 < (t101.length : Int) := of_decide_eq_true (by first | (with_reducible assumption) | assumption); obtain ⟨ad109, e109, hx109_0, hx109_1, hx109_2⟩ := at_T28 (Kd.R_reads' HO104.out).2.2 0 p109 q109; cases e109; have qi109 : (0 < t101.length) = True := eq_true (by omega); (try rw [show ((0 : Int)).toNat = 0 from rfl] at hx109_0); (try rw [show 0 * 3 = 0 from rfl] at hx109_0); (try rw [Addr.add_zero'] at hx109_0); (try rw [show ((0 : Int)).toNat = 0 from rfl] at hx109_1); (try rw [show 0 * 3 = 0 from rfl] at hx109_1); (try rw [Addr.add_zero'] at hx109_1); (try rw [show ((0 : Int)).toNat = 0 from rfl] at hx109_2); (try rw [show 0 * 3 = 0 from rfl] at hx109_2); (try rw [Addr.add_zero'] at hx109_2); replace p109 := eq_true p109; replace q109 := eq_true q109; have p110 : 0 ≤ (1 : Int) := (by omega); have q110 : 1 < (t101.length : Int) := of_decide_eq_true (by first | (with_reducible assumption) | assumption); obtain ⟨ad110, e110, hx110_0, hx110_1, hx110_2⟩ := at_T28 (Kd.R_reads' HO104.out).2.2 1 p110 q110; obtain rfl : ad109 = ad110 := (by injection e110); (try simp only [show (1 : Int).toNat = 1 from rfl, Nat.reduceMul, Nat.reduceEqDiff, Go.Addr.add, ↓reduceIte] at hx110_0); (try simp only [show (1 : Int).toNat = 1 from rfl, Nat.reduceMul, Nat.reduceEqDiff, Go.Addr.add, ↓reduceIte] at hx110_1); (try simp only [show (1 : Int).toNat = 1 from rfl, Nat.reduceMul, Nat.reduceEqDiff, Go.Addr.add, ↓reduceIte] at hx110_2); have qi110 : (1 < t101.length) = True := eq_true (by omega); (try rw [show ((1 : Int)).toNat = 1 from rfl] at hx110_0); (try rw [show 1 * 3 = 3 from rfl] at hx110_0); (try rw [show ((1 : Int)).toNat = 1 from rfl] at hx110_1); (try rw [show 1 * 3 = 3 from rfl] at hx110_1); (try rw [show ((1 : Int)).toNat = 1 from rfl] at hx110_2); (try rw [show 1 * 3 = 3 from rfl] at hx110_2); replace p110 := eq_true p110; replace q110 := eq_true q110))
                go_ret
                exact ⟨by first | rfl | (simp [errW_none, errW_some] <;> rfl) | (simp [*, errW_none, errW_some] <;> rfl), by repeat (first | (with_reducible first | exact HB.out | apply below_alloc | apply pw_below_drewN | apply below_drew1) | exact HB.out)⟩
            · rw [if_neg c8] at H
              have c8b0 : (((rd_T28 t101 1).f0) == 1 && (((rd_T28 t101 1).f1) == 0 && (((rd_T28 t101 1).f2) == 4))) = false := by simpa using c8
              (try (have c8b1 : decide (((rd_T28 t101 1).f0) = 1 && (((rd_T28 t101 1).f1) == 0 && (((rd_T28 t101 1).f2) == 4))) = false := by simpa using c8))
              (try (have c8b2 : (((rd_T28 t101 1).f0) == 1 && (((rd_T28 t101 1).f1) == 0 && (((rd_T28 t101 1).f2) == 4))) = false := by simpa using c8))
              (try (have c8b3 : ¬ (((rd_T28 t101 1).f0) = 1 && (((rd_T28 t101 1).f1) == 0 && (((rd_T28 t101 1).f2) == 4))) := by simpa using c8))
              clear c8
              obtain rfl := Option.some.inj H
              go_enter Try.func7, Try.ntmps7
              go_wp2_with (first | ((with_reducible refine gate_callee (f := 6) rfl ?_); refine goesL_ (some 6) rfl rfl Try.func6 (by kernel_rfl) rfl #[.int .i64 250, .int .i64 10] rfl (by (try simp only [List.map_toArray, List.map_cons, List.map_nil]); first | done | rfl | (simp only [List.length_drop, List.length_take]; rfl)) ?_; (with_reducible refine (span_Parts.calls 250 10 t101 t102 _ A1.out).mono ?_); rintro e w17 ⟨v103, rfl, ho0, hb⟩; refine ⟨_, rfl, ?_⟩; have n0_ := Aside0.mk (Kd.R_lower ho0 (below_size (by repeat (first | (with_reducible first | exact HB.out | apply below_alloc | apply pw_below_drewN | apply below_drew1) | exact HB.out)))); have n1_ := Aside0.mk (below_step (by repeat (first | (with_reducible first | exact HB.out | apply below_alloc | apply pw_below_drewN | apply below_drew1) | exact HB.out)) hb); clear HB; have HO104 := n0_; have HB := n1_; clear n0_ n1_; (try clear hb); (try clear hb2); (try clear hk); (try clear hi); (try clear ho0)) | ((with_reducible refine gate_callee (f := 6) rfl ?_); refine goesL_ (some 10) rfl rfl Try.func6 (by kernel_rfl) rfl #[.int .i64 8192, .int .i64 1] rfl (by (try simp only [List.map_toArray, List.map_cons, List.map_nil]); first | done | rfl | (simp only [List.length_drop, List.length_take]; rfl)) ?_; (with_reducible refine (span_Parts.calls 8192 1 t105 t106 _ A2.out).mono ?_); rintro e w18 ⟨v107, rfl, ho0, hb⟩; refine ⟨_, rfl, ?_⟩; have n0_ := Aside0.mk (Kd.R_elder' (by (with_reducible repeat (first | apply Kd.R_alloc | apply Kd.R_drewN | apply Kd.R_drew)); exact HO104.out) (Kd.R_base ho0) hb); have n1_ := Aside0.mk (Kd.R_lower (Kd.R_new' ho0 (Kd.R_lt (by (with_reducible repeat (first | apply Kd.R_alloc | apply Kd.R_drewN | apply Kd.R_drew)); exact HO104.out))) (below_size (by repeat (first | (with_reducible first | exact HB.out | apply below_alloc | apply pw_below_drewN | apply below_drew1) | exact HB.out)))); have n2_ := Aside0.mk (below_step (by repeat (first | (with_reducible first | exact HB.out | apply below_alloc | apply pw_below_drewN | apply below_drew1) | exact HB.out)) hb); clear HO104; clear HB; have HO104 := n0_; have HO108 := n1_; have HB := n2_; clear n0_ n1_ n2_; (try clear hb); (try clear hb2); (try clear hk); (try clear hi); (try clear ho0); obtain ⟨Ao19, co19, eo19⟩ := Kd.R_slice HO104.out; subst eo19; have p109 : 0 ≤ (0 : Int) := (by omega); have q109 : 0 < (t101.length : Int) := of_decide_eq_true (by first | (with_reducible assumption) | assumption); obtain ⟨ad109, e109, hx109_0, hx109_1, hx109_2⟩ := at_T28 (Kd.R_reads' HO104.out).2.2 0 p109 q109; cases e109; have qi109 : (0 < t101.length) = True := eq_true (by omega); (try rw [show ((0 : Int)).toNat = 0 from rfl] at hx109_0); (try rw [show 0 * 3 = 0 from rfl] at hx109_0); (try rw [Addr.add_zero'] at hx109_0); (try rw [show ((0 : Int)).toNat = 0 from rfl] at hx109_1); (try rw [show 0 * 3 = 0 from rfl] at hx109_1); (try rw [Addr.add_zero'] at hx109_1); (try rw [show ((0 : Int)).toNat = 0 from rfl] at hx109_2); (try rw [show 0 * 3 = 0 from rfl] at hx109_2); (try rw [Addr.add_zero'] at hx109_2); replace p109 := eq_true p109; replace q109 := eq_true q109; have p110 : 0 ≤ (1 : Int) := (by omega); have q110 : 1 < (t101.length : Int) := of_decide_eq_true (by first | (with_reducible assumption) | assumption); obtain ⟨ad110, e110, hx110_0, hx110_1, hx110_2⟩ := at_T28 (Kd.R_reads' HO104.out).2.2 1 p110 q110; obtain rfl : ad109 = ad110 := (by injection e110); (try simp only [show (1 : Int).toNat = 1 from rfl, Nat.reduceMul, Nat.reduceEqDiff, Go.Addr.add, ↓reduceIte] at hx110_0); (try simp only [show (1 : Int).toNat = 1 from rfl, Nat.reduceMul, Nat.reduceEqDiff, Go.Addr.add, ↓reduceIte] at hx110_1); (try simp only [show (1 : Int).toNat = 1 from rfl, Nat.reduceMul, Nat.reduceEqDiff, Go.Addr.add, ↓reduceIte] at hx110_2); have qi110 : (1 < t101.length) = True := eq_true (by omega); (try rw [show ((1 : Int)).toNat = 1 from rfl] at hx110_0); (try rw [show 1 * 3 = 3 from rfl] at hx110_0); (try rw [show ((1 : Int)).toNat = 1 from rfl] at hx110_1); (try rw [show 1 * 3 = 3 from rfl] at hx110_1); (try rw [show ((1 : Int)).toNat = 1 from rfl] at hx110_2); (try rw [show 1 * 3 = 3 from rfl] at hx110_2); replace p110 := eq_true p110; replace q110 := eq_true q110))
              go_ret
              exact ⟨by first | rfl | (simp [errW_none, errW_some] <;> rfl) | (simp [*, errW_none, errW_some] <;> rfl), by repeat (first | (with_reducible first | exact HB.out | apply below_alloc | apply pw_below_drewN | apply below_drew1) | exact HB.out)⟩
          · rw [if_neg c7] at H
            exact absurd H (by simp)
        · rw [if_neg c6] at H
          have c6b0 : (((rd_T28 t101 0).f0) == 0 && (((rd_T28 t101 0).f1) == 250 && (((rd_T28 t101 0).f2) == 6))) = false := by simpa using c6
          (try (have c6b1 : decide (((rd_T28 t101 0).f0) = 0 && (((rd_T28 t101 0).f1) == 250 && (((rd_T28 t101 0).f2) == 6))) = false := by simpa using c6))
          (try (have c6b2 : (((rd_T28 t101 0).f0) == 0 && (((rd_T28 t101 0).f1) == 250 && (((rd_T28 t101 0).f2) == 6))) = false := by simpa using c6))
          (try (have c6b3 : ¬ (((rd_T28 t101 0).f0) = 0 && (((rd_T28 t101 0).f1) == 250 && (((rd_T28 t101 0).f2) == 6))) := by simpa using c6))
          clear c6
          obtain rfl := Option.some.inj H
          go_enter Try.func7, Try.ntmps7
          go_wp2_with (first | ((with_reducible refine gate_callee (f := 6) rfl ?_); refine goesL_ (some 6) rfl rfl Try.func6 (by kernel_rfl) rfl #[.int .i64 250, .int .i64 10] rfl (by (try simp only [List.map_toArray, List.map_cons, List.map_nil]); first | done | rfl | (simp only [List.length_drop, List.length_take]; rfl)) ?_; (with_reducible refine (span_Parts.calls 250 10 t101 t102 _ A1.out).mono ?_); rintro e w20 ⟨v103, rfl, ho0, hb⟩; refine ⟨_, rfl, ?_⟩; have n0_ := Aside0.mk (Kd.R_lower ho0 (below_size (by repeat (first | (with_reducible first | exact HB.out | apply below_alloc | apply pw_below_drewN | apply below_drew1) | exact HB.out)))); have n1_ := Aside0.mk (below_step (by repeat (first | (with_reducible first | exact HB.out | apply below_alloc | apply pw_below_drewN | apply below_drew1) | exact HB.out)) hb); clear HB; have HO104 := n0_; have HB := n1_; clear n0_ n1_; (try clear hb); (try clear hb2); (try clear hk); (try clear hi); (try clear ho0)) | ((with_reducible refine gate_callee (f := 6) rfl ?_); refine goesL_ (some 10) rfl rfl Try.func6 (by kernel_rfl) rfl #[.int .i64 8192, .int .i64 1] rfl (by (try simp only [List.map_toArray, List.map_cons, List.map_nil]); first | done | rfl | (simp only [List.length_drop, List.length_take]; rfl)) ?_; (with_reducible refine (span_Parts.calls 8192 1 t105 t106 _ A2.out).mono ?_); rintro e w21 ⟨v107, rfl, ho0, hb⟩; refine ⟨_, rfl, ?_⟩; have n0_ := Aside0.mk (Kd.R_elder' (by (with_reducible repeat (first | apply Kd.R_alloc | apply Kd.R_drewN | apply Kd.R_drew)); exact HO104.out) (Kd.R_base ho0) hb); have n1_ := Aside0.mk (Kd.R_lower (Kd.R_new' ho0 (Kd.R_lt (by (with_reducible repeat (first | apply Kd.R_alloc | apply Kd.R_drewN | apply Kd.R_drew)); exact HO104.out))) (below_size (by repeat (first | (with_reducible first | exact HB.out | apply below_alloc | apply pw_below_drewN | apply below_drew1) | exact HB.out)))); have n2_ := Aside0.mk (below_step (by repeat (first | (with_reducible first | exact HB.out | apply below_alloc | apply pw_below_drewN | apply below_drew1) | exact HB.out)) hb); clear HO104; clear HB; have HO104 := n0_; have HO108 := n1_; have HB := n2_; clear n0_ n1_ n2_; (try clear hb); (try clear hb2); (try clear hk); (try clear hi); (try clear ho0); obtain ⟨Ao22, co22, eo22⟩ := Kd.R_slice HO104.out; subst eo22; have p109 : 0 ≤ (0 : Int) := (by omega); have q109 : 0 < (t101.length : Int) := of_decide_eq_true (by first | (with_reducible assumption) | assumption); obtain ⟨ad109, e109, hx109_0, hx109_1, hx109_2⟩ := at_T28 (Kd.R_reads' HO104.out).2.2 0 p109 q109; cases e109; have qi109 : (0 < t101.length) = True := eq_true (by omega); (try rw [show ((0 : Int)).toNat = 0 from rfl] at hx109_0); (try rw [show 0 * 3 = 0 from rfl] at hx109_0); (try rw [Addr.add_zero'] at hx109_0); (try rw [show ((0 : Int)).toNat = 0 from rfl] at hx109_1); (try rw [show 0 * 3 = 0 from rfl] at hx109_1); (try rw [Addr.add_zero'] at hx109_1); (try rw [show ((0 : Int)).toNat = 0 from rfl] at hx109_2); (try rw [show 0 * 3 = 0 from rfl] at hx109_2); (try rw [Addr.add_zero'] at hx109_2); replace p109 := eq_true p109; replace q109 := eq_true q109))
          go_ret
          exact ⟨by first | rfl | (simp [errW_none, errW_some] <;> rfl) | (simp [*, errW_none, errW_some] <;> rfl), by repeat (first | (with_reducible first | exact HB.out | apply below_alloc | apply pw_below_drewN | apply below_drew1) | exact HB.out)⟩
      · rw [if_neg c5] at H
        exact absurd H (by simp)
    · rw [if_neg c4] at H
      have c4b0 : ((t101.length : Int) == 2) = false := beq_eq_false_iff_ne.mpr c4
      have c4b1 : ((t101.length : Int) != 2) = true := bne_iff_ne.mpr c4
      obtain rfl := Option.some.inj H
      go_enter Try.func7, Try.ntmps7
      go_wp2_with (first | ((with_reducible refine gate_callee (f := 6) rfl ?_); refine goesL_ (some 6) rfl rfl Try.func6 (by kernel_rfl) rfl #[.int .i64 250, .int .i64 10] rfl (by (try simp only [List.map_toArray, List.map_cons, List.map_nil]); first | done | rfl | (simp only [List.length_drop, List.length_take]; rfl)) ?_; (with_reducible refine (span_Parts.calls 250 10 t101 t102 _ A1.out).mono ?_); rintro e w23 ⟨v103, rfl, ho0, hb⟩; refine ⟨_, rfl, ?_⟩; have n0_ := Aside0.mk (Kd.R_lower ho0 (below_size (by repeat (first | (with_reducible first | exact HB.out | apply below_alloc | apply pw_below_drewN | apply below_drew1) | exact HB.out)))); have n1_ := Aside0.mk (below_step (by repeat (first | (with_reducible first | exact HB.out | apply below_alloc | apply pw_below_drewN | apply below_drew1) | exact HB.out)) hb); clear HB; have HO104 := n0_; have HB := n1_; clear n0_ n1_; (try clear hb); (try clear hb2); (try clear hk); (try clear hi); (try clear ho0)) | ((with_reducible refine gate_callee (f := 6) rfl ?_); refine goesL_ (some 10) rfl rfl Try.func6 (by kernel_rfl) rfl #[.int .i64 8192, .int .i64 1] rfl (by (try simp only [List.map_toArray, List.map_cons, List.map_nil]); first | done | rfl | (simp only [List.length_drop, List.length_take]; rfl)) ?_; (with_reducible refine (span_Parts.calls 8192 1 t105 t106 _ A2.out).mono ?_); rintro e w24 ⟨v107, rfl, ho0, hb⟩; refine ⟨_, rfl, ?_⟩; have n0_ := Aside0.mk (Kd.R_elder' (by (with_reducible repeat (first | apply Kd.R_alloc | apply Kd.R_drewN | apply Kd.R_drew)); exact HO104.out) (Kd.R_base ho0) hb); have n1_ := Aside0.mk (Kd.R_lower (Kd.R_new' ho0 (Kd.R_lt (by (with_reducible repeat (first | apply Kd.R_alloc | apply Kd.R_drewN | apply Kd.R_drew)); exact HO104.out))) (below_size (by repeat (first | (with_reducible first | exact HB.out | apply below_alloc | apply pw_below_drewN | apply below_drew1) | exact HB.out)))); have n2_ := Aside0.mk (below_step (by repeat (first | (with_reducible first | exact HB.out | apply below_alloc | apply pw_below_drewN | apply below_drew1) | exact HB.out)) hb); clear HO104; clear HB; have HO104 := n0_; have HO108 := n1_; have HB := n2_; clear n0_ n1_ n2_; (try clear hb); (try clear hb2); (try clear hk); (try clear hi); (try clear ho0); obtain ⟨Ao25, co25, eo25⟩ := Kd.R_slice HO104.out; subst eo25))
      go_ret
      exact ⟨by first | rfl | (simp [errW_none, errW_some] <;> rfl) | (simp [*, errW_none, errW_some] <;> rfl), by repeat (first | (with_reducible first | exact HB.out | apply below_alloc | apply pw_below_drewN | apply below_drew1) | exact HB.out)⟩
  · rw [if_neg c3] at H
    have c3b0 : (t102 == 0) = false := beq_eq_false_iff_ne.mpr c3
    have c3b1 : (t102 != 0) = true := bne_iff_ne.mpr c3
    obtain rfl := Option.some.inj H
    go_enter Try.func7, Try.ntmps7
    go_wp2_with (first | ((with_reducible refine gate_callee (f := 6) rfl ?_); refine goesL_ (some 6) rfl rfl Try.func6 (by kernel_rfl) rfl #[.int .i64 250, .int .i64 10] rfl (by (try simp only [List.map_toArray, List.map_cons, List.map_nil]); first | done | rfl | (simp only [List.length_drop, List.length_take]; rfl)) ?_; (with_reducible refine (span_Parts.calls 250 10 t101 t102 _ A1.out).mono ?_); rintro e w26 ⟨v103, rfl, ho0, hb⟩; refine ⟨_, rfl, ?_⟩; have n0_ := Aside0.mk (Kd.R_lower ho0 (below_size (by repeat (first | (with_reducible first | exact HB.out | apply below_alloc | apply pw_below_drewN | apply below_drew1) | exact HB.out)))); have n1_ := Aside0.mk (below_step (by repeat (first | (with_reducible first | exact HB.out | apply below_alloc | apply pw_below_drewN | apply below_drew1) | exact HB.out)) hb); clear HB; have HO104 := n0_; have HB := n1_; clear n0_ n1_; (try clear hb); (try clear hb2); (try clear hk); (try clear hi); (try clear ho0)) | ((with_reducible refine gate_callee (f := 6) rfl ?_); refine goesL_ (some 10) rfl rfl Try.func6 (by kernel_rfl) rfl #[.int .i64 8192, .int .i64 1] rfl (by (try simp only [List.map_toArray, List.map_cons, List.map_nil]); first | done | rfl | (simp only [List.length_drop, List.length_take]; rfl)) ?_; (with_reducible refine (span_Parts.calls 8192 1 t105 t106 _ A2.out).mono ?_); rintro e w27 ⟨v107, rfl, ho0, hb⟩; refine ⟨_, rfl, ?_⟩; have n0_ := Aside0.mk (Kd.R_elder' (by (with_reducible repeat (first | apply Kd.R_alloc | apply Kd.R_drewN | apply Kd.R_drew)); exact HO104.out) (Kd.R_base ho0) hb); have n1_ := Aside0.mk (Kd.R_lower (Kd.R_new' ho0 (Kd.R_lt (by (with_reducible repeat (first | apply Kd.R_alloc | apply Kd.R_drewN | apply Kd.R_drew)); exact HO104.out))) (below_size (by repeat (first | (with_reducible first | exact HB.out | apply below_alloc | apply pw_below_drewN | apply below_drew1) | exact HB.out)))); have n2_ := Aside0.mk (below_step (by repeat (first | (with_reducible first | exact HB.out | apply below_alloc | apply pw_below_drewN | apply below_drew1) | exact HB.out)) hb); clear HO104; clear HB; have HO104 := n0_; have HO108 := n1_; have HB := n2_; clear n0_ n1_ n2_; (try clear hb); (try clear hb2); (try clear hk); (try clear hi); (try clear ho0)))
    go_ret
    exact ⟨by first | rfl | (simp [errW_none, errW_some] <;> rfl) | (simp [*, errW_none, errW_some] <;> rfl), by repeat (first | (with_reducible first | exact HB.out | apply below_alloc | apply pw_below_drewN | apply below_drew1) | exact HB.out)⟩

/-! ### span_Part_isRight: function 23 -/
def span_Part_isRight.f (a0_0 : Int) (a0_1 : Int) (a0_2 : Int) : Option (Bool) := if a0_1 ≥ 0 then (if a0_2 ≥ 0 then (if a0_1 ≤ 256 then (some (decide (a0_2 ≤ (wrap64 (256 - a0_1))))) else (some false)) else (some false)) else (some false)
set_option maxHeartbeats 8000000 in
set_option maxRecDepth 100000 in
theorem span_Part_isRight.calls (a0_0 : Int) (a0_1 : Int) (a0_2 : Int) (r : Bool) (w : World) (h : span_Part_isRight.f a0_0 a0_1 a0_2 = some r) :
    Calls Try.prog 23 #[.agg #[.int .i64 a0_0, .int .i64 a0_1, .int .i64 a0_2]] w fun e w' => e = .returned (.bool r) ∧ Below w.heap.size w w' := by
  have hu28 := Try.underlying28
  have HB := Aside0.mk (Below.refl w.heap.size w)
  have H : (if a0_1 ≥ 0 then (if a0_2 ≥ 0 then (if a0_1 ≤ 256 then (some (decide (a0_2 ≤ (wrap64 (256 - a0_1))))) else (some false)) else (some false)) else (some false)) = some r := h
  clear h
  by_cases c2 : a0_1 ≥ 0
  · rw [if_pos c2] at H
    have c2b0 : decide (0 ≤ a0_1) = true := decide_eq_true c2
    clear c2
    by_cases c3 : a0_2 ≥ 0
    · rw [if_pos c3] at H
      have c3b0 : decide (0 ≤ a0_2) = true := decide_eq_true c3
      clear c3
      by_cases c4 : a0_1 ≤ 256
      · rw [if_pos c4] at H
        have c4b0 : decide (a0_1 ≤ 256) = true := decide_eq_true c4
        clear c4
        obtain rfl := Option.some.inj H
        go_enter Try.func23, Try.ntmps23
        go_wp2_with (first | ((with_reducible refine gate_dst (N := 1) rfl ?_); refine box_event ?hg (N := 1) ?hd (cs := #[.int .i64 a0_0, .int .i64 a0_1, .int .i64 a0_2]) (t := 28) ?hr ?_; (case hd => rfl); (case hg => rfl); (case hr => first | (go_simp; done) | (go_simp; rfl)); intro gb112 hg w5 hbox hb; have n0_ := Aside0.mk (below_step (by repeat (first | (with_reducible first | exact HB.out | apply below_alloc | apply pw_below_drewN | apply below_drew1) | exact HB.out)) hb); have n1_ := Aside0.mk (hbox); have n2_ := Aside0.mk ((by rw [hg]; exact (below_size (by repeat (first | (with_reducible first | exact HB.out | apply below_alloc | apply pw_below_drewN | apply below_drew1) | exact HB.out))) : w.heap.size ≤ gb112)); have n3_ := Aside0.mk ((by rw [hg]; exact (below_size (by repeat (first | (with_reducible first | exact HB.out | apply below_alloc | apply pw_below_drewN | apply below_drew1) | exact HB.out))) : w.heap.size ≤ gb112)); clear HB; have HB := n0_; have BK112 := n1_; have GW112 := n2_; have GE112 := n3_; clear n0_ n1_ n2_ n3_; clear hb hbox hg; have hcz6_0 : w5.cell? ⟨gb112, 0, none⟩ = some (.int .i64 a0_0) := (blk_cell BK112.out 0).trans rfl; have hcz6_1 : w5.cell? ⟨gb112, 1, none⟩ = some (.int .i64 a0_1) := (blk_cell BK112.out 1).trans rfl; have hcz6_2 : w5.cell? ⟨gb112, 2, none⟩ = some (.int .i64 a0_2) := (blk_cell BK112.out 2).trans rfl; have hfz6_0 := blk_frozen BK112.out 0; have hfz6_1 := blk_frozen BK112.out 1; have hfz6_2 := blk_frozen BK112.out 2))
        go_ret
        exact ⟨by first | rfl | (simp [errW_none, errW_some] <;> rfl) | (simp [*, errW_none, errW_some] <;> rfl), by repeat (first | (with_reducible first | exact HB.out | apply below_alloc | apply pw_below_drewN | apply below_drew1 | refine below_set ?_ GE112.out) | exact HB.out)⟩
      · rw [if_neg c4] at H
        have c4b0 : decide (a0_1 ≤ 256) = false := decide_eq_false c4
        clear c4
        obtain rfl := Option.some.inj H
        go_enter Try.func23, Try.ntmps23
        go_wp2_with (first | ((with_reducible refine gate_dst (N := 1) rfl ?_); refine box_event ?hg (N := 1) ?hd (cs := #[.int .i64 a0_0, .int .i64 a0_1, .int .i64 a0_2]) (t := 28) ?hr ?_; (case hd => rfl); (case hg => rfl); (case hr => first | (go_simp; done) | (go_simp; rfl)); intro gb112 hg w7 hbox hb; have n0_ := Aside0.mk (below_step (by repeat (first | (with_reducible first | exact HB.out | apply below_alloc | apply pw_below_drewN | apply below_drew1) | exact HB.out)) hb); have n1_ := Aside0.mk (hbox); have n2_ := Aside0.mk ((by rw [hg]; exact (below_size (by repeat (first | (with_reducible first | exact HB.out | apply below_alloc | apply pw_below_drewN | apply below_drew1) | exact HB.out))) : w.heap.size ≤ gb112)); have n3_ := Aside0.mk ((by rw [hg]; exact (below_size (by repeat (first | (with_reducible first | exact HB.out | apply below_alloc | apply pw_below_drewN | apply below_drew1) | exact HB.out))) : w.heap.size ≤ gb112)); clear HB; have HB := n0_; have BK112 := n1_; have GW112 := n2_; have GE112 := n3_; clear n0_ n1_ n2_ n3_; clear hb hbox hg; have hcz8_0 : w7.cell? ⟨gb112, 0, none⟩ = some (.int .i64 a0_0) := (blk_cell BK112.out 0).trans rfl; have hcz8_1 : w7.cell? ⟨gb112, 1, none⟩ = some (.int .i64 a0_1) := (blk_cell BK112.out 1).trans rfl; have hcz8_2 : w7.cell? ⟨gb112, 2, none⟩ = some (.int .i64 a0_2) := (blk_cell BK112.out 2).trans rfl; have hfz8_0 := blk_frozen BK112.out 0; have hfz8_1 := blk_frozen BK112.out 1; have hfz8_2 := blk_frozen BK112.out 2))
        go_ret
        exact ⟨by first | rfl | (simp [errW_none, errW_some] <;> rfl) | (simp [*, errW_none, errW_some] <;> rfl), by repeat (first | (with_reducible first | exact HB.out | apply below_alloc | apply pw_below_drewN | apply below_drew1 | refine below_set ?_ GE112.out) | exact HB.out)⟩
    · rw [if_neg c3] at H
      have c3b0 : decide (0 ≤ a0_2) = false := decide_eq_false c3
      clear c3
      obtain rfl := Option.some.inj H
      go_enter Try.func23, Try.ntmps23
      go_wp2_with (first | ((with_reducible refine gate_dst (N := 1) rfl ?_); refine box_event ?hg (N := 1) ?hd (cs := #[.int .i64 a0_0, .int .i64 a0_1, .int .i64 a0_2]) (t := 28) ?hr ?_; (case hd => rfl); (case hg => rfl); (case hr => first | (go_simp; done) | (go_simp; rfl)); intro gb112 hg w9 hbox hb; have n0_ := Aside0.mk (below_step (by repeat (first | (with_reducible first | exact HB.out | apply below_alloc | apply pw_below_drewN | apply below_drew1) | exact HB.out)) hb); have n1_ := Aside0.mk (hbox); have n2_ := Aside0.mk ((by rw [hg]; exact (below_size (by repeat (first | (with_reducible first | exact HB.out | apply below_alloc | apply pw_below_drewN | apply below_drew1) | exact HB.out))) : w.heap.size ≤ gb112)); have n3_ := Aside0.mk ((by rw [hg]; exact (below_size (by repeat (first | (with_reducible first | exact HB.out | apply below_alloc | apply pw_below_drewN | apply below_drew1) | exact HB.out))) : w.heap.size ≤ gb112)); clear HB; have HB := n0_; have BK112 := n1_; have GW112 := n2_; have GE112 := n3_; clear n0_ n1_ n2_ n3_; clear hb hbox hg; have hcz10_0 : w9.cell? ⟨gb112, 0, none⟩ = some (.int .i64 a0_0) := (blk_cell BK112.out 0).trans rfl; have hcz10_1 : w9.cell? ⟨gb112, 1, none⟩ = some (.int .i64 a0_1) := (blk_cell BK112.out 1).trans rfl; have hcz10_2 : w9.cell? ⟨gb112, 2, none⟩ = some (.int .i64 a0_2) := (blk_cell BK112.out 2).trans rfl; have hfz10_0 := blk_frozen BK112.out 0; have hfz10_1 := blk_frozen BK112.out 1; have hfz10_2 := blk_frozen BK112.out 2))
      go_ret
      exact ⟨by first | rfl | (simp [errW_none, errW_some] <;> rfl) | (simp [*, errW_none, errW_some] <;> rfl), by repeat (first | (with_reducible first | exact HB.out | apply below_alloc | apply pw_below_drewN | apply below_drew1 | refine below_set ?_ GE112.out) | exact HB.out)⟩
  · rw [if_neg c2] at H
    have c2b0 : decide (0 ≤ a0_1) = false := decide_eq_false c2
    clear c2
    obtain rfl := Option.some.inj H
    go_enter Try.func23, Try.ntmps23
    go_wp2_with (first | ((with_reducible refine gate_dst (N := 1) rfl ?_); refine box_event ?hg (N := 1) ?hd (cs := #[.int .i64 a0_0, .int .i64 a0_1, .int .i64 a0_2]) (t := 28) ?hr ?_; (case hd => rfl); (case hg => rfl); (case hr => first | (go_simp; done) | (go_simp; rfl)); intro gb112 hg w11 hbox hb; have n0_ := Aside0.mk (below_step (by repeat (first | (with_reducible first | exact HB.out | apply below_alloc | apply pw_below_drewN | apply below_drew1) | exact HB.out)) hb); have n1_ := Aside0.mk (hbox); have n2_ := Aside0.mk ((by rw [hg]; exact (below_size (by repeat (first | (with_reducible first | exact HB.out | apply below_alloc | apply pw_below_drewN | apply below_drew1) | exact HB.out))) : w.heap.size ≤ gb112)); have n3_ := Aside0.mk ((by rw [hg]; exact (below_size (by repeat (first | (with_reducible first | exact HB.out | apply below_alloc | apply pw_below_drewN | apply below_drew1) | exact HB.out))) : w.heap.size ≤ gb112)); clear HB; have HB := n0_; have BK112 := n1_; have GW112 := n2_; have GE112 := n3_; clear n0_ n1_ n2_ n3_; clear hb hbox hg; have hcz12_0 : w11.cell? ⟨gb112, 0, none⟩ = some (.int .i64 a0_0) := (blk_cell BK112.out 0).trans rfl; have hcz12_1 : w11.cell? ⟨gb112, 1, none⟩ = some (.int .i64 a0_1) := (blk_cell BK112.out 1).trans rfl; have hcz12_2 : w11.cell? ⟨gb112, 2, none⟩ = some (.int .i64 a0_2) := (blk_cell BK112.out 2).trans rfl; have hfz12_0 := blk_frozen BK112.out 0; have hfz12_1 := blk_frozen BK112.out 1; have hfz12_2 := blk_frozen BK112.out 2))
    go_ret
    exact ⟨by first | rfl | (simp [errW_none, errW_some] <;> rfl) | (simp [*, errW_none, errW_some] <;> rfl), by repeat (first | (with_reducible first | exact HB.out | apply below_alloc | apply pw_below_drewN | apply below_drew1 | refine below_set ?_ GE112.out) | exact HB.out)⟩

/-! ### bytes_Clone: function 24 -/
def bytes_Clone.f (l0 : List Int) : Option (List Int) := if l0.length ≤ 140737488355328 then some l0 else none
theorem bytes_Clone.calls (A0 : Option Addr) (c0 : Nat) (l0 : List Int) (r : List Int) (w : World) (hr0 : Kd.C (Kd.int .u8) w A0 l0.length l0) (hc0 : l0.length ≤ c0) (h : bytes_Clone.f l0 = some r) :
    Calls Try.prog 24 #[.slice A0 l0.length c0] w fun e w' => ∃ v0_ : Value, e = .returned (v0_) ∧ Kd.R (Kd.int .u8) 5 w' w.heap.size (fun _ => True) v0_ r ∧ Below w.heap.size w w' := by
  unfold bytes_Clone.f at h
  by_cases hl : l0.length ≤ 140737488355328
  · rw [if_pos hl] at h
    obtain rfl := Option.some.inj h
    clear h
    have heq := fun (W : World) => Lib.run_eql_slice_nil (P := Try.prog) W 43 5 A0 l0.length c0 0 0 Try.underlying43
    cases A0 with
    | none =>
      have h0 : l0 = [] := by
        rcases Nat.eq_zero_or_pos l0.length with h0 | h0
        · exact List.eq_nil_of_length_eq_zero h0
        · obtain ⟨ad, _, e, _⟩ := Kd.C_get hr0 0 0 (by omega) (by omega)
          cases e
      subst h0
      simp only [Option.isNone_none, List.length_nil] at heq
      go_enter Try.func24, Try.ntmps24
      go_wp2
      go_ret
      exact ⟨_, rfl, Kd.R_nil _ _ _ _ _, Below.refl _ _⟩
    | some ad =>
      simp only [Option.isNone_some] at heq
      go_enter Try.func24, Try.ntmps24
      have HR : Kd.R (Kd.int .u8) 5 (w.alloc (.cells #[] 5)) w.heap.size (fun _ => True) (.slice (some ⟨w.heap.size, 0, none⟩) 0 0) [] :=
        ⟨fun _ _ => trivial, OwnRow.lit w w.heap.size (Reps.none _ _) (Nat.le_refl _) (by simp)⟩
      have HCC : Kd.C (Kd.int .u8) (w.alloc (.cells #[] 5)) (some ad) l0.length l0 := Kd.C_below hr0 ((Below.refl _ _).alloc (Nat.le_refl _) _)
      have HL : l0.length * 1 ≤ 140737488355328 := by omega
      go_wp2_with (at_builtin; refine Kd.R_append_row (Value.int .u8) 0 (w0 := w) w.heap.size rfl (.tmp 5) (.tmp 6) 43 5 (.int .u8 0) 1 rfl Try.underlying43 info5 rfl (by omega) _ [] l0 _ _ _ (fun _ => True) rfl rfl (fun _ _ => trivial) HR HCC ((Below.refl _ _).alloc (Nat.le_refl _) _) (by simp) (by simpa using HL) ?_; intro v1 w1 ho hb hg hat)
      go_ret
      exact ⟨_, rfl, by have h2 := ho; rw [List.nil_append] at h2; exact h2, hb⟩
  · rw [if_neg hl] at h; cases h


/-! ### span_Spread: function 17 -/
theorem take_splice {α : Type} (L V : List α) (i n : Nat) (hi : i + V.length ≤ n) (hn : n ≤ L.length) : (L.take i ++ (V ++ L.drop (i + V.length))).take n = (L.take n).take i ++ (V ++ (L.take n).drop (i + V.length)) := by
  have h1 : (L.take i).length = i := by rw [List.length_take]; omega
  have h2 : (L.take n).take i = L.take i := by rw [List.take_take, Nat.min_eq_left (by omega)]
  rw [h2, List.take_append, h1, List.take_of_length_le (by rw [h1]; omega : (L.take i).length ≤ n), List.take_append, List.take_of_length_le (by omega : V.length ≤ n - i), List.drop_take, show n - i - V.length = n - (i + V.length) from by omega]
/-- A row of the call's own, and what is laid over it. -/
theorem row_copy {w : World} {base g n c : Nat} {ok : Nat → Prop} {xs : List Int} (h : Kd.R (Kd.int .u8) 5 w base ok (.slice (some ⟨g, 0, none⟩) n c) xs) (vs : List Int) (i : Nat) (hi : i + vs.length ≤ xs.length) :
    ∃ cur : List Value, w.heap[g]? = some (.cells cur.toArray 5 (0, 0)) ∧ i + (vs.map (Value.int .u8)).length ≤ cur.length ∧ base ≤ g ∧
      ∀ w' : World, w'.heap[g]? = some (.cells (splice cur i (vs.map (Value.int .u8))).toArray 5 (0, 0)) → Kd.R (Kd.int .u8) 5 w' base ok (.slice (some ⟨g, 0, none⟩) n c) (splice xs i vs) := by
  obtain ⟨h1, h2⟩ := Kd.own_of_R h
  have h0 := h.1
  rcases h2 with ⟨h2, _⟩ | ⟨g', cap, cur, he, hb, hg, hn, hc, hs, ht⟩
  · cases h2
  · injection he with e1 e2 e3
    injection e1 with e1
    injection e1 with e1 _ _
    subst e1 e3
    have hnl : n = xs.length := (Kd.R_reads' h).1
    refine ⟨cur.toList, by simpa using hg, ?_, hb, fun w' hw' => ?_⟩
    · have : cur.toList.length = cur.size := by simp
      simp only [List.length_map]
      omega
    · have hsl : (splice xs i vs).length = xs.length := length_splice xs i vs hi
      have hcl : (splice cur.toList i (vs.map (Value.int .u8))).length = cur.size := by
        rw [length_splice]
        · simp
        · simp only [List.length_map]
          have : cur.toList.length = cur.size := by simp
          omega
      refine Kd.R_of_own (show w'.ownsRow base 5 1 (.slice (some ⟨g, 0, none⟩) n c) (splice xs i vs).length (encs (Value.int .u8) (splice xs i vs)) from ⟨by rw [encs_length]; omega, .inr ⟨_, _, _, by rw [hsl, hnl], hb, hw', by rw [hsl]; exact hn, hc, by simp only [List.size_toArray]; omega, ?_⟩⟩) h0
      have hct : cur.toList.take xs.length = xs.map (Value.int .u8) := by rw [Nat.mul_one] at ht; exact ht
      rw [hsl, Nat.mul_one]
      unfold splice encs
      rw [List.map_append, List.map_append, List.map_take, List.map_drop, ← hct, show vs.length = (vs.map (Value.int .u8)).length from by rw [List.length_map]]
      exact take_splice cur.toList (vs.map (Value.int .u8)) i xs.length (by rw [List.length_map]; exact hi) (by simp only [Array.length_toList]; omega)
theorem own_some {w : World} {base n c : Nat} {ok : Nat → Prop} {A : Option Addr} {xs : List Int} (h : Kd.R (Kd.int .u8) 5 w base ok (.slice A n c) xs) (h0 : 0 < xs.length) : ∃ g, A = some ⟨g, 0, none⟩ := by
  have hn := (Kd.R_reads' h).1
  obtain ⟨_, h2⟩ := Kd.own_of_R h
  rcases h2 with ⟨h2, _⟩ | ⟨g, cap, cur, he, _⟩
  · injection h2 with e1 e2 e3; omega
  · injection he with e1 e2 e3; exact ⟨g, e1⟩
theorem splice_cells {w : World} {A : Addr} {l : List Int} (h : Kd.C (Kd.int .u8) w (some A) l.length l) (a m : Nat) (ham : a + m ≤ l.length) : ∀ j v, (((l.drop a).take m).map (Value.int .u8))[j]? = some v → w.cell? ((A.add a).add j) = some v := by
  intro j v hv
  have hj : j < m := by
    have := (List.getElem?_eq_some_iff.1 hv).1
    simp only [List.length_map, List.length_take, List.length_drop] at this
    omega
  have hjl : a + j < l.length := by omega
  obtain ⟨ad, e, hc⟩ := Kd.at_int h ((a + j : Nat) : Int) (by omega) (by omega)
  cases e
  rw [List.getElem?_map, List.getElem?_take, if_pos hj, List.getElem?_drop, List.getElem?_eq_getElem hjl, Option.map_some, Option.some.injEq] at hv
  have e1 : rd l ((a + j : Nat) : Int) = l[a + j] := by
    unfold rd
    rw [List.getD_eq_getElem?_getD, show (((a + j : Nat) : Int)).toNat = a + j from by omega, List.getElem?_eq_getElem hjl]; rfl
  rw [e1, hv] at hc
  rw [show (A.add a).add j = A.add (((a + j : Nat) : Int)).toNat from by rw [Addr.add_add, show (((a + j : Nat) : Int)).toNat = a + j from by omega]]
  exact hc
set_option maxHeartbeats 4000000 in
set_option maxRecDepth 100000 in
theorem spread_calls (a0 a1 a2 : Int) (A0 : Option Addr) (c0 : Nat) (l0 : List Int) (A1 : Option Addr) (c1 : Nat) (l1 : List Int) (a3 : Int) (w : World)
    (hr0 : Kd.C (Kd.int .u8) w A0 l0.length l0) (hc0 : l0.length ≤ c0) (hr1 : Kd.C (Kd.int .u8) w A1 l1.length l1) (hc1 : l1.length ≤ c1)
    (h : l0.length = 256 ∧ 0 ≤ a1 ∧ 1 ≤ a2 ∧ a1 + a2 ≤ 256 ∧ 0 ≤ a3 ∧ a3 + a2 ≤ l1.length ∧ l1.length ≤ 100000) :
    Calls Try.prog 17 #[.agg #[.int .i64 a0, .int .i64 a1, .int .i64 a2], .slice A0 l0.length c0, .slice A1 l1.length c1, .int .i64 a3] w fun e w' => ∃ v0_ : Value, e = .returned (.tuple #[v0_, .int .i64 0]) ∧ Kd.R (Kd.int .u8) 5 w' w.heap.size (fun _ => True) v0_ (splice l0 a1.toNat ((l1.drop a3.toNat).take a2.toNat)) ∧ Below w.heap.size w w' := by
  obtain ⟨g1, g2, g3, g4, g5, g6, g7⟩ := h
  have hd0 : ((l0.length : Int) != 256) = false := by rw [g1]; rfl
  have hd1 : decide (a3 < 0) = false := decide_eq_false (by omega)
  have hd2 : decide ((l1.length : Int) < a3) = false := decide_eq_false (by omega)
  have hd3 : decide ((l1.length : Int) - a3 < a2) = false := decide_eq_false (by omega)
  have BK := blk_new w (.cells #[.int .i64 a0, .int .i64 a1, .int .i64 a2] 28)
  have hisr : ∀ W : World, Calls Try.prog 23 #[.agg #[.int .i64 a0, .int .i64 a1, .int .i64 a2]] W fun e w' => e = .returned (.bool true) ∧ Below W.heap.size W w' := fun W =>
    span_Part_isRight.calls a0 a1 a2 true W (by unfold span_Part_isRight.f; rw [if_pos g2, if_pos (by omega), if_pos (by omega), decide_eq_true (by unfold wrap64; omega)])
  have HIS := Aside0.mk hisr
  clear hisr
  go_enter Try.func17, Try.ntmps17
  have hcl : ∀ W : World, Kd.C (Kd.int .u8) W A0 l0.length l0 → Calls Try.prog 24 #[.slice A0 l0.length c0] W fun e w' => ∃ v0_ : Value, e = .returned (v0_) ∧ Kd.R (Kd.int .u8) 5 w' W.heap.size (fun _ => True) v0_ l0 ∧ Below W.heap.size W w' := fun W hC =>
    bytes_Clone.calls A0 c0 l0 l0 W hC hc0 (by unfold bytes_Clone.f; rw [if_pos (by omega)])
  have HCL := Aside0.mk hcl
  have HA0 := Aside0.mk hr0
  have HB1 := (Below.refl w.heap.size w).alloc (Nat.le_refl _) (.cells #[.int .i64 a0, .int .i64 a1, .int .i64 a2] 28)
  have HBB := Aside0.mk HB1
  have HBK := Aside0.mk BK
  obtain ⟨ad1, e1, _⟩ := Kd.at_int hr1 0 (by omega) (by omega)
  subst e1
  have hne1 : ¬ c1 = a3.toNat := by omega
  have hwr : IntKind.i64.wrap (a3 + a2) = a3 + a2 := (i64_w _).trans (by unfold wrap64; omega)
  have hs1 : decide (0 ≤ a1) = true := decide_eq_true g2
  have hs2 : a1 ≤ (l0.length : Int) := by omega
  have hs3 : 0 ≤ a3 + a2 := by omega
  have hs4 : a3 ≤ a3 + a2 := by omega
  have hs5 : a3 + a2 ≤ (c1 : Int) := by omega
  have G1 := Aside0.mk g1
  have HA1 := Aside0.mk hr1
  clear g1 hcl hr0 hr1 HB1 BK
  go_wp2_with (first | (go_at_call 23; refine (HIS.out _).mono ?_; rintro e w1 ⟨rfl, hb1⟩; have hz1 : w1.cell? ⟨w.heap.size, 1, none⟩ = some (.int .i64 a1) := (blk_cell (blk_below HBK.out hb1) 1).trans rfl; have hz2 : w1.cell? ⟨w.heap.size, 2, none⟩ = some (.int .i64 a2) := (blk_cell (blk_below HBK.out hb1) 2).trans rfl; have HX1 := Aside0.mk hb1; clear hb1) | (go_at_call 24; refine (HCL.out _ (Kd.C_below (Kd.C_below HA0.out HBB.out) HX1.out)).mono ?_; rintro e w2 ⟨v1, rfl, ho2, hb2⟩; obtain ⟨Ao, co, rfl⟩ := Kd.R_slice ho2; obtain ⟨go, rfl⟩ := own_some ho2 (by have := G1.out; omega); have hne2 : ¬ co = a1.toNat := (by have := G1.out; have := (Kd.R_reads' ho2).2.1; omega); have hz1 : w2.cell? ⟨w.heap.size, 1, none⟩ = some (.int .i64 a1) := (blk_cell (blk_below (blk_below HBK.out HX1.out) hb2) 1).trans rfl; have hz2 : w2.cell? ⟨w.heap.size, 2, none⟩ = some (.int .i64 a2) := (blk_cell (blk_below (blk_below HBK.out HX1.out) hb2) 2).trans rfl; have HX2 := Aside0.mk hb2; have HO2 := Aside0.mk ho2; clear hb2 ho2))
  go_still_tail 11, (by kernel_rfl)
  change wpList _ _ _ _ _ w2.drew
  obtain ⟨cur, hg, hfit, hBg, hput⟩ := row_copy (w := w2.drew) (Kd.R_drew HO2.out) ((l1.drop a3.toNat).take a2.toNat) a1.toNat (by have := G1.out; simp only [List.length_take, List.length_drop]; omega)
  have hbt : Below w.heap.size w w2.drew := below_drew1 (below_step (below_step HBB.out HX1.out) HX2.out)
  have hgo : w.heap.size ≤ go := Nat.le_trans (below_size (below_step HBB.out HX1.out)) hBg
  have HP := Aside0.mk hput
  have HT := Aside0.mk hbt
  clear hput hbt
  refine wpList_copy_splice rfl (.tmp 43) (.tmp 50) 43 43 rfl 5 Try.underlying43 (by kernel_rfl) (some ⟨go, a1.toNat, none⟩) (some (ad1.add a3.toNat)) (l0.length - a1.toNat) (co - a1.toNat) ((a3 + a2).toNat - a3.toNat) (c1 - a3.toNat) ?e1 ?e2 go a1.toNat cur 5 hg (((l1.drop a3.toNat).take a2.toNat).map (.int .u8)) ?e3 ?e4 hfit ?e5 w.heap.size w HT.out ?e6 ?_
  case e1 => rfl
  case e2 => go_simp
  case e3 =>
    have := G1.out
    show _ = min ((a3 + a2).toNat - a3.toNat) (l0.length - a1.toNat)
    simp only [List.length_map, List.length_take, List.length_drop]
    omega
  case e4 => exact fun _ => ⟨rfl, _, rfl, splice_cells (Kd.C_below HA1.out HT.out) a3.toNat a2.toNat (by omega)⟩
  case e5 => intro v hv; obtain ⟨x, _, rfl⟩ := List.mem_map.1 hv; rfl
  case e6 => exact hgo
  intro w3 HG HB3
  go_wp2
  go_ret2
  exact ⟨_, rfl, Kd.R_lower (HP.out w3 HG.out) (below_size (below_step HBB.out HX1.out)), HB3⟩
/-- A page with some bytes over it (told for a right part of bytes that are there alone). -/
def span_Spread.f (_a0 a1 a2 : Int) (l0 l1 : List Int) (a3 : Int) : Option (List Int × Int) :=
  if l0.length = 256 ∧ 0 ≤ a1 ∧ 1 ≤ a2 ∧ a1 + a2 ≤ 256 ∧ 0 ≤ a3 ∧ a3 + a2 ≤ l1.length ∧ l1.length ≤ 100000 then some (splice l0 a1.toNat ((l1.drop a3.toNat).take a2.toNat), 0) else none
theorem span_Spread.calls (a0 a1 a2 : Int) (A0 : Option Addr) (c0 : Nat) (l0 : List Int) (A1 : Option Addr) (c1 : Nat) (l1 : List Int) (a3 : Int) (r1 : List Int) (r2 : Int) (w : World)
    (hr0 : Kd.C (Kd.int .u8) w A0 l0.length l0) (hc0 : l0.length ≤ c0) (hr1 : Kd.C (Kd.int .u8) w A1 l1.length l1) (hc1 : l1.length ≤ c1) (h : span_Spread.f a0 a1 a2 l0 l1 a3 = some (r1, r2)) :
    Calls Try.prog 17 #[.agg #[.int .i64 a0, .int .i64 a1, .int .i64 a2], .slice A0 l0.length c0, .slice A1 l1.length c1, .int .i64 a3] w fun e w' => ∃ v0_ : Value, e = .returned (.tuple #[v0_, .int .i64 r2]) ∧ Kd.R (Kd.int .u8) 5 w' w.heap.size (fun _ => True) v0_ r1 ∧ Below w.heap.size w w' := by
  unfold span_Spread.f at h
  split at h
  · next hh =>
    simp only [Option.some.injEq, Prod.mk.injEq] at h
    obtain ⟨rfl, rfl⟩ := h
    exact spread_calls a0 a1 a2 A0 c0 l0 A1 c1 l1 a3 w hr0 hc0 hr1 hc1 hh
  · cases h


/-! ### carlingref02_Same: function 18 -/
def carlingref02_Same.l0 : Nat → List Int → List Int → Int → Option (Bool)
  | 0, _, _, _ => none
  | k + 1, x0, x1, x5 => if x5 < (x0.length : Int) then (if 0 ≤ x5 then (if x5 < (x1.length : Int) then (if (rd x0 x5) = (rd x1 x5) then (carlingref02_Same.l0 k x0 x1 (wrap64 (x5 + 1))) else (some false)) else (none)) else (none)) else (some true)
def carlingref02_Same.f (k : Nat) (l0 : List Int) (l1 : List Int) : Option (Bool) := if (l0.length : Int) = (l1.length : Int) then (carlingref02_Same.l0 k l0 l1 0) else (some false)
theorem carlingref02_Same.mono_l : ∀ k, (∀ y0 y1 y2, LeO (carlingref02_Same.l0 k y0 y1 y2) (carlingref02_Same.l0 (k + 1) y0 y1 y2))
  | 0 => fun _ _ _ r h => by simp [carlingref02_Same.l0] at h
  | k + 1 => by
    have ih0 := carlingref02_Same.mono_l k
    · intro y0 y1 y2
      unfold carlingref02_Same.l0
      repeat' first
      | (with_reducible exact ih0 _ _ _)
      | (with_reducible exact LeO.refl _)
      | (with_reducible exact LeO.none _)
      | (with_reducible refine LeO.ite ?_ ?_)
      | (with_reducible refine LeO.bind ?_ (fun _ => ?_))
      | exact ih0 _ _ _
      | exact LeO.none _
      | refine LeO.ite ?_ ?_
      | refine LeO.bind ?_ (fun _ => ?_)
theorem carlingref02_Same.mono : ∀ a0 a1 k, LeO (carlingref02_Same.f k a0 a1) (carlingref02_Same.f (k + 1) a0 a1) := by
  intro a0 a1 k
  have ih0 := carlingref02_Same.mono_l k
  unfold carlingref02_Same.f
  repeat' first
      | (with_reducible exact ih0 _ _ _)
      | (with_reducible exact LeO.refl _)
      | (with_reducible exact LeO.none _)
      | (with_reducible refine LeO.ite ?_ ?_)
      | (with_reducible refine LeO.bind ?_ (fun _ => ?_))
      | exact ih0 _ _ _
      | exact LeO.none _
      | refine LeO.ite ?_ ?_
      | refine LeO.bind ?_ (fun _ => ?_)
set_option maxHeartbeats 8000000 in
set_option maxRecDepth 100000 in
theorem carlingref02_Same.calls (k : Nat) (A0 : Option Addr) (c0 : Nat) (l0 : List Int) (A1 : Option Addr) (c1 : Nat) (l1 : List Int) (r : Bool) (w : World) (hr0 : Kd.C (Kd.int .u8) w A0 l0.length l0) (hc0 : l0.length ≤ c0) (hr1 : Kd.C (Kd.int .u8) w A1 l1.length l1) (hc1 : l1.length ≤ c1) (h : carlingref02_Same.f k l0 l1 = some r) :
    Calls Try.prog 18 #[.slice A0 l0.length c0, .slice A1 l1.length c1] w fun e w' => e = .returned (.bool r) ∧ Drawn0 w w' := by
  have HR0 := Aside0.mk hr0
  have HC0 := Aside0.mk hc0
  clear hr0 hc0
  have HR1 := Aside0.mk hr1
  have HC1 := Aside0.mk hc1
  clear hr1 hc1
  have H : (if (l0.length : Int) = (l1.length : Int) then (carlingref02_Same.l0 k l0 l1 0) else (some false)) = some r := h
  clear h
  by_cases c3 : (l0.length : Int) = (l1.length : Int)
  · rw [if_pos c3] at H
    have c3b0 : ((l0.length : Int) == (l1.length : Int)) = true := beq_iff_eq.mpr c3
    have c3b1 : ((l0.length : Int) != (l1.length : Int)) = false := bne_eq_false_iff_eq.mpr c3
    have c3b2 : (l0.length == l1.length) = true := by first | simpa using c3 | (simp at c3 ⊢; omega)
    clear c3
    have H' := Aside0.mk H
    clear H
    go_enter Try.func18, Try.ntmps18
    go_wp2
    repeat (go_quiet (fail); try go_wp2)
    go_loopg [5] k (fun kq v5 w' => ∃ (x5_1 : Int), v5 = .int .i64 x5_1 ∧ Aside0 (carlingref02_Same.l0 kq l0 l1 x5_1 = some r) ∧ Aside0 (kq ≤ k) ∧ Drawn0 w w')
    case atStart => exact ⟨(0), (by first | rfl | (simp; done) | (simp [*]; done)), H', ⟨Nat.le_refl _⟩, by repeat (first | exact Drawn0.refl _ | apply Drawn0.step)⟩
    case round =>
      clear H'
      try clear c1
      try clear p2
      try clear c3
      try clear c3b0
      try clear c3b1
      try clear c3b2
      obtain ⟨x5_1, rfl, HA, HK1, ⟨m1, rfl⟩⟩ := hrel
      cases gk with
      | zero => exact absurd HA.out (by simp [carlingref02_Same.l0])
      | succ k1 =>
        have H := HA.out
        clear HA
        simp only [carlingref02_Same.l0] at H
        by_cases c4 : x5_1 < (l0.length : Int)
        · rw [if_pos c4] at H
          have c4b0 : decide (x5_1 < (l0.length : Int)) = true := decide_eq_true c4
          clear c4
          by_cases c5 : 0 ≤ x5_1
          · rw [if_pos c5] at H
            have c5b0 : decide (0 ≤ x5_1) = true := decide_eq_true c5
            clear c5
            by_cases c6 : x5_1 < (l1.length : Int)
            · rw [if_pos c6] at H
              have c6b0 : decide (x5_1 < (l1.length : Int)) = true := decide_eq_true c6
              clear c6
              by_cases c7 : (rd l0 x5_1) = (rd l1 x5_1)
              · rw [if_pos c7] at H
                have c7b0 : ((rd l0 x5_1) == (rd l1 x5_1)) = true := beq_iff_eq.mpr c7
                have c7b1 : ((rd l0 x5_1) != (rd l1 x5_1)) = false := bne_eq_false_iff_eq.mpr c7
                clear c7
                have H' := Aside0.mk H
                clear H
                have p113 : 0 ≤ (x5_1 : Int) := of_decide_eq_true (by first | (with_reducible assumption) | assumption)
                have q113 : x5_1 < (l0.length : Int) := of_decide_eq_true (by first | (with_reducible assumption) | assumption)
                obtain ⟨ad113, e113, hx113_0⟩ := Kd.at_int HR0.out x5_1 p113 q113
                cases e113
                replace p113 := eq_true p113
                replace q113 := eq_true q113
                have p114 : 0 ≤ (x5_1 : Int) := of_decide_eq_true (by first | (with_reducible assumption) | assumption)
                have q114 : x5_1 < (l1.length : Int) := of_decide_eq_true (by first | (with_reducible assumption) | assumption)
                obtain ⟨ad114, e114, hx114_0⟩ := Kd.at_int HR1.out x5_1 p114 q114
                cases e114
                replace p114 := eq_true p114
                replace q114 := eq_true q114
                go_wp2
                repeat (go_quiet (fail); try go_wp2)
                go_roundg k1
                case measure => have := HK1.out; omega
                case rel => exact ⟨(wrap64 (x5_1 + 1)), (by first | rfl | (simp; done) | (simp [*]; done)), H', ⟨by have := HK1.out; omega⟩, by repeat (first | exact Drawn0.refl _ | apply Drawn0.step)⟩
              · rw [if_neg c7] at H
                have c7b0 : ((rd l0 x5_1) == (rd l1 x5_1)) = false := beq_eq_false_iff_ne.mpr c7
                have c7b1 : ((rd l0 x5_1) != (rd l1 x5_1)) = true := bne_iff_ne.mpr c7
                obtain rfl := Option.some.inj H
                have p113 : 0 ≤ (x5_1 : Int) := of_decide_eq_true (by first | (with_reducible assumption) | assumption)
                have q113 : x5_1 < (l0.length : Int) := of_decide_eq_true (by first | (with_reducible assumption) | assumption)
                obtain ⟨ad113, e113, hx113_0⟩ := Kd.at_int HR0.out x5_1 p113 q113
                cases e113
                replace p113 := eq_true p113
                replace q113 := eq_true q113
                have p114 : 0 ≤ (x5_1 : Int) := of_decide_eq_true (by first | (with_reducible assumption) | assumption)
                have q114 : x5_1 < (l1.length : Int) := of_decide_eq_true (by first | (with_reducible assumption) | assumption)
                obtain ⟨ad114, e114, hx114_0⟩ := Kd.at_int HR1.out x5_1 p114 q114
                cases e114
                replace p114 := eq_true p114
                replace q114 := eq_true q114
                go_wp2
                repeat (go_quiet (fail); try go_wp2)
                go_ret
                exact ⟨by first | rfl | (simp; done) | (simp [*]; done), by repeat (first | exact Drawn0.refl _ | apply Drawn0.step)⟩
            · rw [if_neg c6] at H
              exact absurd H (by simp)
          · rw [if_neg c5] at H
            exact absurd H (by simp)
        · rw [if_neg c4] at H
          have c4b0 : decide (x5_1 < (l0.length : Int)) = false := decide_eq_false c4
          clear c4
          obtain rfl := Option.some.inj H
          go_wp2
          repeat (go_quiet (fail); try go_wp2)
          go_ret
          exact ⟨by first | rfl | (simp; done) | (simp [*]; done), by repeat (first | exact Drawn0.refl _ | apply Drawn0.step)⟩
  · rw [if_neg c3] at H
    have c3b0 : ((l0.length : Int) == (l1.length : Int)) = false := beq_eq_false_iff_ne.mpr c3
    have c3b1 : ((l0.length : Int) != (l1.length : Int)) = true := bne_iff_ne.mpr c3
    have c3b2 : (l0.length == l1.length) = false := by first | simpa using c3 | (simp at c3 ⊢; omega)
    obtain rfl := Option.some.inj H
    go_enter Try.func18, Try.ntmps18
    go_wp2
    repeat (go_quiet (fail); try go_wp2)
    go_ret
    exact ⟨by first | rfl | (simp; done) | (simp [*]; done), by repeat (first | exact Drawn0.refl _ | apply Drawn0.step)⟩

end Go.Proofs.Ytffpfneiaknfeaa.PQ
