/- The functions that the law reaches, as Lean functions, and that the code comes to their answers; written by wip/xprint.py (a program of this repository over the print of the kit): Lean checks it. -/
import Derived.Test.YtffpfneiaknfeaaPPx0
import Derived.Test.YtffpfneiaknfeaaPPx1
namespace Go.Proofs.Ytffpfneiaknfeaa.PP
open Go.RowKit Go.Proofs.YtffpfneiaknfeaaW.PrintWords Go.Proofs.YtffpfneiaknfeaaW.PrintLast Go.Proofs.YtffpfneiaknfeaaW.PrintMore
attribute [local go_sem] max2_int min2_int max_two min_two max_three min_three max_four min_four   -- for this text's walks alone
set_option linter.unusedVariables false
set_option linter.unusedSimpArgs false

attribute [local go_sem high] eqA28
/-! ### span_May: function 13 -/
def span_May.j0 : Nat → Int → Int → Bool → Option (Int)
  | 0, _, _, _ => none
  | k + 1, x0, x1, x5 => if x5 = true then (some 1) else (if x0 > 8192 then (some 18) else (if x1 > (wrap64 (8192 - x0)) then (some 18) else (some 0)))
def span_May.f (k : Nat) (a0 : Int) (a1 : Int) : Option (Int) := if a0 < 0 then (span_May.j0 k a0 a1 true) else (span_May.j0 k a0 a1 (decide (a1 < 0)))
theorem span_May.mono_l : ∀ k, (∀ y0 y1 y2, LeO (span_May.j0 k y0 y1 y2) (span_May.j0 (k + 1) y0 y1 y2))
  | 0 => fun _ _ _ r h => by simp [span_May.j0] at h
  | k + 1 => by
    have ih0 := span_May.mono_l k
    · intro y0 y1 y2
      unfold span_May.j0
      repeat' first
      | (with_reducible exact ih0 _ _ _)
      | (with_reducible exact LeO.refl _)
      | (with_reducible exact LeO.none _)
      | (with_reducible refine LeO.ite ?_ ?_)
      | (with_reducible refine LeO.bind ?_ (fun _ => ?_))
      | exact ih0 _ _ _
      | exact LeO.none _
      | refine LeO.ite ?_ ?_
      | refine LeO.bind ?_ (fun _ => ?_)
theorem span_May.mono : ∀ a0 a1 k, LeO (span_May.f k a0 a1) (span_May.f (k + 1) a0 a1) := by
  intro a0 a1 k
  have ih0 := span_May.mono_l k
  unfold span_May.f
  repeat' first
      | (with_reducible exact ih0 _ _ _)
      | (with_reducible exact LeO.refl _)
      | (with_reducible exact LeO.none _)
      | (with_reducible refine LeO.ite ?_ ?_)
      | (with_reducible refine LeO.bind ?_ (fun _ => ?_))
      | exact ih0 _ _ _
      | exact LeO.none _
      | refine LeO.ite ?_ ?_
      | refine LeO.bind ?_ (fun _ => ?_)
set_option maxHeartbeats 8000000 in
set_option maxRecDepth 100000 in
theorem span_May.calls (k : Nat) (a0 : Int) (a1 : Int) (r : Int) (w : World) (h : span_May.f k a0 a1 = some r) :
    Calls Try.prog 13 #[.int .i64 a0, .int .i64 a1] w fun e w' => e = .returned (.int .i64 r) ∧ Drawn0 w w' := by
  have H : (if a0 < 0 then (span_May.j0 k a0 a1 true) else (span_May.j0 k a0 a1 (decide (a1 < 0)))) = some r := h
  clear h
  have HC3 := Aside0.mk H
  clear H
  go_enter Try.func13, Try.ntmps13
  go_upto_region 1 with (fail)
  go_cut [5] (fun v5 wc => ∃ (kq : Nat) (x5_2 : Bool), v5 = .bool x5_2 ∧ Aside0 (span_May.j0 kq a0 a1 x5_2 = some r) ∧ Aside0 (kq ≤ k) ∧ Drawn0 w wc)
  case first =>
    have H := HC3.out
    clear HC3
    by_cases c4 : a0 < 0
    · rw [if_pos c4] at H
      have c4b0 : decide (a0 < 0) = true := decide_eq_true c4
      clear c4
      (first | rw [c4b0] | (simp only [i64_w, i32_w]; rw [c4b0]) | rw [c4b1] | skip)
      have H' := Aside0.mk H
      clear H
      go_wp2
      go_meet
      case rel => exact ⟨_, (true), (by first | rfl | (simp; done) | (simp [*]; done)), H', ⟨by first | omega | exact Nat.le_refl _⟩, by repeat (first | exact Drawn0.refl _ | apply Drawn0.step)⟩
    · rw [if_neg c4] at H
      have c4b0 : decide (a0 < 0) = false := decide_eq_false c4
      clear c4
      (first | rw [c4b0] | (simp only [i64_w, i32_w]; rw [c4b0]) | rw [c4b1] | skip)
      have H' := Aside0.mk H
      clear H
      go_wp2
      go_meet
      case rel => exact ⟨_, (decide (a1 < 0)), (by first | rfl | (simp; done) | (simp [*]; done)), H', ⟨by first | omega | exact Nat.le_refl _⟩, by repeat (first | exact Drawn0.refl _ | apply Drawn0.step)⟩
  case rest =>
    clear HC3
    try clear c1
    try clear p2
    try clear c4
    try clear c4b0
    try clear c4b1
    obtain ⟨kq, x5_2, rfl, HA, HJ2, ⟨mc2, rfl⟩⟩ := hcut
    cases kq with
    | zero => exact absurd HA.out (by simp [span_May.j0])
    | succ kj2 =>
      have H := HA.out
      clear HA
      simp only [span_May.j0] at H
      by_cases c5 : x5_2 = true
      · subst c5
        have H1 : (some 1) = some r := by rw [if_pos rfl] at H; exact H
        clear H
        have H := H1
        clear H1
        obtain rfl := Option.some.inj H
        go_wp2
        go_ret
        exact ⟨by first | rfl | (simp; done) | (simp [*]; done), by repeat (first | exact Drawn0.refl _ | apply Drawn0.step)⟩
      · replace c5 := Bool.eq_false_iff.mpr c5
        subst c5
        have H1 : (if a0 > 8192 then (some 18) else (if a1 > (wrap64 (8192 - a0)) then (some 18) else (some 0))) = some r := by rw [if_neg (show ¬ (false = true) by decide)] at H; exact H
        clear H
        have H := H1
        clear H1
        by_cases c6 : a0 > 8192
        · rw [if_pos c6] at H
          have c6b0 : decide (8192 < a0) = true := decide_eq_true c6
          clear c6
          obtain rfl := Option.some.inj H
          go_wp2
          go_ret
          exact ⟨by first | rfl | (simp; done) | (simp [*]; done), by repeat (first | exact Drawn0.refl _ | apply Drawn0.step)⟩
        · rw [if_neg c6] at H
          have c6b0 : decide (8192 < a0) = false := decide_eq_false c6
          clear c6
          by_cases c7 : a1 > (wrap64 (8192 - a0))
          · rw [if_pos c7] at H
            have c7b0 : decide ((wrap64 (8192 - a0)) < a1) = true := decide_eq_true c7
            clear c7
            obtain rfl := Option.some.inj H
            go_wp2
            go_ret
            exact ⟨by first | rfl | (simp; done) | (simp [*]; done), by repeat (first | exact Drawn0.refl _ | apply Drawn0.step)⟩
          · rw [if_neg c7] at H
            have c7b0 : decide ((wrap64 (8192 - a0)) < a1) = false := decide_eq_false c7
            clear c7
            obtain rfl := Option.some.inj H
            go_wp2
            go_ret
            exact ⟨by first | rfl | (simp; done) | (simp [*]; done), by repeat (first | exact Drawn0.refl _ | apply Drawn0.step)⟩

-- NOT PRINTED: function 20 (span_each)

/-! ### span_Parts: function 6 -/
set_option maxHeartbeats 4000000 in
set_option maxRecDepth 100000 in
/-- The closure of Parts: it appends. -/
theorem parts1 (p : S28) (B base : Nat) (v : Value) (l : List S28) (w0 w : World) (HB : Below base w0 w) (hbw : base ≤ w.heap.size) (hb : base ≤ B) (BK : w.heap[B]? = some (.cells #[v] 22 (0, 0)))
    (HO : Kd.R k28 28 w base (fun k_ => k_ ≠ B) v l) (hl : l.length < 100000) :
    Calls Try.prog 21 #[.agg #[.int .i64 p.f0, .int .i64 p.f1, .int .i64 p.f2], .pointer (some ⟨B, 0, none⟩)] w fun e w' => e = .returned (.tuple #[]) ∧ ∃ v', w'.heap[B]? = some (.cells #[v'] 22 (0, 0)) ∧ Kd.R k28 28 w' base (fun k_ => k_ ≠ B) v' (l ++ [p]) ∧ Below base w0 w' := by
  have hcz : w.cell? ⟨B, 0, none⟩ = some v := (blk_cell BK 0).trans rfl
  have hfz := blk_frozen BK 0
  have hlt : B < w.heap.size := (Array.getElem?_eq_some_iff.1 BK).1
  obtain ⟨A, c, rfl⟩ := Kd.R_slice HO
  go_enter Try.func21, Try.ntmps21
  have HO1 := Kd.R_alloc HO (.cells #[.int .i64 p.f0, .int .i64 p.f1, .int .i64 p.f2] 28)
  have HB1 := HB.alloc hbw (.cells #[.int .i64 p.f0, .int .i64 p.f1, .int .i64 p.f2] 28)
  have BK1 := blk_alloc BK (.cells #[.int .i64 p.f0, .int .i64 p.f1, .int .i64 p.f2] 28)
  have BH := Aside0.mk BK1
  have HH := Aside0.mk HO1
  have HBH := Aside0.mk HB1
  clear BK BK1 HO HO1 HB HB1
  go_wp2_with (at_builtin; go_loud (refine Kd.R_append k28 (w0 := w0) base rfl (.tmp 3) (.tmp 5) 22 28 (.agg #[(.int .i64 0), (.int .i64 0), (.int .i64 0)]) 24 rfl Try.underlying22 info28 rfl (by decide) (by omega) (.slice A l.length c) l p [.int .i64 p.f0, .int .i64 p.f1, .int .i64 p.f2] (fun k_ => k_ ≠ B) (fun _ => False) rfl (by first | (go_simp; done) | (go_simp; rfl)) (k28_mkM _ _ _ p) (fun _ hk => hk.elim) (by intro k hk; simp at hk; omega) HH.out HBH.out (by simp; omega) (by omega) ?_); intro v1 w1 ho hb1 hg hat; obtain ⟨A1, c1, rfl⟩ := Kd.R_slice ho; rw [show (l ++ [p]).length = l.length + 1 from by simp] at ho; have BK2 := blk_grown BH.out hg (Kd.R_ne HH.out BH.out (by decide)); have hcz1 : w1.cell? ⟨B, 0, none⟩ = some (.slice A l.length c) := (blk_cell BK2 0).trans rfl; have hfz1 := blk_frozen BK2 0; have BH2 := Aside0.mk BK2; have HH2 := Aside0.mk ho; have HB2 := Aside0.mk hb1; clear ho hb1 hg hat BK2)
  go_end0
  refine ⟨rfl, _, blk_put (cs := #[.slice A l.length c]) BH2.out 0 _ rfl, Kd.R_far (p := ⟨B, 0, none⟩) HH2.out (fun _ hk => hk) _, ?_⟩
  exact HB2.out.setCell (p := ⟨B, 0, none⟩) hb _

/-- The parts from at on, up to stop. -/
def prts : Nat → Int → Int → List S28
  | 0, _, _ => []
  | k + 1, at_, stop => if at_ < stop then ⟨at_ / 256, at_ % 256, mn (256 - at_ % 256) (stop - at_)⟩ :: prts k (at_ + mn (256 - at_ % 256) (stop - at_)) stop else []
/-- What May answers. -/
def mayF (a0 a1 : Int) : Int := if a0 < 0 ∨ a1 < 0 then 1 else if 8192 < a0 ∨ 8192 - a0 < a1 then 18 else 0
theorem may_calls (a0 a1 : Int) (w : World) : Calls Try.prog 13 #[.int .i64 a0, .int .i64 a1] w fun e w' => e = .returned (.int .i64 (mayF a0 a1)) ∧ w = w' := by
  by_cases h0 : a0 < 0
  · have hm : mayF a0 a1 = 1 := if_pos (.inl h0)
    have c0 : decide (a0 < 0) = true := decide_eq_true h0
    rw [hm]
    clear hm
    go_enter Try.func13, Try.ntmps13
    go_wp2
    go_ret
    exact ⟨rfl, rfl⟩
  · have c0 : decide (a0 < 0) = false := decide_eq_false h0
    by_cases h1 : a1 < 0
    · have hm : mayF a0 a1 = 1 := if_pos (.inr h1)
      have c1 : decide (a1 < 0) = true := decide_eq_true h1
      rw [hm]
      clear hm
      go_enter Try.func13, Try.ntmps13
      go_wp2
      go_ret
      exact ⟨rfl, rfl⟩
    · have c1 : decide (a1 < 0) = false := decide_eq_false h1
      by_cases h2 : 8192 < a0
      · have hm : mayF a0 a1 = 18 := by unfold mayF; rw [if_neg (by omega), if_pos (.inl h2)]
        have c2 : decide (8192 < a0) = true := decide_eq_true h2
        rw [hm]
        clear hm
        go_enter Try.func13, Try.ntmps13
        go_wp2
        go_ret
        exact ⟨rfl, rfl⟩
      · have c2 : decide (8192 < a0) = false := decide_eq_false h2
        by_cases h3 : 8192 - a0 < a1
        · have hm : mayF a0 a1 = 18 := by unfold mayF; rw [if_neg (by omega), if_pos (.inr h3)]
          have c3 : decide (8192 - a0 < a1) = true := decide_eq_true h3
          rw [hm]
          clear hm
          go_enter Try.func13, Try.ntmps13
          go_wp2
          go_ret
          exact ⟨rfl, rfl⟩
        · have hm : mayF a0 a1 = 0 := by unfold mayF; rw [if_neg (by omega), if_neg (by omega)]
          have c3 : decide (8192 - a0 < a1) = false := decide_eq_false h3
          rw [hm]
          clear hm
          go_enter Try.func13, Try.ntmps13
          go_wp2
          go_ret
          exact ⟨rfl, rfl⟩
theorem may_ok {a0 a1 : Int} (h : mayF a0 a1 = 0) : 0 ≤ a0 ∧ 0 ≤ a1 ∧ a0 + a1 ≤ 8192 := by
  unfold mayF at h
  split at h
  · cases h
  · split at h
    · cases h
    · omega
set_option maxHeartbeats 4000000 in
set_option maxRecDepth 100000 in
theorem each1 (a0 a1 : Int) (hmay : mayF a0 a1 = 0) (B base : Nat) (v : Value) (w0 w : World) (HB : Below base w0 w) (hbw : base ≤ w0.heap.size) (hb : base ≤ B) (BK : w.heap[B]? = some (.cells #[v] 22 (0, 0)))
    (HO : Kd.R k28 28 w base (fun k_ => k_ ≠ B) v []) :
    Calls Try.prog 20 #[.int .i64 a0, .int .i64 a1, .func (.func 21) #[] #[.pointer (some ⟨B, 0, none⟩)]] w fun e w' => e = .returned (.int .i64 0) ∧ ∃ v', w'.heap[B]? = some (.cells #[v'] 22 (0, 0)) ∧ Kd.R k28 28 w' base (fun k_ => k_ ≠ B) v' (prts 40 a0 (a0 + a1)) ∧ Below base w0 w' := by
  obtain ⟨h0, h1, h2⟩ := may_ok hmay
  have BH := Aside0.mk BK
  have HH := Aside0.mk HO
  have HBH := Aside0.mk HB
  have HM : ∀ w : World, Calls Try.prog 13 #[.int .i64 a0, .int .i64 a1] w fun e w' => e = .returned (.int .i64 0) ∧ w = w' := by
    have hmay0 := may_calls a0 a1
    rw [hmay] at hmay0
    exact hmay0
  have HMA := Aside0.mk HM
  clear BK HO HB hmay HM
  go_enter Try.func20, Try.ntmps20
  go_wp2_with (go_at_call 13; refine (HMA.out _).mono ?_; rintro e w' ⟨rfl, rfl⟩)
  go_loopg [0] 40 (fun kq v0 w' => ∃ (a : Int) (v : Value) (l : List S28), v0 = .int .i64 a ∧ Aside0 (l ++ prts kq a (a0 + a1) = prts 40 a0 (a0 + a1)) ∧ 0 ≤ a ∧ a ≤ a0 + a1 ∧ Aside0 (l.length + kq ≤ 40) ∧ Aside0 ((a0 + a1) / 256 - a / 256 < kq ∨ a = a0 + a1) ∧ Aside0 (w'.heap[B]? = some (.cells #[v] 22 (0, 0))) ∧ Aside0 (Kd.R k28 28 w' base (fun k_ => k_ ≠ B) v l) ∧ Aside0 (Below base w0 w'))
  case atStart => exact ⟨a0, v, [], rfl, ⟨rfl⟩, h0, by omega, ⟨by simp⟩, ⟨.inl (by omega)⟩, BH, HH, HBH⟩
  case round =>
    clear BH HH HBH
    obtain ⟨a, v, l, rfl, HE, ha0, ha1, HL, HQ, BH, HH, HBH⟩ := hrel
    by_cases hlt : a < a0 + a1
    · rcases (Int.lt_or_le (a0 + a1 - a) (256 - a % 256)) with hm | hm
      · have hmn : mn (256 - a % 256) (a0 + a1 - a) = a0 + a1 - a := by unfold mn; split <;> omega
        obtain ⟨gk, rfl⟩ : ∃ m, gk = m + 1 := ⟨gk - 1, by have := HQ.out; omega⟩
        have HE2 : Aside0 ((l ++ [⟨a / 256, a % 256, a0 + a1 - a⟩]) ++ prts gk (a + (a0 + a1 - a)) (a0 + a1) = prts 40 a0 (a0 + a1)) := ⟨by
          have h9 := HE.out
          rw [prts, if_pos hlt, hmn] at h9
          rw [List.append_assoc]
          exact h9⟩
        clear HE hmn
        have hlw := HBH.out.size
        go_wp2_with (go_at_call 21; go_loud (refine (parts1 ⟨a / 256, a % 256, a0 + a1 - a⟩ B base v l w0 _ HBH.out (by omega) hb BH.out HH.out (by have := HL.out; omega)).mono ?_); rintro e w1 ⟨rfl, v1, q1, q2, q3⟩; have BH2 := Aside0.mk q1; have HH2 := Aside0.mk q2; have HBH2 := Aside0.mk q3; clear q1 q2 q3)
        go_roundg gk
        case measure => omega
        case rel => exact ⟨a + (a0 + a1 - a), v1, l ++ [⟨a / 256, a % 256, a0 + a1 - a⟩], rfl, HE2, by omega, by omega, ⟨by have := HL.out; simp; omega⟩, ⟨by have := HQ.out; omega⟩, BH2, HH2, HBH2⟩
      · have hmn : mn (256 - a % 256) (a0 + a1 - a) = 256 - a % 256 := by unfold mn; split <;> omega
        obtain ⟨gk, rfl⟩ : ∃ m, gk = m + 1 := ⟨gk - 1, by have := HQ.out; omega⟩
        have HE2 : Aside0 ((l ++ [⟨a / 256, a % 256, 256 - a % 256⟩]) ++ prts gk (a + (256 - a % 256)) (a0 + a1) = prts 40 a0 (a0 + a1)) := ⟨by
          have h9 := HE.out
          rw [prts, if_pos hlt, hmn] at h9
          rw [List.append_assoc]
          exact h9⟩
        clear HE hmn
        have hlw := HBH.out.size
        go_wp2_with (go_at_call 21; go_loud (refine (parts1 ⟨a / 256, a % 256, 256 - a % 256⟩ B base v l w0 _ HBH.out (by omega) hb BH.out HH.out (by have := HL.out; omega)).mono ?_); rintro e w1 ⟨rfl, v1, q1, q2, q3⟩; have BH2 := Aside0.mk q1; have HH2 := Aside0.mk q2; have HBH2 := Aside0.mk q3; clear q1 q2 q3)
        go_roundg gk
        case measure => omega
        case rel => exact ⟨a + (256 - a % 256), v1, l ++ [⟨a / 256, a % 256, 256 - a % 256⟩], rfl, HE2, by omega, by omega, ⟨by have := HL.out; simp; omega⟩, ⟨by have := HQ.out; omega⟩, BH2, HH2, HBH2⟩
    · have hend : prts gk a (a0 + a1) = [] := by cases gk with | zero => rfl | succ k => rw [prts, if_neg hlt]
      have HE2 := HE.out
      rw [hend, List.append_nil] at HE2
      subst HE2
      clear HE hend
      go_wp2
      go_ret
      exact ⟨rfl, v, BH.out, HH.out, HBH.out⟩

/-- No span: nothing is gone through. -/
theorem each_no (a0 a1 : Int) (hmay : mayF a0 a1 ≠ 0) (f : Value) (w : World) :
    Calls Try.prog 20 #[.int .i64 a0, .int .i64 a1, f] w fun e w' => e = .returned (.int .i64 (mayF a0 a1)) ∧ w = w' := by
  have HMA := Aside0.mk (may_calls a0 a1)
  obtain ⟨r, hr⟩ : ∃ r, r = mayF a0 a1 := ⟨_, rfl⟩
  rw [← hr] at HMA hmay ⊢
  clear hr
  have c0 : (r != 0) = true := bne_iff_ne.2 hmay
  go_enter Try.func20, Try.ntmps20
  go_wp2_with (go_at_call 13; refine (HMA.out _).mono ?_; rintro e w' ⟨rfl, rfl⟩)
  go_ret
  exact ⟨rfl, rfl⟩
def span_Parts.f (a0 a1 : Int) : Option (List S28 × Int) := some (if mayF a0 a1 = 0 then (prts 40 a0 (a0 + a1), 0) else ([], mayF a0 a1))
set_option maxHeartbeats 4000000 in
set_option maxRecDepth 100000 in
theorem span_Parts.calls (a0 a1 : Int) (r1 : List S28) (r2 : Int) (w : World) (h : span_Parts.f a0 a1 = some (r1, r2)) :
    Calls Try.prog 6 #[.int .i64 a0, .int .i64 a1] w fun e w' => ∃ v0_ : Value, e = .returned (.tuple #[v0_, .int .i64 r2]) ∧ Kd.R k28 28 w' w.heap.size (fun _ => True) v0_ r1 ∧ Below w.heap.size w w' := by
  unfold span_Parts.f at h
  by_cases hm : mayF a0 a1 = 0
  · rw [if_pos hm] at h
    simp only [Option.some.injEq, Prod.mk.injEq] at h
    obtain ⟨rfl, rfl⟩ := h
    have HE := fun w1 B v (b1 : Below w.heap.size w w1) b2 b3 b4 => each1 a0 a1 hm B w.heap.size v w w1 b1 (Nat.le_refl _) b2 b3 b4
    have HEA := Aside0.mk HE
    clear HE hm
    go_enter Try.func6, Try.ntmps6
    go_wp2_with (go_at_call 20; refine (HEA.out _ w.heap.size (.slice none 0 0) ((Below.refl _ _).alloc (Nat.le_refl _) _) (Nat.le_refl _) (blk_new _ _) (Kd.R_nil _ _ _ _ _)).mono ?_; rintro e w1 ⟨rfl, v1, q1, q2, q3⟩; obtain ⟨A1, c1, rfl⟩ := Kd.R_slice q2; have hcz : w1.cell? ⟨w.heap.size, 0, none⟩ = some (.slice A1 (prts 40 a0 (a0 + a1)).length c1) := (blk_cell q1 0).trans rfl; have QQ := Aside0.mk q2; have QB := Aside0.mk q3; clear q1 q2 q3)
    go_ret2
    exact ⟨_, rfl, Kd.R_mono QQ.out (fun _ _ => trivial), QB.out⟩
  · rw [if_neg hm] at h
    simp only [Option.some.injEq, Prod.mk.injEq] at h
    obtain ⟨rfl, rfl⟩ := h
    have HEA := Aside0.mk (fun f w1 => each_no a0 a1 hm f w1)
    obtain ⟨r, hr⟩ : ∃ r, r = mayF a0 a1 := ⟨_, rfl⟩
    rw [← hr] at HEA ⊢
    clear hr hm
    have hcz : (w.alloc (.cells #[.slice none 0 0] 22)).cell? ⟨w.heap.size, 0, none⟩ = some (.slice none 0 0) := (blk_cell (blk_new _ _) 0).trans rfl
    go_enter Try.func6, Try.ntmps6
    go_wp2_with (go_at_call 20; refine (HEA.out _ _).mono ?_; rintro e w1 ⟨rfl, rfl⟩)
    go_ret2
    exact ⟨_, rfl, Kd.R_nil _ _ _ _ _, (Below.refl _ _).alloc (Nat.le_refl _) _⟩


/-! ### span_Pages: function 8 -/
def span_Pages.f (a0 : Int) : Option (Int) := if a0 < 1 then (some 0) else (some (wrap64 ((wrap64 (Int.tdiv (wrap64 (a0 - 1)) 256)) + 1)))
set_option maxHeartbeats 8000000 in
set_option maxRecDepth 100000 in
theorem span_Pages.calls (a0 : Int) (r : Int) (w : World) (h : span_Pages.f a0 = some r) :
    Calls Try.prog 8 #[.int .i64 a0] w fun e w' => e = .returned (.int .i64 r) ∧ Drawn0 w w' := by
  have H : (if a0 < 1 then (some 0) else (some (wrap64 ((wrap64 (Int.tdiv (wrap64 (a0 - 1)) 256)) + 1)))) = some r := h
  clear h
  by_cases c2 : a0 < 1
  · rw [if_pos c2] at H
    have c2b0 : decide (a0 < 1) = true := decide_eq_true c2
    clear c2
    obtain rfl := Option.some.inj H
    go_enter Try.func8, Try.ntmps8
    go_wp2
    go_ret
    exact ⟨by first | rfl | (simp; done) | (simp [*]; done), by repeat (first | exact Drawn0.refl _ | apply Drawn0.step)⟩
  · rw [if_neg c2] at H
    have c2b0 : decide (a0 < 1) = false := decide_eq_false c2
    clear c2
    obtain rfl := Option.some.inj H
    go_enter Try.func8, Try.ntmps8
    go_wp2
    go_ret
    exact ⟨by first | rfl | (simp; done) | (simp [*]; done), by repeat (first | exact Drawn0.refl _ | apply Drawn0.step)⟩

/-! ### carlinglaw26_alive: function 7 -/
def carlinglaw26_alive.f  : Option (Bool) := (span_Parts.f 250 10).bind fun bt101 => ((span_Parts.f 8192 1).bind fun bt105 => (if bt101.2 = 0 then (if (bt101.1.length : Int) = 2 then (if 0 < (bt101.1.length : Int) then (if (((rd_T28 bt101.1 0).f0) == 0 && (((rd_T28 bt101.1 0).f1) == 250 && (((rd_T28 bt101.1 0).f2) == 6))) = true then (if 1 < (bt101.1.length : Int) then (if (((rd_T28 bt101.1 1).f0) == 1 && (((rd_T28 bt101.1 1).f1) == 0 && (((rd_T28 bt101.1 1).f2) == 4))) = true then (if bt105.2 = 18 then ((span_Pages.f 257).bind fun t111 => (some (t111 == 2))) else (some false)) else (some false)) else (none)) else (some false)) else (none)) else (some false)) else (some false)))
set_option maxHeartbeats 8000000 in
set_option maxRecDepth 100000 in
theorem carlinglaw26_alive.calls  (r : Bool) (w : World) (h : carlinglaw26_alive.f  = some r) :
    Calls Try.prog 7 #[] w fun e w' => e = .returned (.bool r) ∧ Below w.heap.size w w' := by
  have hu28 := Try.underlying28
  have HB := Aside0.mk (Below.refl w.heap.size w)
  have H : ((span_Parts.f 250 10).bind fun bt101 => ((span_Parts.f 8192 1).bind fun bt105 => (if bt101.2 = 0 then (if (bt101.1.length : Int) = 2 then (if 0 < (bt101.1.length : Int) then (if (((rd_T28 bt101.1 0).f0) == 0 && (((rd_T28 bt101.1 0).f1) == 250 && (((rd_T28 bt101.1 0).f2) == 6))) = true then (if 1 < (bt101.1.length : Int) then (if (((rd_T28 bt101.1 1).f0) == 1 && (((rd_T28 bt101.1 1).f1) == 0 && (((rd_T28 bt101.1 1).f2) == 4))) = true then (if bt105.2 = 18 then ((span_Pages.f 257).bind fun t111 => (some (t111 == 2))) else (some false)) else (some false)) else (none)) else (some false)) else (none)) else (some false)) else (some false)))) = some r := h
  clear h
  replace H := Option.bind_eq_some_iff.mp H
  obtain ⟨⟨t101, t102⟩, A10, H⟩ := H
  replace H : ((span_Parts.f 8192 1).bind fun bt105 => (if t102 = 0 then (if (t101.length : Int) = 2 then (if 0 < (t101.length : Int) then (if (((rd_T28 t101 0).f0) == 0 && (((rd_T28 t101 0).f1) == 250 && (((rd_T28 t101 0).f2) == 6))) = true then (if 1 < (t101.length : Int) then (if (((rd_T28 t101 1).f0) == 1 && (((rd_T28 t101 1).f1) == 0 && (((rd_T28 t101 1).f2) == 4))) = true then (if bt105.2 = 18 then ((span_Pages.f 257).bind fun t111 => (some (t111 == 2))) else (some false)) else (some false)) else (none)) else (some false)) else (none)) else (some false)) else (some false))) = some r := H
  have A1 := Aside0.mk A10
  clear A10
  replace H := Option.bind_eq_some_iff.mp H
  obtain ⟨⟨t105, t106⟩, A20, H⟩ := H
  replace H : (if t102 = 0 then (if (t101.length : Int) = 2 then (if 0 < (t101.length : Int) then (if (((rd_T28 t101 0).f0) == 0 && (((rd_T28 t101 0).f1) == 250 && (((rd_T28 t101 0).f2) == 6))) = true then (if 1 < (t101.length : Int) then (if (((rd_T28 t101 1).f0) == 1 && (((rd_T28 t101 1).f1) == 0 && (((rd_T28 t101 1).f2) == 4))) = true then (if t106 = 18 then ((span_Pages.f 257).bind fun t111 => (some (t111 == 2))) else (some false)) else (some false)) else (none)) else (some false)) else (none)) else (some false)) else (some false)) = some r := H
  have A2 := Aside0.mk A20
  clear A20
  by_cases c3 : t102 = 0
  · rw [if_pos c3] at H
    have c3b0 : (t102 == 0) = true := beq_iff_eq.mpr c3
    have c3b1 : (t102 != 0) = false := bne_eq_false_iff_eq.mpr c3
    clear c3
    by_cases c4 : (t101.length : Int) = 2
    · rw [if_pos c4] at H
      have c4b0 : ((t101.length : Int) == 2) = true := beq_iff_eq.mpr c4
      have c4b1 : ((t101.length : Int) != 2) = false := bne_eq_false_iff_eq.mpr c4
      clear c4
      by_cases c5 : 0 < (t101.length : Int)
      · rw [if_pos c5] at H
        have c5b0 : decide (0 < (t101.length : Int)) = true := decide_eq_true c5
        have c5b1 : decide (0 < t101.length) = true := decide_eq_true (by omega)
        clear c5
        by_cases c6 : (((rd_T28 t101 0).f0) == 0 && (((rd_T28 t101 0).f1) == 250 && (((rd_T28 t101 0).f2) == 6))) = true
        · rw [if_pos c6] at H
          have c6b0 : (((rd_T28 t101 0).f0) == 0 && (((rd_T28 t101 0).f1) == 250 && (((rd_T28 t101 0).f2) == 6))) = true := c6
          (try (have c6b1 : decide (((rd_T28 t101 0).f0) = 0 && (((rd_T28 t101 0).f1) == 250 && (((rd_T28 t101 0).f2) == 6))) = true := by simpa using c6))
          (try (have c6b2 : (((rd_T28 t101 0).f0) == 0 && (((rd_T28 t101 0).f1) == 250 && (((rd_T28 t101 0).f2) == 6))) = true := by simpa using c6))
          clear c6
          by_cases c7 : 1 < (t101.length : Int)
          · rw [if_pos c7] at H
            have c7b0 : decide (1 < (t101.length : Int)) = true := decide_eq_true c7
            have c7b1 : decide (1 < t101.length) = true := decide_eq_true (by omega)
            clear c7
            by_cases c8 : (((rd_T28 t101 1).f0) == 1 && (((rd_T28 t101 1).f1) == 0 && (((rd_T28 t101 1).f2) == 4))) = true
            · rw [if_pos c8] at H
              have c8b0 : (((rd_T28 t101 1).f0) == 1 && (((rd_T28 t101 1).f1) == 0 && (((rd_T28 t101 1).f2) == 4))) = true := c8
              (try (have c8b1 : decide (((rd_T28 t101 1).f0) = 1 && (((rd_T28 t101 1).f1) == 0 && (((rd_T28 t101 1).f2) == 4))) = true := by simpa using c8))
              (try (have c8b2 : (((rd_T28 t101 1).f0) == 1 && (((rd_T28 t101 1).f1) == 0 && (((rd_T28 t101 1).f2) == 4))) = true := by simpa using c8))
              clear c8
              by_cases c9 : t106 = 18
              · rw [if_pos c9] at H
                have c9b0 : (t106 == 18) = true := beq_iff_eq.mpr c9
                have c9b1 : (t106 != 18) = false := bne_eq_false_iff_eq.mpr c9
                clear c9
                replace H := Option.bind_eq_some_iff.mp H
                obtain ⟨t111, A100, H⟩ := H
                replace H : (some (t111 == 2)) = some r := H
                have A10 := Aside0.mk A100
                clear A100
                obtain rfl := Option.some.inj H
                go_enter Try.func7, Try.ntmps7
                go_wp2_with (first | ((with_reducible refine gate_callee (f := 6) rfl ?_); refine goesL_ (some 6) rfl rfl Try.func6 (by kernel_rfl) rfl #[.int .i64 250, .int .i64 10] rfl (by (try simp only [List.map_toArray, List.map_cons, List.map_nil]); first | done | rfl | (simp only [List.length_drop, List.length_take]; rfl)) ?_; (with_reducible refine (span_Parts.calls 250 10 t101 t102 _ A1.out).mono ?_); rintro e w11 ⟨v103, rfl, ho0, hb⟩; refine ⟨_, rfl, ?_⟩; have n0_ := Aside0.mk (Kd.R_lower ho0 (below_size (by repeat (first | (with_reducible first | exact HB.out | apply below_alloc | apply pw_below_drewN | apply below_drew1) | exact HB.out)))); have n1_ := Aside0.mk (below_step (by repeat (first | (with_reducible first | exact HB.out | apply below_alloc | apply pw_below_drewN | apply below_drew1) | exact HB.out)) hb); clear HB; have HO104 := n0_; have HB := n1_; clear n0_ n1_; (try clear hb); (try clear hb2); (try clear hk); (try clear hi); (try clear ho0)) | ((with_reducible refine gate_callee (f := 6) rfl ?_); refine goesL_ (some 10) rfl rfl Try.func6 (by kernel_rfl) rfl #[.int .i64 8192, .int .i64 1] rfl (by (try simp only [List.map_toArray, List.map_cons, List.map_nil]); first | done | rfl | (simp only [List.length_drop, List.length_take]; rfl)) ?_; (with_reducible refine (span_Parts.calls 8192 1 t105 t106 _ A2.out).mono ?_); rintro e w12 ⟨v107, rfl, ho0, hb⟩; refine ⟨_, rfl, ?_⟩; have n0_ := Aside0.mk (Kd.R_elder' (by (with_reducible repeat (first | apply Kd.R_alloc | apply Kd.R_drewN | apply Kd.R_drew)); exact HO104.out) (Kd.R_base ho0) hb); have n1_ := Aside0.mk (Kd.R_lower (Kd.R_new' ho0 (Kd.R_lt (by (with_reducible repeat (first | apply Kd.R_alloc | apply Kd.R_drewN | apply Kd.R_drew)); exact HO104.out))) (below_size (by repeat (first | (with_reducible first | exact HB.out | apply below_alloc | apply pw_below_drewN | apply below_drew1) | exact HB.out)))); have n2_ := Aside0.mk (below_step (by repeat (first | (with_reducible first | exact HB.out | apply below_alloc | apply pw_below_drewN | apply below_drew1) | exact HB.out)) hb); clear HO104; clear HB; have HO104 := n0_; have HO108 := n1_; have HB := n2_; clear n0_ n1_ n2_; (try clear hb); (try clear hb2); (try clear hk); (try clear hi); (try clear ho0); obtain ⟨Ao13, co13, eo13⟩ := Kd.R_slice HO104.out; subst eo13; have p109 : 0 ≤ (0 : Int) := (by omega); have q109 : 0 < (t101.length : Int) := of_decide_eq_true (by first | (with_reducible assumption) | assumption); obtain ⟨ad109, e109, hx109_0, hx109_1, hx109_2⟩ := at_T28 (Kd.R_reads' HO104.out).2.2 0 p109 q109; cases e109; have qi109 : (0 < t101.length) = True := eq_true (by omega); (try rw [show ((0 : Int)).toNat = 0 from rfl] at hx109_0); (try rw [show 0 * 3 = 0 from rfl] at hx109_0); (try rw [Addr.add_zero'] at hx109_0); (try rw [show ((0 : Int)).toNat = 0 from rfl] at hx109_1); (try rw [show 0 * 3 = 0 from rfl] at hx109_1); (try rw [Addr.add_zero'] at hx109_1); (try rw [show ((0 : Int)).toNat = 0 from rfl] at hx109_2); (try rw [show 0 * 3 = 0 from rfl] at hx109_2); (try rw [Addr.add_zero'] at hx109_2); replace p109 := eq_true p109; replace q109 := eq_true q109; have p110 : 0 ≤ (1 : Int) := (by omega); have q110 : 1 < (t101.length : Int) := of_decide_eq_true (by first | (with_reducible assumption) | assumption); obtain ⟨ad110, e110, hx110_0, hx110_1, hx110_2⟩ := at_T28 (Kd.R_reads' HO104.out).2.2 1 p110 q110; obtain rfl : ad109 = ad110 := (by injection e110); (try simp only [show (1 : Int).toNat = 1 from rfl, Nat.reduceMul, Nat.reduceEqDiff, Go.Addr.add, ↓reduceIte] at hx110_0); (try simp only [show (1 : Int).toNat = 1 from rfl, Nat.reduceMul, Nat.reduceEqDiff, Go.Addr.add, ↓reduceIte] at hx110_1); (try simp only [show (1 : Int).toNat = 1 from rfl, Nat.reduceMul, Nat.reduceEqDiff, Go.Addr.add, ↓reduceIte] at hx110_2); have qi110 : (1 < t101.length) = True := eq_true (by omega); (try rw [show ((1 : Int)).toNat = 1 from rfl] at hx110_0); (try rw [show 1 * 3 = 3 from rfl] at hx110_0); (try rw [show ((1 : Int)).toNat = 1 from rfl] at hx110_1); (try rw [show 1 * 3 = 3 from rfl] at hx110_1); (try rw [show ((1 : Int)).toNat = 1 from rfl] at hx110_2); (try rw [show 1 * 3 = 3 from rfl] at hx110_2); replace p110 := eq_true p110; replace q110 := eq_true q110) | (go_at_call 8; (with_reducible refine (span_Pages.calls 257 t111 _ A10.out).mono ?_); rintro e w' ⟨rfl, ⟨nd, rfl⟩⟩))
                go_ret
                exact ⟨by first | rfl | (simp [errW_none, errW_some] <;> rfl) | (simp [*, errW_none, errW_some] <;> rfl), by repeat (first | (with_reducible first | exact HB.out | apply below_alloc | apply pw_below_drewN | apply below_drew1) | exact HB.out)⟩
              · rw [if_neg c9] at H
                have c9b0 : (t106 == 18) = false := beq_eq_false_iff_ne.mpr c9
                have c9b1 : (t106 != 18) = true := bne_iff_ne.mpr c9
                obtain rfl := Option.some.inj H
                go_enter Try.func7, Try.ntmps7
                go_wp2_with (first | ((with_reducible refine gate_callee (f := 6) rfl ?_); refine goesL_ (some 6) rfl rfl Try.func6 (by kernel_rfl) rfl #[.int .i64 250, .int .i64 10] rfl (by (try simp only [List.map_toArray, List.map_cons, List.map_nil]); first | done | rfl | (simp only [List.length_drop, List.length_take]; rfl)) ?_; (with_reducible refine (span_Parts.calls 250 10 t101 t102 _ A1.out).mono ?_); rintro e w14 ⟨v103, rfl, ho0, hb⟩; refine ⟨_, rfl, ?_⟩; have n0_ := Aside0.mk (Kd.R_lower ho0 (below_size (by repeat (first | (with_reducible first | exact HB.out | apply below_alloc | apply pw_below_drewN | apply below_drew1) | exact HB.out)))); have n1_ := Aside0.mk (below_step (by repeat (first | (with_reducible first | exact HB.out | apply below_alloc | apply pw_below_drewN | apply below_drew1) | exact HB.out)) hb); clear HB; have HO104 := n0_; have HB := n1_; clear n0_ n1_; (try clear hb); (try clear hb2); (try clear hk); (try clear hi); (try clear ho0)) | ((with_reducible refine gate_callee (f := 6) rfl ?_); refine goesL_ (some 10) rfl rfl Try.func6 (by kernel_rfl) rfl #[.int .i64 8192, .int .i64 1] rfl (by (try simp only [List.map_toArray, List.map_cons, List.map_nil]); first | done | rfl | (simp only [List.length_drop, List.length_take]; rfl)) ?_; (with_reducible refine (span_Parts.calls 8192 1 t105 t106 _ A2.out).mono ?_); rintro e w15 ⟨v107, rfl, ho0, hb⟩; refine ⟨_, rfl, ?_⟩; have n0_ := Aside0.mk (Kd.R_elder' (by (with_reducible repeat (first | apply Kd.R_alloc | apply Kd.R_drewN | apply Kd.R_drew)); exact HO104.out) (Kd.R_base ho0) hb); have n1_ := Aside0.mk (Kd.R_lower (Kd.R_new' ho0 (Kd.R_lt (by (with_reducible repeat (first | apply Kd.R_alloc | apply Kd.R_drewN | apply Kd.R_drew)); exact HO104.out))) (below_size (by repeat (first | (with_reducible first | exact HB.out | apply below_alloc | apply pw_below_drewN | apply below_drew1) | exact HB.out)))); have n2_ := Aside0.mk (below_step (by repeat (first | (with_reducible first | exact HB.out | apply below_alloc | apply pw_below_drewN | apply below_drew1) | exact HB.out)) hb); clear HO104; clear HB; have HO104 := n0_; have HO108 := n1_; have HB := n2_; clear n0_ n1_ n2_; (try clear hb); (try clear hb2); (try clear hk); (try clear hi); (try clear ho0); obtain ⟨Ao16, co16, eo16⟩ := Kd.R_slice HO104.out; subst eo16; have p109 : 0 ≤ (0 : Int) := (by omega); have q109 : 0 < (t101.length : Int) := of_decide_eq_true (by first | (with_reducible assumption) | assumption); obtain ⟨ad109, e109, hx109_0, hx109_1, hx109_2⟩ := at_T28 (Kd.R_reads' HO104.out).2.2 0 p109 q109; cases e109; have qi109 : (0 < t101.length) = True := eq_true (by omega); (try rw [show ((0 : Int)).toNat = 0 from rfl] at hx109_0); (try rw [show 0 * 3 = 0 from rfl] at hx109_0); (try rw [Addr.add_zero'] at hx109_0); (try rw [show ((0 : Int)).toNat = 0 from rfl] at hx109_1); (try rw [show 0 * 3 = 0 from rfl] at hx109_1); (try rw [Addr.add_zero'] at hx109_1); (try rw [show ((0 : Int)).toNat = 0 from rfl] at hx109_2); (try rw [show 0 * 3 = 0 from rfl] at hx109_2); (try rw [Addr.add_zero'] at hx109_2); replace p109 := eq_true p109; replace q109 := eq_true q109; have p110 : 0 ≤ (1 : Int) := (by omega); have q110 : 1 < (t101.length : Int) := of_decide_eq_true (by first | (with_reducible assumption) | assumption); obtain ⟨ad110, e110, hx110_0, hx110_1, hx110_2⟩ := at_T28 (Kd.R_reads' HO104.out).2.2 1 p110 q110; obtain rfl : ad109 = ad110 := (by injection e110); (try simp only [show (1 : Int).toNat = 1 from rfl, Nat.reduceMul, Nat.reduceEqDiff, Go.Addr.add, ↓reduceIte] at hx110_0); (try simp only [show (1 : Int).toNat = 1 from rfl, Nat.reduceMul, Nat.reduceEqDiff, Go.Addr.add, ↓reduceIte] at hx110_1); (try simp only [show (1 : Int).toNat = 1 from rfl, Nat.reduceMul, Nat.reduceEqDiff, Go.Addr.add, ↓reduceIte] at hx110_2); have qi110 : (1 < t101.length) = True := eq_true (by omega); (try rw [show ((1 : Int)).toNat = 1 from rfl] at hx110_0); (try rw [show 1 * 3 = 3 from rfl] at hx110_0); (try rw [show ((1 : Int)).toNat = 1 from rfl] at hx110_1); (try rw [show 1 * 3 = 3 from rfl] at hx110_1); (try rw [show ((1 : Int)).toNat = 1 from rfl] at hx110_2); (try rw [show 1 * 3 = 3 from rfl] at hx110_2); replace p110 := eq_true p110; replace q110 := eq_true q110))
                go_ret
                exact ⟨by first | rfl | (simp [errW_none, errW_some] <;> rfl) | (simp [*, errW_none, errW_some] <;> rfl), by repeat (first | (with_reducible first | exact HB.out | apply below_alloc | apply pw_below_drewN | apply below_drew1) | exact HB.out)⟩
            · rw [if_neg c8] at H
              have c8b0 : (((rd_T28 t101 1).f0) == 1 && (((rd_T28 t101 1).f1) == 0 && (((rd_T28 t101 1).f2) == 4))) = false := by simpa using c8
              (try (have c8b1 : decide (((rd_T28 t101 1).f0) = 1 && (((rd_T28 t101 1).f1) == 0 && (((rd_T28 t101 1).f2) == 4))) = false := by simpa using c8))
              (try (have c8b2 : (((rd_T28 t101 1).f0) == 1 && (((rd_T28 t101 1).f1) == 0 && (((rd_T28 t101 1).f2) == 4))) = false := by simpa using c8))
              (try (have c8b3 : ¬ (((rd_T28 t101 1).f0) = 1 && (((rd_T28 t101 1).f1) == 0 && (((rd_T28 t101 1).f2) == 4))) := by simpa using c8))
              clear c8
              obtain rfl := Option.some.inj H
              go_enter Try.func7, Try.ntmps7
              go_wp2_with (first | ((with_reducible refine gate_callee (f := 6) rfl ?_); refine goesL_ (some 6) rfl rfl Try.func6 (by kernel_rfl) rfl #[.int .i64 250, .int .i64 10] rfl (by (try simp only [List.map_toArray, List.map_cons, List.map_nil]); first | done | rfl | (simp only [List.length_drop, List.length_take]; rfl)) ?_; (with_reducible refine (span_Parts.calls 250 10 t101 t102 _ A1.out).mono ?_); rintro e w17 ⟨v103, rfl, ho0, hb⟩; refine ⟨_, rfl, ?_⟩; have n0_ := Aside0.mk (Kd.R_lower ho0 (below_size (by repeat (first | (with_reducible first | exact HB.out | apply below_alloc | apply pw_below_drewN | apply below_drew1) | exact HB.out)))); have n1_ := Aside0.mk (below_step (by repeat (first | (with_reducible first | exact HB.out | apply below_alloc | apply pw_below_drewN | apply below_drew1) | exact HB.out)) hb); clear HB; have HO104 := n0_; have HB := n1_; clear n0_ n1_; (try clear hb); (try clear hb2); (try clear hk); (try clear hi); (try clear ho0)) | ((with_reducible refine gate_callee (f := 6) rfl ?_); refine goesL_ (some 10) rfl rfl Try.func6 (by kernel_rfl) rfl #[.int .i64 8192, .int .i64 1] rfl (by (try simp only [List.map_toArray, List.map_cons, List.map_nil]); first | done | rfl | (simp only [List.length_drop, List.length_take]; rfl)) ?_; (with_reducible refine (span_Parts.calls 8192 1 t105 t106 _ A2.out).mono ?_); rintro e w18 ⟨v107, rfl, ho0, hb⟩; refine ⟨_, rfl, ?_⟩; have n0_ := Aside0.mk (Kd.R_elder' (by (with_reducible repeat (first | apply Kd.R_alloc | apply Kd.R_drewN | apply Kd.R_drew)); exact HO104.out) (Kd.R_base ho0) hb); have n1_ := Aside0.mk (Kd.R_lower (Kd.R_new' ho0 (Kd.R_lt (by (with_reducible repeat (first | apply Kd.R_alloc | apply Kd.R_drewN | apply Kd.R_drew)); exact HO104.out))) (below_size (by repeat (first | (with_reducible first | exact HB.out | apply below_alloc | apply pw_below_drewN | apply below_drew1) | exact HB.out)))); have n2_ := Aside0.mk (below_step (by repeat (first | (with_reducible first | exact HB.out | apply below_alloc | apply pw_below_drewN | apply below_drew1) | exact HB.out)) hb); clear HO104; clear HB; have HO104 := n0_; have HO108 := n1_; have HB := n2_; clear n0_ n1_ n2_; (try clear hb); (try clear hb2); (try clear hk); (try clear hi); (try clear ho0); obtain ⟨Ao19, co19, eo19⟩ := Kd.R_slice HO104.out; subst eo19; have p109 : 0 ≤ (0 : Int) := (by omega); have q109 : 0 < (t101.length : Int) := of_decide_eq_true (by first | (with_reducible assumption) | assumption); obtain ⟨ad109, e109, hx109_0, hx109_1, hx109_2⟩ := at_T28 (Kd.R_reads' HO104.out).2.2 0 p109 q109; cases e109; have qi109 : (0 < t101.length) = True := eq_true (by omega); (try rw [show ((0 : Int)).toNat = 0 from rfl] at hx109_0); (try rw [show 0 * 3 = 0 from rfl] at hx109_0); (try rw [Addr.add_zero'] at hx109_0); (try rw [show ((0 : Int)).toNat = 0 from rfl] at hx109_1); (try rw [show 0 * 3 = 0 from rfl] at hx109_1); (try rw [Addr.add_zero'] at hx109_1); (try rw [show ((0 : Int)).toNat = 0 from rfl] at hx109_2); (try rw [show 0 * 3 = 0 from rfl] at hx109_2); (try rw [Addr.add_zero'] at hx109_2); replace p109 := eq_true p109; replace q109 := eq_true q109; have p110 : 0 ≤ (1 : Int) := (by omega); have q110 : 1 < (t101.length : Int) := of_decide_eq_true (by first | (with_reducible assumption) | assumption); obtain ⟨ad110, e110, hx110_0, hx110_1, hx110_2⟩ := at_T28 (Kd.R_reads' HO104.out).2.2 1 p110 q110; obtain rfl : ad109 = ad110 := (by injection e110); (try simp only [show (1 : Int).toNat = 1 from rfl, Nat.reduceMul, Nat.reduceEqDiff, Go.Addr.add, ↓reduceIte] at hx110_0); (try simp only [show (1 : Int).toNat = 1 from rfl, Nat.reduceMul, Nat.reduceEqDiff, Go.Addr.add, ↓reduceIte] at hx110_1); (try simp only [show (1 : Int).toNat = 1 from rfl, Nat.reduceMul, Nat.reduceEqDiff, Go.Addr.add, ↓reduceIte] at hx110_2); have qi110 : (1 < t101.length) = True := eq_true (by omega); (try rw [show ((1 : Int)).toNat = 1 from rfl] at hx110_0); (try rw [show 1 * 3 = 3 from rfl] at hx110_0); (try rw [show ((1 : Int)).toNat = 1 from rfl] at hx110_1); (try rw [show 1 * 3 = 3 from rfl] at hx110_1); (try rw [show ((1 : Int)).toNat = 1 from rfl] at hx110_2); (try rw [show 1 * 3 = 3 from rfl] at hx110_2); replace p110 := eq_true p110; replace q110 := eq_true q110))
              go_ret
              exact ⟨by first | rfl | (simp [errW_none, errW_some] <;> rfl) | (simp [*, errW_none, errW_some] <;> rfl), by repeat (first | (with_reducible first | exact HB.out | apply below_alloc | apply pw_below_drewN | apply below_drew1) | exact HB.out)⟩
          · rw [if_neg c7] at H
            exact absurd H (by simp)
        · rw [if_neg c6] at H
          have c6b0 : (((rd_T28 t101 0).f0) == 0 && (((rd_T28 t101 0).f1) == 250 && (((rd_T28 t101 0).f2) == 6))) = false := by simpa using c6
          (try (have c6b1 : decide (((rd_T28 t101 0).f0) = 0 && (((rd_T28 t101 0).f1) == 250 && (((rd_T28 t101 0).f2) == 6))) = false := by simpa using c6))
          (try (have c6b2 : (((rd_T28 t101 0).f0) == 0 && (((rd_T28 t101 0).f1) == 250 && (((rd_T28 t101 0).f2) == 6))) = false := by simpa using c6))
          (try (have c6b3 : ¬ (((rd_T28 t101 0).f0) = 0 && (((rd_T28 t101 0).f1) == 250 && (((rd_T28 t101 0).f2) == 6))) := by simpa using c6))
          clear c6
          obtain rfl := Option.some.inj H
          go_enter Try.func7, Try.ntmps7
          go_wp2_with (first | ((with_reducible refine gate_callee (f := 6) rfl ?_); refine goesL_ (some 6) rfl rfl Try.func6 (by kernel_rfl) rfl #[.int .i64 250, .int .i64 10] rfl (by (try simp only [List.map_toArray, List.map_cons, List.map_nil]); first | done | rfl | (simp only [List.length_drop, List.length_take]; rfl)) ?_; (with_reducible refine (span_Parts.calls 250 10 t101 t102 _ A1.out).mono ?_); rintro e w20 ⟨v103, rfl, ho0, hb⟩; refine ⟨_, rfl, ?_⟩; have n0_ := Aside0.mk (Kd.R_lower ho0 (below_size (by repeat (first | (with_reducible first | exact HB.out | apply below_alloc | apply pw_below_drewN | apply below_drew1) | exact HB.out)))); have n1_ := Aside0.mk (below_step (by repeat (first | (with_reducible first | exact HB.out | apply below_alloc | apply pw_below_drewN | apply below_drew1) | exact HB.out)) hb); clear HB; have HO104 := n0_; have HB := n1_; clear n0_ n1_; (try clear hb); (try clear hb2); (try clear hk); (try clear hi); (try clear ho0)) | ((with_reducible refine gate_callee (f := 6) rfl ?_); refine goesL_ (some 10) rfl rfl Try.func6 (by kernel_rfl) rfl #[.int .i64 8192, .int .i64 1] rfl (by (try simp only [List.map_toArray, List.map_cons, List.map_nil]); first | done | rfl | (simp only [List.length_drop, List.length_take]; rfl)) ?_; (with_reducible refine (span_Parts.calls 8192 1 t105 t106 _ A2.out).mono ?_); rintro e w21 ⟨v107, rfl, ho0, hb⟩; refine ⟨_, rfl, ?_⟩; have n0_ := Aside0.mk (Kd.R_elder' (by (with_reducible repeat (first | apply Kd.R_alloc | apply Kd.R_drewN | apply Kd.R_drew)); exact HO104.out) (Kd.R_base ho0) hb); have n1_ := Aside0.mk (Kd.R_lower (Kd.R_new' ho0 (Kd.R_lt (by (with_reducible repeat (first | apply Kd.R_alloc | apply Kd.R_drewN | apply Kd.R_drew)); exact HO104.out))) (below_size (by repeat (first | (with_reducible first | exact HB.out | apply below_alloc | apply pw_below_drewN | apply below_drew1) | exact HB.out)))); have n2_ := Aside0.mk (below_step (by repeat (first | (with_reducible first | exact HB.out | apply below_alloc | apply pw_below_drewN | apply below_drew1) | exact HB.out)) hb); clear HO104; clear HB; have HO104 := n0_; have HO108 := n1_; have HB := n2_; clear n0_ n1_ n2_; (try clear hb); (try clear hb2); (try clear hk); (try clear hi); (try clear ho0); obtain ⟨Ao22, co22, eo22⟩ := Kd.R_slice HO104.out; subst eo22; have p109 : 0 ≤ (0 : Int) := (by omega); have q109 : 0 < (t101.length : Int) := of_decide_eq_true (by first | (with_reducible assumption) | assumption); obtain ⟨ad109, e109, hx109_0, hx109_1, hx109_2⟩ := at_T28 (Kd.R_reads' HO104.out).2.2 0 p109 q109; cases e109; have qi109 : (0 < t101.length) = True := eq_true (by omega); (try rw [show ((0 : Int)).toNat = 0 from rfl] at hx109_0); (try rw [show 0 * 3 = 0 from rfl] at hx109_0); (try rw [Addr.add_zero'] at hx109_0); (try rw [show ((0 : Int)).toNat = 0 from rfl] at hx109_1); (try rw [show 0 * 3 = 0 from rfl] at hx109_1); (try rw [Addr.add_zero'] at hx109_1); (try rw [show ((0 : Int)).toNat = 0 from rfl] at hx109_2); (try rw [show 0 * 3 = 0 from rfl] at hx109_2); (try rw [Addr.add_zero'] at hx109_2); replace p109 := eq_true p109; replace q109 := eq_true q109))
          go_ret
          exact ⟨by first | rfl | (simp [errW_none, errW_some] <;> rfl) | (simp [*, errW_none, errW_some] <;> rfl), by repeat (first | (with_reducible first | exact HB.out | apply below_alloc | apply pw_below_drewN | apply below_drew1) | exact HB.out)⟩
      · rw [if_neg c5] at H
        exact absurd H (by simp)
    · rw [if_neg c4] at H
      have c4b0 : ((t101.length : Int) == 2) = false := beq_eq_false_iff_ne.mpr c4
      have c4b1 : ((t101.length : Int) != 2) = true := bne_iff_ne.mpr c4
      obtain rfl := Option.some.inj H
      go_enter Try.func7, Try.ntmps7
      go_wp2_with (first | ((with_reducible refine gate_callee (f := 6) rfl ?_); refine goesL_ (some 6) rfl rfl Try.func6 (by kernel_rfl) rfl #[.int .i64 250, .int .i64 10] rfl (by (try simp only [List.map_toArray, List.map_cons, List.map_nil]); first | done | rfl | (simp only [List.length_drop, List.length_take]; rfl)) ?_; (with_reducible refine (span_Parts.calls 250 10 t101 t102 _ A1.out).mono ?_); rintro e w23 ⟨v103, rfl, ho0, hb⟩; refine ⟨_, rfl, ?_⟩; have n0_ := Aside0.mk (Kd.R_lower ho0 (below_size (by repeat (first | (with_reducible first | exact HB.out | apply below_alloc | apply pw_below_drewN | apply below_drew1) | exact HB.out)))); have n1_ := Aside0.mk (below_step (by repeat (first | (with_reducible first | exact HB.out | apply below_alloc | apply pw_below_drewN | apply below_drew1) | exact HB.out)) hb); clear HB; have HO104 := n0_; have HB := n1_; clear n0_ n1_; (try clear hb); (try clear hb2); (try clear hk); (try clear hi); (try clear ho0)) | ((with_reducible refine gate_callee (f := 6) rfl ?_); refine goesL_ (some 10) rfl rfl Try.func6 (by kernel_rfl) rfl #[.int .i64 8192, .int .i64 1] rfl (by (try simp only [List.map_toArray, List.map_cons, List.map_nil]); first | done | rfl | (simp only [List.length_drop, List.length_take]; rfl)) ?_; (with_reducible refine (span_Parts.calls 8192 1 t105 t106 _ A2.out).mono ?_); rintro e w24 ⟨v107, rfl, ho0, hb⟩; refine ⟨_, rfl, ?_⟩; have n0_ := Aside0.mk (Kd.R_elder' (by (with_reducible repeat (first | apply Kd.R_alloc | apply Kd.R_drewN | apply Kd.R_drew)); exact HO104.out) (Kd.R_base ho0) hb); have n1_ := Aside0.mk (Kd.R_lower (Kd.R_new' ho0 (Kd.R_lt (by (with_reducible repeat (first | apply Kd.R_alloc | apply Kd.R_drewN | apply Kd.R_drew)); exact HO104.out))) (below_size (by repeat (first | (with_reducible first | exact HB.out | apply below_alloc | apply pw_below_drewN | apply below_drew1) | exact HB.out)))); have n2_ := Aside0.mk (below_step (by repeat (first | (with_reducible first | exact HB.out | apply below_alloc | apply pw_below_drewN | apply below_drew1) | exact HB.out)) hb); clear HO104; clear HB; have HO104 := n0_; have HO108 := n1_; have HB := n2_; clear n0_ n1_ n2_; (try clear hb); (try clear hb2); (try clear hk); (try clear hi); (try clear ho0); obtain ⟨Ao25, co25, eo25⟩ := Kd.R_slice HO104.out; subst eo25))
      go_ret
      exact ⟨by first | rfl | (simp [errW_none, errW_some] <;> rfl) | (simp [*, errW_none, errW_some] <;> rfl), by repeat (first | (with_reducible first | exact HB.out | apply below_alloc | apply pw_below_drewN | apply below_drew1) | exact HB.out)⟩
  · rw [if_neg c3] at H
    have c3b0 : (t102 == 0) = false := beq_eq_false_iff_ne.mpr c3
    have c3b1 : (t102 != 0) = true := bne_iff_ne.mpr c3
    obtain rfl := Option.some.inj H
    go_enter Try.func7, Try.ntmps7
    go_wp2_with (first | ((with_reducible refine gate_callee (f := 6) rfl ?_); refine goesL_ (some 6) rfl rfl Try.func6 (by kernel_rfl) rfl #[.int .i64 250, .int .i64 10] rfl (by (try simp only [List.map_toArray, List.map_cons, List.map_nil]); first | done | rfl | (simp only [List.length_drop, List.length_take]; rfl)) ?_; (with_reducible refine (span_Parts.calls 250 10 t101 t102 _ A1.out).mono ?_); rintro e w26 ⟨v103, rfl, ho0, hb⟩; refine ⟨_, rfl, ?_⟩; have n0_ := Aside0.mk (Kd.R_lower ho0 (below_size (by repeat (first | (with_reducible first | exact HB.out | apply below_alloc | apply pw_below_drewN | apply below_drew1) | exact HB.out)))); have n1_ := Aside0.mk (below_step (by repeat (first | (with_reducible first | exact HB.out | apply below_alloc | apply pw_below_drewN | apply below_drew1) | exact HB.out)) hb); clear HB; have HO104 := n0_; have HB := n1_; clear n0_ n1_; (try clear hb); (try clear hb2); (try clear hk); (try clear hi); (try clear ho0)) | ((with_reducible refine gate_callee (f := 6) rfl ?_); refine goesL_ (some 10) rfl rfl Try.func6 (by kernel_rfl) rfl #[.int .i64 8192, .int .i64 1] rfl (by (try simp only [List.map_toArray, List.map_cons, List.map_nil]); first | done | rfl | (simp only [List.length_drop, List.length_take]; rfl)) ?_; (with_reducible refine (span_Parts.calls 8192 1 t105 t106 _ A2.out).mono ?_); rintro e w27 ⟨v107, rfl, ho0, hb⟩; refine ⟨_, rfl, ?_⟩; have n0_ := Aside0.mk (Kd.R_elder' (by (with_reducible repeat (first | apply Kd.R_alloc | apply Kd.R_drewN | apply Kd.R_drew)); exact HO104.out) (Kd.R_base ho0) hb); have n1_ := Aside0.mk (Kd.R_lower (Kd.R_new' ho0 (Kd.R_lt (by (with_reducible repeat (first | apply Kd.R_alloc | apply Kd.R_drewN | apply Kd.R_drew)); exact HO104.out))) (below_size (by repeat (first | (with_reducible first | exact HB.out | apply below_alloc | apply pw_below_drewN | apply below_drew1) | exact HB.out)))); have n2_ := Aside0.mk (below_step (by repeat (first | (with_reducible first | exact HB.out | apply below_alloc | apply pw_below_drewN | apply below_drew1) | exact HB.out)) hb); clear HO104; clear HB; have HO104 := n0_; have HO108 := n1_; have HB := n2_; clear n0_ n1_ n2_; (try clear hb); (try clear hb2); (try clear hk); (try clear hi); (try clear ho0)))
    go_ret
    exact ⟨by first | rfl | (simp [errW_none, errW_some] <;> rfl) | (simp [*, errW_none, errW_some] <;> rfl), by repeat (first | (with_reducible first | exact HB.out | apply below_alloc | apply pw_below_drewN | apply below_drew1) | exact HB.out)⟩

/-! ### carlinglaw26_SpanWhole: function 3 -/
def carlinglaw26_SpanWhole.l0 : Nat → Int → Int → Int → List (S28) → Int → Int → Option (Bool)
  | 0, _, _, _, _, _, _ => none
  | k + 1, x0, x1, x7, x26, x27, x28 => if x28 < x27 then (if 0 ≤ x28 then (if x28 < (x26.length : Int) then (if ((rd_T28 x26 x28).f2) < 1 then (none) else (if (wrap64 (((rd_T28 x26 x28).f1) + ((rd_T28 x26 x28).f2))) > 256 then (none) else (if (wrap64 ((wrap64 (256 * ((rd_T28 x26 x28).f0))) + ((rd_T28 x26 x28).f1))) = x7 then (if x28 > 0 then (if ((rd_T28 x26 x28).f1) = 0 then (carlinglaw26_SpanWhole.l0 k x0 x1 (wrap64 (x7 + ((rd_T28 x26 x28).f2))) x26 x27 (wrap64 (x28 + 1))) else (none)) else (carlinglaw26_SpanWhole.l0 k x0 x1 (wrap64 (x7 + ((rd_T28 x26 x28).f2))) x26 x27 (wrap64 (x28 + 1)))) else (none)))) else (none)) else (none)) else ((span_Pages.f x1).bind fun t119 => (if x7 = (wrap64 (x0 + x1)) then (if (wrap64 (256 * t119)) ≥ x1 then (if (wrap64 ((wrap64 (256 * t119)) - x1)) < 256 then ((span_Pages.f (wrap64 (-x1))).bind fun t120 => (if t120 = 0 then ((carlinglaw26_alive.f).bind fun t121 => (some t121)) else (none))) else (none)) else (none)) else (none)))
def carlinglaw26_SpanWhole.f (k : Nat) (a0 : Int) (a1 : Int) : Option (Bool) := (span_Parts.f a0 a1).bind fun bt112 => (if bt112.2 = 0 then (carlinglaw26_SpanWhole.l0 k a0 a1 a0 bt112.1 (bt112.1.length : Int) 0) else (if (bt112.1.length : Int) = 0 then ((carlinglaw26_alive.f).bind fun t116 => (some t116)) else (none)))
theorem carlinglaw26_SpanWhole.mono_l : ∀ k, (∀ y0 y1 y2 y3 y4 y5, LeO (carlinglaw26_SpanWhole.l0 k y0 y1 y2 y3 y4 y5) (carlinglaw26_SpanWhole.l0 (k + 1) y0 y1 y2 y3 y4 y5))
  | 0 => fun _ _ _ _ _ _ r h => by simp [carlinglaw26_SpanWhole.l0] at h
  | k + 1 => by
    have ih0 := carlinglaw26_SpanWhole.mono_l k
    · intro y0 y1 y2 y3 y4 y5
      unfold carlinglaw26_SpanWhole.l0
      repeat' first
      | (with_reducible exact ih0 _ _ _ _ _ _)
      | (with_reducible exact LeO.refl _)
      | (with_reducible exact LeO.none _)
      | (with_reducible refine LeO.ite ?_ ?_)
      | (with_reducible refine LeO.bind ?_ (fun _ => ?_))
      | exact ih0 _ _ _ _ _ _
      | exact LeO.none _
      | refine LeO.ite ?_ ?_
      | refine LeO.bind ?_ (fun _ => ?_)
theorem carlinglaw26_SpanWhole.mono : ∀ a0 a1 k, LeO (carlinglaw26_SpanWhole.f k a0 a1) (carlinglaw26_SpanWhole.f (k + 1) a0 a1) := by
  intro a0 a1 k
  have ih0 := carlinglaw26_SpanWhole.mono_l k
  unfold carlinglaw26_SpanWhole.f
  repeat' first
      | (with_reducible exact ih0 _ _ _ _ _ _)
      | (with_reducible exact LeO.refl _)
      | (with_reducible exact LeO.none _)
      | (with_reducible refine LeO.ite ?_ ?_)
      | (with_reducible refine LeO.bind ?_ (fun _ => ?_))
      | exact ih0 _ _ _ _ _ _
      | exact LeO.none _
      | refine LeO.ite ?_ ?_
      | refine LeO.bind ?_ (fun _ => ?_)
set_option maxHeartbeats 8000000 in
set_option maxRecDepth 100000 in
theorem carlinglaw26_SpanWhole.calls (k : Nat) (a0 : Int) (a1 : Int) (r : Bool) (w : World) (h : carlinglaw26_SpanWhole.f k a0 a1 = some r) :
    Calls Try.prog 3 #[.int .i64 a0, .int .i64 a1] w fun e w' => e = .returned (.bool r) ∧ Below w.heap.size w w' := by
  have hu28 := Try.underlying28
  have HB := Aside0.mk (Below.refl w.heap.size w)
  have H : ((span_Parts.f a0 a1).bind fun bt112 => (if bt112.2 = 0 then (carlinglaw26_SpanWhole.l0 k a0 a1 a0 bt112.1 (bt112.1.length : Int) 0) else (if (bt112.1.length : Int) = 0 then ((carlinglaw26_alive.f).bind fun t116 => (some t116)) else (none)))) = some r := h
  clear h
  replace H := Option.bind_eq_some_iff.mp H
  obtain ⟨⟨t112, t113⟩, A30, H⟩ := H
  replace H : (if t113 = 0 then (carlinglaw26_SpanWhole.l0 k a0 a1 a0 t112 (t112.length : Int) 0) else (if (t112.length : Int) = 0 then ((carlinglaw26_alive.f).bind fun t116 => (some t116)) else (none))) = some r := H
  have A3 := Aside0.mk A30
  clear A30
  by_cases c4 : t113 = 0
  · rw [if_pos c4] at H
    have c4b0 : (t113 == 0) = true := beq_iff_eq.mpr c4
    have c4b1 : (t113 != 0) = false := bne_eq_false_iff_eq.mpr c4
    clear c4
    have H' := Aside0.mk H
    clear H
    go_enter Try.func3, Try.ntmps3
    go_wp2_with (first | ((with_reducible refine gate_callee (f := 6) rfl ?_); refine goesL_ (some 14) rfl rfl Try.func6 (by kernel_rfl) rfl #[.int .i64 a0, .int .i64 a1] rfl (by (try simp only [List.map_toArray, List.map_cons, List.map_nil]); first | done | rfl | (simp only [List.length_drop, List.length_take]; rfl)) ?_; (with_reducible refine (span_Parts.calls a0 a1 t112 t113 _ A3.out).mono ?_); rintro e w5 ⟨v114, rfl, ho0, hb⟩; refine ⟨_, rfl, ?_⟩; have n0_ := Aside0.mk (Kd.R_lower ho0 (below_size (by repeat (first | (with_reducible first | exact HB.out | apply below_alloc | apply pw_below_drewN | apply below_drew1) | exact HB.out)))); have n1_ := Aside0.mk (below_step (by repeat (first | (with_reducible first | exact HB.out | apply below_alloc | apply pw_below_drewN | apply below_drew1) | exact HB.out)) hb); clear HB; have HO115 := n0_; have HB := n1_; clear n0_ n1_; (try clear hb); (try clear hb2); (try clear hk); (try clear hi); (try clear ho0); obtain ⟨Ao6, co6, eo6⟩ := Kd.R_slice HO115.out; subst eo6))
    go_loopg [7, 28] k (fun kq v7 v28 w' => ∃ (x7_1 : Int) (x28_1 : Int), v7 = .int .i64 x7_1 ∧ v28 = .int .i64 x28_1 ∧ Aside0 (carlinglaw26_SpanWhole.l0 kq a0 a1 x7_1 t112 (t112.length : Int) x28_1 = some r) ∧ Aside0 (kq ≤ k) ∧ Aside0 (Kd.R k28 28 w' w.heap.size (fun _ => True) (.slice Ao6 t112.length co6) t112) ∧ Aside0 (Below w.heap.size w w'))
    case atStart => exact ⟨(a0), (0), (by first | rfl | (simp; done) | (simp [*]; done)), (by first | rfl | (simp; done) | (simp [*]; done)), H', ⟨Nat.le_refl _⟩, ⟨by (with_reducible repeat (first | apply Kd.R_alloc | apply Kd.R_drewN | apply Kd.R_drew)); exact HO115.out⟩, ⟨by repeat (first | (with_reducible first | exact HB.out | apply below_alloc | apply pw_below_drewN | apply below_drew1) | exact HB.out)⟩⟩
    case round =>
      clear H'
      try clear p2
      try clear c3
      try clear c4
      try clear c4b0
      try clear c4b1
      try clear c6
      obtain ⟨x7_1, x28_1, rfl, rfl, HA, HK1, HO_26, HB⟩ := hrel
      cases gk with
      | zero => exact absurd HA.out (by simp [carlinglaw26_SpanWhole.l0])
      | succ k1 =>
        have H := HA.out
        clear HA
        simp only [carlinglaw26_SpanWhole.l0] at H
        by_cases c7 : x28_1 < (t112.length : Int)
        · rw [if_pos c7] at H
          have c7b0 : decide (x28_1 < (t112.length : Int)) = true := decide_eq_true c7
          clear c7
          by_cases c8 : 0 ≤ x28_1
          · rw [if_pos c8] at H
            have c8b0 : decide (0 ≤ x28_1) = true := decide_eq_true c8
            clear c8
            by_cases c9 : x28_1 < (t112.length : Int)
            · rw [if_pos c9] at H
              have c9b0 : decide (x28_1 < (t112.length : Int)) = true := decide_eq_true c9
              clear c9
              by_cases c10 : ((rd_T28 t112 x28_1).f2) < 1
              · rw [if_pos c10] at H
                exact absurd H (by simp)
              · rw [if_neg c10] at H
                have c10b0 : decide (((rd_T28 t112 x28_1).f2) < 1) = false := decide_eq_false c10
                clear c10
                by_cases c11 : (wrap64 (((rd_T28 t112 x28_1).f1) + ((rd_T28 t112 x28_1).f2))) > 256
                · rw [if_pos c11] at H
                  exact absurd H (by simp)
                · rw [if_neg c11] at H
                  have c11b0 : decide (256 < (wrap64 (((rd_T28 t112 x28_1).f1) + ((rd_T28 t112 x28_1).f2)))) = false := decide_eq_false c11
                  clear c11
                  by_cases c12 : (wrap64 ((wrap64 (256 * ((rd_T28 t112 x28_1).f0))) + ((rd_T28 t112 x28_1).f1))) = x7_1
                  · rw [if_pos c12] at H
                    have c12b0 : ((wrap64 ((wrap64 (256 * ((rd_T28 t112 x28_1).f0))) + ((rd_T28 t112 x28_1).f1))) == x7_1) = true := beq_iff_eq.mpr c12
                    have c12b1 : ((wrap64 ((wrap64 (256 * ((rd_T28 t112 x28_1).f0))) + ((rd_T28 t112 x28_1).f1))) != x7_1) = false := bne_eq_false_iff_eq.mpr c12
                    clear c12
                    by_cases c13 : x28_1 > 0
                    · rw [if_pos c13] at H
                      have c13b0 : decide (0 < x28_1) = true := decide_eq_true c13
                      clear c13
                      by_cases c14 : ((rd_T28 t112 x28_1).f1) = 0
                      · rw [if_pos c14] at H
                        have c14b0 : (((rd_T28 t112 x28_1).f1) == 0) = true := beq_iff_eq.mpr c14
                        have c14b1 : (((rd_T28 t112 x28_1).f1) != 0) = false := bne_eq_false_iff_eq.mpr c14
                        clear c14
                        have H' := Aside0.mk H
                        clear H
                        have p117 : 0 ≤ (x28_1 : Int) := of_decide_eq_true (by first | (with_reducible assumption) | assumption)
                        have q117 : x28_1 < (t112.length : Int) := of_decide_eq_true (by first | (with_reducible assumption) | assumption)
                        obtain ⟨ad117, e117, hx117_0, hx117_1, hx117_2⟩ := at_T28 (Kd.R_reads' HO_26.out).2.2 x28_1 p117 q117
                        cases e117
                        replace p117 := eq_true p117
                        replace q117 := eq_true q117
                        go_wp2_with (first | ((with_reducible refine gate_dst (N := 9) rfl ?_); refine box_event ?hg (N := 9) ?hd (cs := #[.int .i64 0, .int .i64 0, .int .i64 0]) (t := 28) ?hr ?_; (case hd => rfl); (case hg => rfl); (case hr => first | (go_simp; done) | (go_simp; rfl)); intro gb118 hg w15 hbox hb; have n0_ := Aside0.mk (Kd.R_below (Kd.R_elderB (by (with_reducible repeat (first | apply Kd.R_alloc | apply Kd.R_drewN | apply Kd.R_drew)); exact HO_26.out) gb118 (Nat.le_of_eq hg.symm)) hb); have n1_ := Aside0.mk (below_step (by repeat (first | (with_reducible first | exact HB.out | apply below_alloc | apply pw_below_drewN | apply below_drew1) | exact HB.out)) hb); have n2_ := Aside0.mk (hbox); have n3_ := Aside0.mk ((by rw [hg]; exact (below_size (by repeat (first | (with_reducible first | exact HB.out | apply below_alloc | apply pw_below_drewN | apply below_drew1) | exact HB.out))) : w.heap.size ≤ gb118)); have n4_ := Aside0.mk ((by rw [hg]; exact (below_size (by repeat (first | (with_reducible first | exact HB.out | apply below_alloc | apply pw_below_drewN | apply below_drew1) | exact HB.out))) : w.heap.size ≤ gb118)); clear HO_26; clear HB; have HO_26 := n0_; have HB := n1_; have BK118 := n2_; have GW118 := n3_; have GE118 := n4_; clear n0_ n1_ n2_ n3_ n4_; clear hb hbox hg; have hcz16_0 : w15.cell? ⟨gb118, 0, none⟩ = some (.int .i64 0) := (blk_cell BK118.out 0).trans rfl; have hcz16_1 : w15.cell? ⟨gb118, 1, none⟩ = some (.int .i64 0) := (blk_cell BK118.out 1).trans rfl; have hcz16_2 : w15.cell? ⟨gb118, 2, none⟩ = some (.int .i64 0) := (blk_cell BK118.out 2).trans rfl; have hfz16_0 := blk_frozen BK118.out 0; have hfz16_1 := blk_frozen BK118.out 1; have hfz16_2 := blk_frozen BK118.out 2))
                        go_roundg k1
                        case measure => have := HK1.out; omega
                        case rel => exact ⟨(wrap64 (x7_1 + ((rd_T28 t112 x28_1).f2))), (wrap64 (x28_1 + 1)), (by first | rfl | (simp; done) | (simp [*]; done)), (by first | rfl | (simp; done) | (simp [*]; done)), H', ⟨by have := HK1.out; omega⟩, ⟨by (with_reducible repeat (first | apply Kd.R_alloc | apply Kd.R_drewN | apply Kd.R_drew)); exact Kd.R_mono (Kd.R_far (p := ⟨gb118, 2, none⟩) (Kd.R_far (p := ⟨gb118, 1, none⟩) (Kd.R_far (p := ⟨gb118, 0, none⟩) (Kd.R_mono HO_26.out (fun k_ hk => (⟨hk, hk.2⟩ : _ ∧ k_ ≠ gb118))) (fun _ hk => hk.2) (.int .i64 ((rd_T28 t112 x28_1).f0))) (fun _ hk => hk.2) (.int .i64 ((rd_T28 t112 x28_1).f1))) (fun _ hk => hk.2) (.int .i64 ((rd_T28 t112 x28_1).f2))) (fun _ hk => trivial)⟩, ⟨by repeat (first | (with_reducible first | exact HB.out | apply below_alloc | apply pw_below_drewN | apply below_drew1 | refine below_set ?_ GE118.out) | exact HB.out)⟩⟩
                      · rw [if_neg c14] at H
                        exact absurd H (by simp)
                    · rw [if_neg c13] at H
                      have c13b0 : decide (0 < x28_1) = false := decide_eq_false c13
                      clear c13
                      have H' := Aside0.mk H
                      clear H
                      have p117 : 0 ≤ (x28_1 : Int) := of_decide_eq_true (by first | (with_reducible assumption) | assumption)
                      have q117 : x28_1 < (t112.length : Int) := of_decide_eq_true (by first | (with_reducible assumption) | assumption)
                      obtain ⟨ad117, e117, hx117_0, hx117_1, hx117_2⟩ := at_T28 (Kd.R_reads' HO_26.out).2.2 x28_1 p117 q117
                      cases e117
                      replace p117 := eq_true p117
                      replace q117 := eq_true q117
                      go_wp2_with (first | ((with_reducible refine gate_dst (N := 9) rfl ?_); refine box_event ?hg (N := 9) ?hd (cs := #[.int .i64 0, .int .i64 0, .int .i64 0]) (t := 28) ?hr ?_; (case hd => rfl); (case hg => rfl); (case hr => first | (go_simp; done) | (go_simp; rfl)); intro gb118 hg w17 hbox hb; have n0_ := Aside0.mk (Kd.R_below (Kd.R_elderB (by (with_reducible repeat (first | apply Kd.R_alloc | apply Kd.R_drewN | apply Kd.R_drew)); exact HO_26.out) gb118 (Nat.le_of_eq hg.symm)) hb); have n1_ := Aside0.mk (below_step (by repeat (first | (with_reducible first | exact HB.out | apply below_alloc | apply pw_below_drewN | apply below_drew1) | exact HB.out)) hb); have n2_ := Aside0.mk (hbox); have n3_ := Aside0.mk ((by rw [hg]; exact (below_size (by repeat (first | (with_reducible first | exact HB.out | apply below_alloc | apply pw_below_drewN | apply below_drew1) | exact HB.out))) : w.heap.size ≤ gb118)); have n4_ := Aside0.mk ((by rw [hg]; exact (below_size (by repeat (first | (with_reducible first | exact HB.out | apply below_alloc | apply pw_below_drewN | apply below_drew1) | exact HB.out))) : w.heap.size ≤ gb118)); clear HO_26; clear HB; have HO_26 := n0_; have HB := n1_; have BK118 := n2_; have GW118 := n3_; have GE118 := n4_; clear n0_ n1_ n2_ n3_ n4_; clear hb hbox hg; have hcz18_0 : w17.cell? ⟨gb118, 0, none⟩ = some (.int .i64 0) := (blk_cell BK118.out 0).trans rfl; have hcz18_1 : w17.cell? ⟨gb118, 1, none⟩ = some (.int .i64 0) := (blk_cell BK118.out 1).trans rfl; have hcz18_2 : w17.cell? ⟨gb118, 2, none⟩ = some (.int .i64 0) := (blk_cell BK118.out 2).trans rfl; have hfz18_0 := blk_frozen BK118.out 0; have hfz18_1 := blk_frozen BK118.out 1; have hfz18_2 := blk_frozen BK118.out 2))
                      go_roundg k1
                      case measure => have := HK1.out; omega
                      case rel => exact ⟨(wrap64 (x7_1 + ((rd_T28 t112 x28_1).f2))), (wrap64 (x28_1 + 1)), (by first | rfl | (simp; done) | (simp [*]; done)), (by first | rfl | (simp; done) | (simp [*]; done)), H', ⟨by have := HK1.out; omega⟩, ⟨by (with_reducible repeat (first | apply Kd.R_alloc | apply Kd.R_drewN | apply Kd.R_drew)); exact Kd.R_mono (Kd.R_far (p := ⟨gb118, 2, none⟩) (Kd.R_far (p := ⟨gb118, 1, none⟩) (Kd.R_far (p := ⟨gb118, 0, none⟩) (Kd.R_mono HO_26.out (fun k_ hk => (⟨hk, hk.2⟩ : _ ∧ k_ ≠ gb118))) (fun _ hk => hk.2) (.int .i64 ((rd_T28 t112 x28_1).f0))) (fun _ hk => hk.2) (.int .i64 ((rd_T28 t112 x28_1).f1))) (fun _ hk => hk.2) (.int .i64 ((rd_T28 t112 x28_1).f2))) (fun _ hk => trivial)⟩, ⟨by repeat (first | (with_reducible first | exact HB.out | apply below_alloc | apply pw_below_drewN | apply below_drew1 | refine below_set ?_ GE118.out) | exact HB.out)⟩⟩
                  · rw [if_neg c12] at H
                    exact absurd H (by simp)
            · rw [if_neg c9] at H
              exact absurd H (by simp)
          · rw [if_neg c8] at H
            exact absurd H (by simp)
        · rw [if_neg c7] at H
          have c7b0 : decide (x28_1 < (t112.length : Int)) = false := decide_eq_false c7
          clear c7
          replace H := Option.bind_eq_some_iff.mp H
          obtain ⟨t119, A190, H⟩ := H
          replace H : (if x7_1 = (wrap64 (a0 + a1)) then (if (wrap64 (256 * t119)) ≥ a1 then (if (wrap64 ((wrap64 (256 * t119)) - a1)) < 256 then ((span_Pages.f (wrap64 (-a1))).bind fun t120 => (if t120 = 0 then ((carlinglaw26_alive.f).bind fun t121 => (some t121)) else (none))) else (none)) else (none)) else (none)) = some r := H
          have A19 := Aside0.mk A190
          clear A190
          by_cases c20 : x7_1 = (wrap64 (a0 + a1))
          · rw [if_pos c20] at H
            have c20b0 : (x7_1 == (wrap64 (a0 + a1))) = true := beq_iff_eq.mpr c20
            have c20b1 : (x7_1 != (wrap64 (a0 + a1))) = false := bne_eq_false_iff_eq.mpr c20
            clear c20
            by_cases c21 : (wrap64 (256 * t119)) ≥ a1
            · rw [if_pos c21] at H
              have c21b0 : decide (a1 ≤ (wrap64 (256 * t119))) = true := decide_eq_true c21
              clear c21
              by_cases c22 : (wrap64 ((wrap64 (256 * t119)) - a1)) < 256
              · rw [if_pos c22] at H
                have c22b0 : decide ((wrap64 ((wrap64 (256 * t119)) - a1)) < 256) = true := decide_eq_true c22
                clear c22
                replace H := Option.bind_eq_some_iff.mp H
                obtain ⟨t120, A230, H⟩ := H
                replace H : (if t120 = 0 then ((carlinglaw26_alive.f).bind fun t121 => (some t121)) else (none)) = some r := H
                have A23 := Aside0.mk A230
                clear A230
                by_cases c24 : t120 = 0
                · rw [if_pos c24] at H
                  have c24b0 : (t120 == 0) = true := beq_iff_eq.mpr c24
                  have c24b1 : (t120 != 0) = false := bne_eq_false_iff_eq.mpr c24
                  clear c24
                  replace H := Option.bind_eq_some_iff.mp H
                  obtain ⟨t121, A250, H⟩ := H
                  replace H : (some t121) = some r := H
                  have A25 := Aside0.mk A250
                  clear A250
                  obtain rfl := Option.some.inj H
                  go_wp2_with (first | ((with_reducible refine gate_callee (f := 8) rfl ?_); refine goesL_ (some 69) rfl rfl Try.func8 (by kernel_rfl) rfl #[.int .i64 a1] rfl (by (try simp only [List.map_toArray, List.map_cons, List.map_nil]); first | done | rfl | (simp only [List.length_drop, List.length_take]; rfl)) ?_; (with_reducible refine (span_Pages.calls a1 t119 _ A19.out).mono ?_); rintro e w' ⟨rfl, ⟨nd, rfl⟩⟩; refine ⟨_, rfl, ?_⟩) | (go_at_call 8; (with_reducible refine (span_Pages.calls (wrap64 (-a1)) t120 _ A23.out).mono ?_); rintro e w' ⟨rfl, ⟨nd, rfl⟩⟩) | (go_at_call 7; (with_reducible refine (carlinglaw26_alive.calls  t121 _ A25.out).mono ?_); rintro e w26 ⟨rfl, hb⟩; have n0_ := Aside0.mk (Kd.R_below (by (with_reducible repeat (first | apply Kd.R_alloc | apply Kd.R_drewN | apply Kd.R_drew)); exact HO_26.out) hb); have n1_ := Aside0.mk (below_step (by repeat (first | (with_reducible first | exact HB.out | apply below_alloc | apply pw_below_drewN | apply below_drew1) | exact HB.out)) hb); clear HO_26; clear HB; have HO_26 := n0_; have HB := n1_; clear n0_ n1_; (try clear hb); (try clear hb2); (try clear hk); (try clear hi)))
                  go_ret
                  exact ⟨by first | rfl | (simp [errW_none, errW_some] <;> rfl) | (simp [*, errW_none, errW_some] <;> rfl), by repeat (first | (with_reducible first | exact HB.out | apply below_alloc | apply pw_below_drewN | apply below_drew1) | exact HB.out)⟩
                · rw [if_neg c24] at H
                  exact absurd H (by simp)
              · rw [if_neg c22] at H
                exact absurd H (by simp)
            · rw [if_neg c21] at H
              exact absurd H (by simp)
          · rw [if_neg c20] at H
            exact absurd H (by simp)
  · rw [if_neg c4] at H
    have c4b0 : (t113 == 0) = false := beq_eq_false_iff_ne.mpr c4
    have c4b1 : (t113 != 0) = true := bne_iff_ne.mpr c4
    by_cases c27 : (t112.length : Int) = 0
    · rw [if_pos c27] at H
      have c27b0 : ((t112.length : Int) == 0) = true := beq_iff_eq.mpr c27
      have c27b1 : ((t112.length : Int) != 0) = false := bne_eq_false_iff_eq.mpr c27
      clear c27
      replace H := Option.bind_eq_some_iff.mp H
      obtain ⟨t116, A280, H⟩ := H
      replace H : (some t116) = some r := H
      have A28 := Aside0.mk A280
      clear A280
      obtain rfl := Option.some.inj H
      go_enter Try.func3, Try.ntmps3
      go_wp2_with (first | ((with_reducible refine gate_callee (f := 6) rfl ?_); refine goesL_ (some 14) rfl rfl Try.func6 (by kernel_rfl) rfl #[.int .i64 a0, .int .i64 a1] rfl (by (try simp only [List.map_toArray, List.map_cons, List.map_nil]); first | done | rfl | (simp only [List.length_drop, List.length_take]; rfl)) ?_; (with_reducible refine (span_Parts.calls a0 a1 t112 t113 _ A3.out).mono ?_); rintro e w29 ⟨v114, rfl, ho0, hb⟩; refine ⟨_, rfl, ?_⟩; have n0_ := Aside0.mk (Kd.R_lower ho0 (below_size (by repeat (first | (with_reducible first | exact HB.out | apply below_alloc | apply pw_below_drewN | apply below_drew1) | exact HB.out)))); have n1_ := Aside0.mk (below_step (by repeat (first | (with_reducible first | exact HB.out | apply below_alloc | apply pw_below_drewN | apply below_drew1) | exact HB.out)) hb); clear HB; have HO115 := n0_; have HB := n1_; clear n0_ n1_; (try clear hb); (try clear hb2); (try clear hk); (try clear hi); (try clear ho0); obtain ⟨Ao30, co30, eo30⟩ := Kd.R_slice HO115.out; subst eo30) | (go_at_call 7; (with_reducible refine (carlinglaw26_alive.calls  t116 _ A28.out).mono ?_); rintro e w31 ⟨rfl, hb⟩; have n0_ := Aside0.mk (Kd.R_below (by (with_reducible repeat (first | apply Kd.R_alloc | apply Kd.R_drewN | apply Kd.R_drew)); exact HO115.out) hb); have n1_ := Aside0.mk (below_step (by repeat (first | (with_reducible first | exact HB.out | apply below_alloc | apply pw_below_drewN | apply below_drew1) | exact HB.out)) hb); clear HO115; clear HB; have HO115 := n0_; have HB := n1_; clear n0_ n1_; (try clear hb); (try clear hb2); (try clear hk); (try clear hi)))
      go_ret
      exact ⟨by first | rfl | (simp [errW_none, errW_some] <;> rfl) | (simp [*, errW_none, errW_some] <;> rfl), by repeat (first | (with_reducible first | exact HB.out | apply below_alloc | apply pw_below_drewN | apply below_drew1) | exact HB.out)⟩
    · rw [if_neg c27] at H
      exact absurd H (by simp)

/-- THE ONE PURE STATEMENT of carlinglaw26_SpanWhole: yours. -/
def carlinglaw26_SpanWhole.Pure : Prop := ∀ (a0 : Int) (a1 : Int), (Lit.int .i64 a0).wf = true → (Lit.int .i64 a1).wf = true → ∃ k, carlinglaw26_SpanWhole.f k a0 a1 = some true
theorem carlinglaw26_SpanWhole.walk (P : carlinglaw26_SpanWhole.Pure) (a0 : Int) (a1 : Int) (w : World) (w0 : (Lit.int .i64 a0).wf = true) (w1 : (Lit.int .i64 a1).wf = true) :
    Calls Try.prog 3 #[.int .i64 a0, .int .i64 a1] w fun e w' => e = .returned (.bool true) ∧ Below w.heap.size w w' := by
  obtain ⟨k, h⟩ := P a0 a1 w0 w1
  refine (carlinglaw26_SpanWhole.calls k a0 a1 true w h).mono ?_
  rintro e w' ⟨rfl, hd⟩
  exact ⟨rfl, hd⟩

/-! ### carlingref26_May: function 14 -/
def carlingref26_May.j0 : Nat → Int → Int → Bool → Option (Int)
  | 0, _, _, _ => none
  | k + 1, x0, x1, x10 => if x10 = true then (some 1) else (if x0 > 8192 then (some 18) else (if x1 > (wrap64 (8192 - x0)) then (some 18) else (some 0)))
def carlingref26_May.f (k : Nat) (a0 : Int) (a1 : Int) : Option (Int) := if a0 < 0 then (carlingref26_May.j0 k a0 a1 true) else (carlingref26_May.j0 k a0 a1 (decide (a1 < 0)))
theorem carlingref26_May.mono_l : ∀ k, (∀ y0 y1 y2, LeO (carlingref26_May.j0 k y0 y1 y2) (carlingref26_May.j0 (k + 1) y0 y1 y2))
  | 0 => fun _ _ _ r h => by simp [carlingref26_May.j0] at h
  | k + 1 => by
    have ih0 := carlingref26_May.mono_l k
    · intro y0 y1 y2
      unfold carlingref26_May.j0
      repeat' first
      | (with_reducible exact ih0 _ _ _)
      | (with_reducible exact LeO.refl _)
      | (with_reducible exact LeO.none _)
      | (with_reducible refine LeO.ite ?_ ?_)
      | (with_reducible refine LeO.bind ?_ (fun _ => ?_))
      | exact ih0 _ _ _
      | exact LeO.none _
      | refine LeO.ite ?_ ?_
      | refine LeO.bind ?_ (fun _ => ?_)
theorem carlingref26_May.mono : ∀ a0 a1 k, LeO (carlingref26_May.f k a0 a1) (carlingref26_May.f (k + 1) a0 a1) := by
  intro a0 a1 k
  have ih0 := carlingref26_May.mono_l k
  unfold carlingref26_May.f
  repeat' first
      | (with_reducible exact ih0 _ _ _)
      | (with_reducible exact LeO.refl _)
      | (with_reducible exact LeO.none _)
      | (with_reducible refine LeO.ite ?_ ?_)
      | (with_reducible refine LeO.bind ?_ (fun _ => ?_))
      | exact ih0 _ _ _
      | exact LeO.none _
      | refine LeO.ite ?_ ?_
      | refine LeO.bind ?_ (fun _ => ?_)
set_option maxHeartbeats 8000000 in
set_option maxRecDepth 100000 in
theorem carlingref26_May.calls (k : Nat) (a0 : Int) (a1 : Int) (r : Int) (w : World) (h : carlingref26_May.f k a0 a1 = some r) :
    Calls Try.prog 14 #[.int .i64 a0, .int .i64 a1] w fun e w' => e = .returned (.int .i64 r) ∧ Drawn0 w w' := by
  have H : (if a0 < 0 then (carlingref26_May.j0 k a0 a1 true) else (carlingref26_May.j0 k a0 a1 (decide (a1 < 0)))) = some r := h
  clear h
  have HC3 := Aside0.mk H
  clear H
  go_enter Try.func14, Try.ntmps14
  go_upto_region 1 with (fail)
  go_cut [10] (fun v10 wc => ∃ (kq : Nat) (x10_2 : Bool), v10 = .bool x10_2 ∧ Aside0 (carlingref26_May.j0 kq a0 a1 x10_2 = some r) ∧ Aside0 (kq ≤ k) ∧ Drawn0 w wc)
  case first =>
    have H := HC3.out
    clear HC3
    by_cases c4 : a0 < 0
    · rw [if_pos c4] at H
      have c4b0 : decide (a0 < 0) = true := decide_eq_true c4
      clear c4
      (first | rw [c4b0] | (simp only [i64_w, i32_w]; rw [c4b0]) | rw [c4b1] | skip)
      have H' := Aside0.mk H
      clear H
      go_wp2
      go_meet
      case rel => exact ⟨_, (true), (by first | rfl | (simp; done) | (simp [*]; done)), H', ⟨by first | omega | exact Nat.le_refl _⟩, by repeat (first | exact Drawn0.refl _ | apply Drawn0.step)⟩
    · rw [if_neg c4] at H
      have c4b0 : decide (a0 < 0) = false := decide_eq_false c4
      clear c4
      (first | rw [c4b0] | (simp only [i64_w, i32_w]; rw [c4b0]) | rw [c4b1] | skip)
      have H' := Aside0.mk H
      clear H
      go_wp2
      go_meet
      case rel => exact ⟨_, (decide (a1 < 0)), (by first | rfl | (simp; done) | (simp [*]; done)), H', ⟨by first | omega | exact Nat.le_refl _⟩, by repeat (first | exact Drawn0.refl _ | apply Drawn0.step)⟩
  case rest =>
    clear HC3
    try clear c1
    try clear p2
    try clear c4
    try clear c4b0
    try clear c4b1
    obtain ⟨kq, x10_2, rfl, HA, HJ2, ⟨mc2, rfl⟩⟩ := hcut
    cases kq with
    | zero => exact absurd HA.out (by simp [carlingref26_May.j0])
    | succ kj2 =>
      have H := HA.out
      clear HA
      simp only [carlingref26_May.j0] at H
      by_cases c5 : x10_2 = true
      · subst c5
        have H1 : (some 1) = some r := by rw [if_pos rfl] at H; exact H
        clear H
        have H := H1
        clear H1
        obtain rfl := Option.some.inj H
        go_wp2
        go_ret
        exact ⟨by first | rfl | (simp; done) | (simp [*]; done), by repeat (first | exact Drawn0.refl _ | apply Drawn0.step)⟩
      · replace c5 := Bool.eq_false_iff.mpr c5
        subst c5
        have H1 : (if a0 > 8192 then (some 18) else (if a1 > (wrap64 (8192 - a0)) then (some 18) else (some 0))) = some r := by rw [if_neg (show ¬ (false = true) by decide)] at H; exact H
        clear H
        have H := H1
        clear H1
        by_cases c6 : a0 > 8192
        · rw [if_pos c6] at H
          have c6b0 : decide (8192 < a0) = true := decide_eq_true c6
          clear c6
          obtain rfl := Option.some.inj H
          go_wp2
          go_ret
          exact ⟨by first | rfl | (simp; done) | (simp [*]; done), by repeat (first | exact Drawn0.refl _ | apply Drawn0.step)⟩
        · rw [if_neg c6] at H
          have c6b0 : decide (8192 < a0) = false := decide_eq_false c6
          clear c6
          by_cases c7 : a1 > (wrap64 (8192 - a0))
          · rw [if_pos c7] at H
            have c7b0 : decide ((wrap64 (8192 - a0)) < a1) = true := decide_eq_true c7
            clear c7
            obtain rfl := Option.some.inj H
            go_wp2
            go_ret
            exact ⟨by first | rfl | (simp; done) | (simp [*]; done), by repeat (first | exact Drawn0.refl _ | apply Drawn0.step)⟩
          · rw [if_neg c7] at H
            have c7b0 : decide ((wrap64 (8192 - a0)) < a1) = false := decide_eq_false c7
            clear c7
            obtain rfl := Option.some.inj H
            go_wp2
            go_ret
            exact ⟨by first | rfl | (simp; done) | (simp [*]; done), by repeat (first | exact Drawn0.refl _ | apply Drawn0.step)⟩

end Go.Proofs.Ytffpfneiaknfeaa.PP
