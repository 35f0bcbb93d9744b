/- Shapes of pages in closed form: where levels begin, an item's level, parent, children and path. No program. -/
import Derived.Test.YthpmlhiilmaigaaPSx0
namespace Go.Proofs.Ythpmlhiilmaigaa.SA
open Go.RowKit Go.Proofs.YthpmlhiilmaigaaW.PrintWords Go.Proofs.YthpmlhiilmaigaaW.PrintLast Go.Proofs.YthpmlhiilmaigaaW.PrintMore

theorem Ev.out {α : Type} {g : Nat → Option α} {r : α} (h : Ev g r) : ∃ K, ∀ k, K ≤ k → g k = some r := h
theorem Ev.mk {α : Type} {g : Nat → Option α} {r : α} (K : Nat) (h : ∀ k, K ≤ k → g k = some r) : Ev g r := ⟨K, h⟩
theorem w64 {n : Int} (h0 : -9223372036854775808 ≤ n) (h1 : n ≤ 9223372036854775807) : wrap64 n = n := by unfold wrap64; omega
theorem i64_of {n : Int} (h : (Lit.int .i64 n).wf = true) : -9223372036854775808 ≤ n ∧ n ≤ 9223372036854775807 := by
  simp [Lit.wf, IntKind.min, IntKind.max, IntKind.signed, IntKind.bits] at h
  exact ⟨by omega, by omega⟩

/-- p pages, x nodes over them, y nodes over those, and one over those. -/
structure Sh (p x y : Int) : Prop where
  p1 : 1 ≤ p
  p2 : p ≤ 216
  x1 : p ≤ 6 * x
  x2 : 6 * x ≤ p + 5
  y1 : x ≤ 6 * y
  y2 : 6 * y ≤ x + 5
theorem Sh.of {p : Int} (h1 : 1 ≤ p) (h2 : p ≤ 216) : Sh p ((p + 5) / 6) (((p + 5) / 6 + 5) / 6) := ⟨h1, h2, by omega, by omega, by omega, by omega⟩
theorem Sh.xb {p x y : Int} (h : Sh p x y) : 1 ≤ x ∧ x ≤ 36 ∧ 1 ≤ y ∧ y ≤ 6 := by have := h.p1; have := h.p2; have := h.x1; have := h.x2; have := h.y1; have := h.y2; omega
/-- Where the level t begins. -/
def bt (p x y t : Int) : Int := if t ≤ 0 then 0 else if t = 1 then p else if t = 2 then p + x else if t = 3 then p + x + y else p + x + y + 1
/-- How many levels there are. -/
def top (x y : Int) : Int := if x = 1 then 2 else if y = 1 then 3 else 4
/-- The list of where levels begin, and where the last one ends. -/
def cl (p x y : Int) : List Int := if x = 1 then [0, p, p + x] else if y = 1 then [0, p, p + x, p + x + y] else [0, p, p + x, p + x + y, p + x + y + 1]
def nn (p x y : Int) : Int := bt p x y (top x y)
def lev (p x y i : Int) : Int := if i < 0 then -1 else if i < p then 0 else if i < p + x then 1 else if x = 1 then -1 else if i < p + x + y then 2 else if y = 1 then -1 else if i = p + x + y then 3 else -1
section
variable {p x y : Int} (h : Sh p x y)
include h
omit h in
theorem cl_len : ((cl p x y).length : Int) = top x y + 1 := by
  unfold cl top
  split
  · rfl
  · split <;> rfl
omit h in
theorem top_b : 2 ≤ top x y ∧ top x y ≤ 4 := by unfold top; split <;> (try split) <;> omega
theorem rd_cl {t : Int} (h0 : 0 ≤ t) (h1 : t ≤ top x y) : rd (cl p x y) t = bt p x y t := by
  have hb := h.xb
  unfold top at h1
  unfold cl
  split at h1
  · rename_i e; rw [if_pos e]
    have : t = 0 ∨ t = 1 ∨ t = 2 := by omega
    rcases this with rfl | rfl | rfl <;> rfl
  · rename_i e; rw [if_neg e]
    split at h1
    · rename_i e2; rw [if_pos e2]
      have : t = 0 ∨ t = 1 ∨ t = 2 ∨ t = 3 := by omega
      rcases this with rfl | rfl | rfl | rfl <;> rfl
    · rename_i e2; rw [if_neg e2]
      have : t = 0 ∨ t = 1 ∨ t = 2 ∨ t = 3 ∨ t = 4 := by omega
      rcases this with rfl | rfl | rfl | rfl | rfl <;> rfl
omit h in
theorem lev_b (i : Int) : -1 ≤ lev p x y i ∧ lev p x y i < top x y := by
  unfold lev top
  repeat' split
  all_goals omega
/-- The level of an item, by where levels begin. -/
theorem lev_iff {i t : Int} (h0 : 0 ≤ t) (h1 : t < top x y) : lev p x y i = t ↔ bt p x y t ≤ i ∧ i < bt p x y (t + 1) := by
  have hb := h.xb
  have q1 := h.p1
  have e0 : bt p x y 0 = 0 := rfl
  have e1 : bt p x y 1 = p := rfl
  have e2 : bt p x y 2 = p + x := rfl
  have e3 : bt p x y 3 = p + x + y := rfl
  have e4 : bt p x y 4 = p + x + y + 1 := rfl
  have e01 : bt p x y (0 + 1) = p := rfl
  have e12 : bt p x y (1 + 1) = p + x := rfl
  have e23 : bt p x y (2 + 1) = p + x + y := rfl
  have e34 : bt p x y (3 + 1) = p + x + y + 1 := rfl
  have ht : t = 0 ∨ t = 1 ∨ t = 2 ∨ t = 3 := by have := top_b (x := x) (y := y); omega
  by_cases ex : x = 1
  · have hl : lev p x y i = if i < 0 then -1 else if i < p then 0 else if i < p + x then 1 else -1 := by unfold lev; rw [if_pos ex]
    have h2 : t < 2 := by unfold top at h1; rw [if_pos ex] at h1; exact h1
    rw [hl]
    rcases ht with rfl | rfl | rfl | rfl
    · rw [e0, e01]; repeat' split
      all_goals (constructor <;> intro hh <;> omega)
    · rw [e1, e12]; repeat' split
      all_goals (constructor <;> intro hh <;> omega)
    · omega
    · omega
  · by_cases ey : y = 1
    · have hl : lev p x y i = if i < 0 then -1 else if i < p then 0 else if i < p + x then 1 else if i < p + x + y then 2 else -1 := by unfold lev; rw [if_neg ex, if_pos ey]
      have h2 : t < 3 := by unfold top at h1; rw [if_neg ex, if_pos ey] at h1; exact h1
      rw [hl]
      rcases ht with rfl | rfl | rfl | rfl
      · rw [e0, e01]; repeat' split
        all_goals (constructor <;> intro hh <;> omega)
      · rw [e1, e12]; repeat' split
        all_goals (constructor <;> intro hh <;> omega)
      · rw [e2, e23]; repeat' split
        all_goals (constructor <;> intro hh <;> omega)
      · omega
    · have hl : lev p x y i = if i < 0 then -1 else if i < p then 0 else if i < p + x then 1 else if i < p + x + y then 2 else if i = p + x + y then 3 else -1 := by unfold lev; rw [if_neg ex, if_neg ey]
      rw [hl]
      rcases ht with rfl | rfl | rfl | rfl
      · rw [e0, e01]; repeat' split
        all_goals (constructor <;> intro hh <;> omega)
      · rw [e1, e12]; repeat' split
        all_goals (constructor <;> intro hh <;> omega)
      · rw [e2, e23]; repeat' split
        all_goals (constructor <;> intro hh <;> omega)
      · rw [e3, e34]; repeat' split
        all_goals (constructor <;> intro hh <;> omega)
theorem bt_mono {s t : Int} (h0 : 0 ≤ s) (h1 : s < t) (h2 : t ≤ top x y) : bt p x y s < bt p x y t := by
  have hb := h.xb
  have q1 := h.p1
  have : (t = 1 ∨ t = 2 ∨ t = 3 ∨ t = 4) ∧ (s = 0 ∨ s = 1 ∨ s = 2 ∨ s = 3) := by have := top_b (x := x) (y := y); omega
  obtain ⟨ht, hs⟩ := this
  rcases ht with rfl | rfl | rfl | rfl <;> rcases hs with rfl | rfl | rfl | rfl <;> simp only [bt] <;> (first | omega | (simp; omega))
theorem bt_b (t : Int) : 0 ≤ bt p x y t ∧ bt p x y t ≤ 300 := by
  have hb := h.xb
  have q1 := h.p1
  have q2 := h.p2
  unfold bt
  repeat' split
  all_goals omega
theorem nn_eq : bt p x y (top x y - 1) + 1 = nn p x y := by
  have hb := h.xb
  unfold nn top bt
  repeat' split
  all_goals omega
/-- A level has a sixth of the one below it. -/
theorem bt_step {t : Int} (h0 : 1 ≤ t) (h1 : t < top x y) : bt p x y t - bt p x y (t - 1) ≤ 6 * (bt p x y (t + 1) - bt p x y t) ∧ 6 * (bt p x y (t + 1) - bt p x y t) ≤ bt p x y t - bt p x y (t - 1) + 5 := by
  have hb := h.xb
  have q1 := h.p1
  have q2 := h.p2
  have q3 := h.x1
  have q4 := h.x2
  have q5 := h.y1
  have q6 := h.y2
  have : t = 1 ∨ t = 2 ∨ t = 3 := by have := top_b (x := x) (y := y); omega
  unfold top at h1
  rcases this with rfl | rfl | rfl <;> simp only [bt] <;> (first | omega | (repeat' split at h1) <;> (first | omega | (simp; omega)))
theorem lev_no {i : Int} : lev p x y i < 0 ↔ i < 0 ∨ nn p x y ≤ i := by
  have hb := h.xb
  have q1 := h.p1
  unfold lev nn top bt
  repeat' split
  all_goals omega
theorem nn_b : 2 ≤ nn p x y ∧ nn p x y ≤ 300 := by
  have := nn_eq h
  have h1 := bt_mono h (s := 0) (t := top x y - 1) (by omega) (by have := top_b (x := x) (y := y); omega) (by omega)
  have h2 := bt_b h 0
  have h3 := bt_b h (top x y)
  unfold nn at *
  omega
end

/-! ### ranges -/
def rangeL (a : Int) : Nat → List Int
  | 0 => []
  | n + 1 => a :: rangeL (a + 1) n
theorem rangeL_len : ∀ (n : Nat) (a : Int), (rangeL a n).length = n := by
  intro n
  induction n with
  | zero => intro a; rfl
  | succ n ih => intro a; simp [rangeL, ih]
theorem rangeL_app : ∀ (n m : Nat) (a : Int), rangeL a n ++ rangeL (a + n) m = rangeL a (n + m) := by
  intro n
  induction n with
  | zero => intro m a; simp [rangeL]
  | succ n ih =>
    intro m a
    rw [show n + 1 + m = (n + m) + 1 from by omega]
    show a :: (rangeL (a + 1) n ++ rangeL (a + ((n + 1 : Nat) : Int)) m) = a :: rangeL (a + 1) (n + m)
    rw [show a + ((n + 1 : Nat) : Int) = a + 1 + n from by omega, ih]
theorem rangeL_snoc (n : Nat) (a : Int) : rangeL a n ++ [a + n] = rangeL a (n + 1) := rangeL_app n 1 a
theorem rangeL_mem : ∀ (n : Nat) (a m : Int), m ∈ rangeL a n ↔ a ≤ m ∧ m < a + n := by
  intro n
  induction n with
  | zero => intro a m; simp [rangeL]
  | succ n ih => intro a m; simp only [rangeL, List.mem_cons, ih]; omega
theorem rangeL_drop : ∀ (n j : Nat) (a : Int), (rangeL a n).drop j = rangeL (a + j) (n - j) := by
  intro n
  induction n with
  | zero => intro j a; simp [rangeL]
  | succ n ih =>
    intro j a
    cases j with
    | zero => simp [rangeL]
    | succ j =>
      show (rangeL (a + 1) n).drop j = _
      rw [ih, show n + 1 - (j + 1) = n - j from by omega, show a + 1 + (j : Int) = a + ((j + 1 : Nat) : Int) from by omega]
theorem rangeL_rd {n : Nat} {a j : Int} (h0 : 0 ≤ j) (h1 : j < n) : rd (rangeL a n) j = a + j := by
  have hl : j.toNat < (rangeL a n).length := by rw [rangeL_len]; omega
  have hd := rangeL_drop n j.toNat a
  rw [List.drop_eq_getElem_cons hl, show n - j.toNat = (n - j.toNat - 1) + 1 from by omega] at hd
  injection hd with h2 _
  unfold rd
  rw [List.getD_eq_getElem?_getD, List.getElem?_eq_getElem hl]
  simp only [Option.getD_some]
  rw [h2]; omega
theorem rd_drop {l : List Int} {i : Int} {n : Int} {r : List Int} (h0 : 0 ≤ i) (h : l.drop i.toNat = n :: r) : rd l i = n ∧ i < l.length ∧ l.drop (i + 1).toNat = r := by
  have hl : i.toNat < l.length := by
    rcases Nat.lt_or_ge i.toNat l.length with h1 | h1
    · exact h1
    · rw [List.drop_eq_nil_of_le h1] at h; cases h
  rw [List.drop_eq_getElem_cons hl] at h
  injection h with h1 h2
  refine ⟨?_, by omega, ?_⟩
  · unfold rd; rw [List.getD_eq_getElem?_getD, List.getElem?_eq_getElem hl]; exact h1
  · rw [show (i + 1).toNat = i.toNat + 1 from by omega]; exact h2
theorem drop_nil {l : List Int} {i : Int} (h0 : 0 ≤ i) (h : l.drop i.toNat = []) : ¬ i < l.length := by
  intro h1
  have := congrArg List.length h
  simp at this; omega

/-! ### children, parents, paths, pages under an item -/
def kfrom (p x y i : Int) : Int := bt p x y (lev p x y i - 1) + 6 * (i - bt p x y (lev p x y i))
def kmany (p x y i : Int) : Int := mn 6 (bt p x y (lev p x y i) - kfrom p x y i)
def kids (p x y i : Int) : List Int := if lev p x y i < 1 then [] else rangeL (kfrom p x y i) (kmany p x y i).toNat
def par (p x y i : Int) : Int × Int × Bool := if lev p x y i < 0 ∨ i = nn p x y - 1 then (0, 0, false) else (bt p x y (lev p x y i + 1) + (i - bt p x y (lev p x y i)) / 6, (i - bt p x y (lev p x y i)) % 6, true)
/-- A path upwards. -/
def chain (p x y : Int) : Nat → Int → List Int
  | 0, i => [i]
  | k + 1, i => if (par p x y i).2.2 then i :: chain p x y k (par p x y i).1 else [i]
section
variable {p x y : Int} (h : Sh p x y)
include h
theorem kids_b {i : Int} (h1 : 1 ≤ lev p x y i) : 1 ≤ kmany p x y i ∧ kmany p x y i ≤ 6 ∧ 0 ≤ kfrom p x y i ∧ kfrom p x y i + kmany p x y i ≤ bt p x y (lev p x y i) ∧ bt p x y (lev p x y i - 1) ≤ kfrom p x y i ∧ (kmany p x y i = 6 ∨ kfrom p x y i + kmany p x y i = bt p x y (lev p x y i)) ∧ bt p x y (lev p x y i) ≤ i := by
  have hl := lev_b (p := p) (x := x) (y := y) i
  obtain ⟨t, ht⟩ : ∃ t, t = lev p x y i := ⟨_, rfl⟩
  have hi := (lev_iff h (i := i) (t := t) (by omega) (by omega)).1 ht.symm
  have hs := bt_step h (t := t) (by omega) (by omega)
  have hb := bt_b h (t - 1)
  unfold kmany kfrom
  rw [← ht]
  unfold mn
  split <;> omega
/-- The parent of a child. -/
theorem kid_par {i k : Int} (h1 : 1 ≤ lev p x y i) : (kfrom p x y i ≤ k ∧ k < kfrom p x y i + kmany p x y i) ↔ (par p x y k).2.2 = true ∧ (par p x y k).1 = i := by
  have hl := lev_b (p := p) (x := x) (y := y) i
  have hk := kids_b h h1
  obtain ⟨t, ht⟩ : ∃ t, t = lev p x y i := ⟨_, rfl⟩
  have hi := (lev_iff h (i := i) (t := t) (by omega) (by omega)).1 ht.symm
  have hm1 := bt_mono h (s := t - 1) (t := t) (by omega) (by omega) (by omega)
  constructor
  · rintro ⟨a1, a2⟩
    have hkl : lev p x y k = t - 1 := (lev_iff h (by omega) (by omega)).2 ⟨by rw [ht]; omega, by rw [show t - 1 + 1 = t from by omega, ht]; omega⟩
    have hne : ¬ (lev p x y k < 0 ∨ k = nn p x y - 1) := by
      rw [hkl]
      have := nn_eq h
      have hm2 : bt p x y t ≤ bt p x y (top x y - 1) := by
        rcases Int.lt_or_le t (top x y - 1) with hlt | hge
        · exact Int.le_of_lt (bt_mono h (by omega) hlt (by omega))
        · rw [show t = top x y - 1 from by omega]
          exact Int.le_refl _
      rw [ht] at hm2
      omega
    unfold par
    rw [if_neg hne, hkl]
    refine ⟨rfl, ?_⟩
    simp only [show t - 1 + 1 = t from by omega]
    have hf : kfrom p x y i = bt p x y (t - 1) + 6 * (i - bt p x y t) := by unfold kfrom; rw [← ht]
    rw [hf] at a1 a2
    omega
  · rintro ⟨a1, a2⟩
    unfold par at a1 a2
    by_cases hc : lev p x y k < 0 ∨ k = nn p x y - 1
    · rw [if_pos hc] at a1; cases a1
    · rw [if_neg hc] at a2
      simp only at a2
      obtain ⟨s, hs⟩ : ∃ s, s = lev p x y k := ⟨_, rfl⟩
      have hls := lev_b (p := p) (x := x) (y := y) k
      have hki := (lev_iff h (i := k) (t := s) (by omega) (by omega)).1 hs.symm
      have hst : s + 1 < top x y := by
        rcases Int.lt_or_le (s + 1) (top x y) with h9 | h9
        · exact h9
        · have hn := nn_eq h
          have he : s = top x y - 1 := by omega
          have hnn : nn p x y = bt p x y (s + 1) := by unfold nn; rw [show s + 1 = top x y from by omega]
          rw [← he] at hn
          omega
      have hstep := bt_step h (t := s + 1) (by omega) hst
      rw [show s + 1 - 1 = s from by omega] at hstep
      rw [← hs] at a2
      have hil : lev p x y i = s + 1 := (lev_iff h (by omega) hst).2 ⟨by omega, by omega⟩
      have hts : t = s + 1 := by omega
      have hf : kfrom p x y i = bt p x y s + 6 * (i - bt p x y (s + 1)) := by unfold kfrom; rw [hil, show s + 1 - 1 = s from by omega]
      have hmm : kmany p x y i = mn 6 (bt p x y (s + 1) - kfrom p x y i) := by unfold kmany; rw [hil]
      rw [hmm, hf]
      unfold mn
      split <;> omega
theorem par_idx {i k : Int} (h1 : 1 ≤ lev p x y i) (hk : kfrom p x y i ≤ k ∧ k < kfrom p x y i + kmany p x y i) : par p x y k = (i, k - kfrom p x y i, true) := by
  have hp := (kid_par h h1).1 hk
  have hb := kids_b h h1
  have hl := lev_b (p := p) (x := x) (y := y) i
  obtain ⟨t, ht⟩ : ∃ t, t = lev p x y i := ⟨_, rfl⟩
  have hi := (lev_iff h (i := i) (t := t) (by omega) (by omega)).1 ht.symm
  have hkl : lev p x y k = t - 1 := (lev_iff h (by omega) (by omega)).2 ⟨by rw [ht]; omega, by rw [show t - 1 + 1 = t from by omega, ht]; omega⟩
  have hf : kfrom p x y i = bt p x y (t - 1) + 6 * (i - bt p x y t) := by unfold kfrom; rw [← ht]
  unfold par at hp ⊢
  by_cases hc : lev p x y k < 0 ∨ k = nn p x y - 1
  · rw [if_pos hc] at hp; cases hp.1
  · rw [if_neg hc] at hp ⊢
    rw [hkl] at hp ⊢
    have h2 := hp.2
    simp only [show t - 1 + 1 = t from by omega] at h2 ⊢
    rw [hf] at hk ⊢
    refine Prod.ext (by simp only; omega) (Prod.ext (by simp only; omega) rfl)
theorem par_lev {k : Int} (hk : (par p x y k).2.2 = true) : lev p x y (par p x y k).1 = lev p x y k + 1 ∧ 0 ≤ lev p x y k ∧ lev p x y k + 1 < top x y := by
  unfold par at hk ⊢
  by_cases hc : lev p x y k < 0 ∨ k = nn p x y - 1
  · rw [if_pos hc] at hk; cases hk
  · rw [if_neg hc] at hk ⊢
    obtain ⟨s, hs⟩ : ∃ s, s = lev p x y k := ⟨_, rfl⟩
    have hls := lev_b (p := p) (x := x) (y := y) k
    rw [← hs] at hc hls ⊢
    have hki := (lev_iff h (i := k) (t := s) (by omega) (by omega)).1 hs.symm
    have hst : s + 1 < top x y := by
      rcases Int.lt_or_le (s + 1) (top x y) with h9 | h9
      · exact h9
      · have hn := nn_eq h
        have he : s = top x y - 1 := by omega
        have hnn : nn p x y = bt p x y (s + 1) := by unfold nn; rw [show s + 1 = top x y from by omega]
        rw [← he] at hn
        omega
    have hstep := bt_step h (t := s + 1) (by omega) hst
    rw [show s + 1 - 1 = s from by omega] at hstep
    exact ⟨(lev_iff h (by omega) hst).2 ⟨by simp only; omega, by simp only; omega⟩, by omega, hst⟩
end
end Go.Proofs.Ythpmlhiilmaigaa.SA
