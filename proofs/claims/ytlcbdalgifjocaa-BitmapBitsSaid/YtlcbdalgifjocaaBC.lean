/- Plain lemmas on maps of places: bytes, their bits, lists of free places. No program. -/
import Derived.Test.YtlcbdalgifjocaaPBx0
import Derived.Lib.BitFns
namespace Go.Proofs.Ytlcbdalgifjocaa.BC
open Go.RowKit Go.Proofs.YtlcbdalgifjocaaW.PrintWords Go.Proofs.YtlcbdalgifjocaaW.PrintLast Go.Proofs.YtlcbdalgifjocaaW.PrintMore

/-- The bit j of e. -/
def bitAt (e : Int) (j : Nat) : Bool := e / 2 ^ j % 2 == 1
def setAt (e : Int) (j : Nat) : Int := if bitAt e j then e else e + 2 ^ j
def clrAt (e : Int) (j : Nat) : Int := if bitAt e j then e - 2 ^ j else e

theorem get_b0 : ∀ e : Fin 256, ∀ j : Fin 8, (Go.bits .and .u8 (shr .u8 (e.val : Int) (j.val : Int)) 1 == 1) = bitAt e.val j.val := by decide +kernel
theorem get_r0 : ∀ e : Fin 256, ∀ j : Fin 8, (Int.tmod (shr .u8 (e.val : Int) (j.val : Int)) 2 == 1) = bitAt e.val j.val := by decide +kernel
theorem or0 : ∀ e : Fin 256, ∀ j : Fin 8, Go.bits .or .u8 (e.val : Int) (shl .u8 1 (j.val : Int)) = setAt e.val j.val := by decide +kernel
theorem andNot0 : ∀ e : Fin 256, ∀ j : Fin 8, Go.bits .andNot .u8 (e.val : Int) (shl .u8 1 (j.val : Int)) = clrAt e.val j.val := by decide +kernel
theorem xor0 : ∀ e : Fin 256, ∀ j : Fin 8, Go.bits .xor .u8 (e.val : Int) (shl .u8 1 (j.val : Int)) = if bitAt e.val j.val then clrAt e.val j.val else setAt e.val j.val := by decide +kernel
theorem set_bit0 : ∀ e : Fin 256, ∀ j i : Fin 8, bitAt (setAt e.val j.val) i.val = (if i = j then true else bitAt e.val i.val) := by decide +kernel
theorem clr_bit0 : ∀ e : Fin 256, ∀ j i : Fin 8, bitAt (clrAt e.val j.val) i.val = (if i = j then false else bitAt e.val i.val) := by decide +kernel
theorem set_rng0 : ∀ e : Fin 256, ∀ j : Fin 8, 0 ≤ setAt e.val j.val ∧ setAt e.val j.val ≤ 255 := by decide +kernel
theorem clr_rng0 : ∀ e : Fin 256, ∀ j : Fin 8, 0 ≤ clrAt e.val j.val ∧ clrAt e.val j.val ≤ 255 := by decide +kernel
def ofBits (b0 b1 b2 b3 b4 b5 b6 b7 : Bool) : Int := (if b0 then 1 else 0) + (if b1 then 2 else 0) + (if b2 then 4 else 0) + (if b3 then 8 else 0) + (if b4 then 16 else 0) + (if b5 then 32 else 0) + (if b6 then 64 else 0) + (if b7 then 128 else 0)
theorem byte_of0 : ∀ e : Fin 256, (e.val : Int) = ofBits (bitAt e.val 0) (bitAt e.val 1) (bitAt e.val 2) (bitAt e.val 3) (bitAt e.val 4) (bitAt e.val 5) (bitAt e.val 6) (bitAt e.val 7) := by decide +kernel
def bn (b : Bool) : Nat := if b then 1 else 0
theorem ones0 : ∀ e : Fin 256, Lib.onesCount e.val = bn (bitAt e.val 0) + bn (bitAt e.val 1) + bn (bitAt e.val 2) + bn (bitAt e.val 3) + bn (bitAt e.val 4) + bn (bitAt e.val 5) + bn (bitAt e.val 6) + bn (bitAt e.val 7) := by decide +kernel
theorem shr0 : ∀ e : Fin 256, ∀ j : Fin 8, (shr .u8 (e.val : Int) (j.val : Int) == 0) = decide (∀ i : Fin 8, j ≤ i → bitAt e.val i.val = false) := by decide +kernel
theorem bit_zero0 : ∀ j : Fin 8, bitAt 0 j.val = false := by decide +kernel

section
variable {e j : Int} (h0 : 0 ≤ e) (h1 : e ≤ 255) (j0 : 0 ≤ j) (j1 : j < 8)
include h0 h1 j0 j1
theorem fins : ∃ (a : Fin 256) (b : Fin 8), (a.val : Int) = e ∧ (b.val : Int) = j ∧ b.val = j.toNat :=
  ⟨⟨e.toNat, by omega⟩, ⟨j.toNat, by omega⟩, by simp; omega, by simp; omega, rfl⟩
theorem get_b : (Go.bits .and .u8 (shr .u8 e j) 1 == 1) = bitAt e j.toNat := by
  obtain ⟨a, b, rfl, rfl, hb⟩ := fins h0 h1 j0 j1
  rw [← hb]; exact get_b0 a b
theorem get_r : (Int.tmod (shr .u8 e j) 2 == 1) = bitAt e j.toNat := by
  obtain ⟨a, b, rfl, rfl, hb⟩ := fins h0 h1 j0 j1
  rw [← hb]; exact get_r0 a b
theorem or_e : Go.bits .or .u8 e (shl .u8 1 j) = setAt e j.toNat := by
  obtain ⟨a, b, rfl, rfl, hb⟩ := fins h0 h1 j0 j1
  rw [← hb]; exact or0 a b
theorem andNot_e : Go.bits .andNot .u8 e (shl .u8 1 j) = clrAt e j.toNat := by
  obtain ⟨a, b, rfl, rfl, hb⟩ := fins h0 h1 j0 j1
  rw [← hb]; exact andNot0 a b
theorem xor_e : Go.bits .xor .u8 e (shl .u8 1 j) = if bitAt e j.toNat then clrAt e j.toNat else setAt e j.toNat := by
  obtain ⟨a, b, rfl, rfl, hb⟩ := fins h0 h1 j0 j1
  rw [← hb]; exact xor0 a b
theorem shr_e : (shr .u8 e j == 0) = decide (∀ i : Fin 8, j.toNat ≤ i.val → bitAt e i.val = false) := by
  obtain ⟨a, b, rfl, rfl, hb⟩ := fins h0 h1 j0 j1
  rw [← hb, shr0 a b]; rfl
end
theorem set_bit {e : Int} (h0 : 0 ≤ e) (h1 : e ≤ 255) {j i : Nat} (hj : j < 8) (hi : i < 8) : bitAt (setAt e j) i = (if i = j then true else bitAt e i) := by
  have := set_bit0 ⟨e.toNat, by omega⟩ ⟨j, hj⟩ ⟨i, hi⟩
  simp only [Int.toNat_of_nonneg h0, Fin.mk.injEq] at this
  exact this
theorem clr_bit {e : Int} (h0 : 0 ≤ e) (h1 : e ≤ 255) {j i : Nat} (hj : j < 8) (hi : i < 8) : bitAt (clrAt e j) i = (if i = j then false else bitAt e i) := by
  have := clr_bit0 ⟨e.toNat, by omega⟩ ⟨j, hj⟩ ⟨i, hi⟩
  simp only [Int.toNat_of_nonneg h0, Fin.mk.injEq] at this
  exact this
theorem set_rng {e : Int} (h0 : 0 ≤ e) (h1 : e ≤ 255) {j : Nat} (hj : j < 8) : 0 ≤ setAt e j ∧ setAt e j ≤ 255 := by
  have := set_rng0 ⟨e.toNat, by omega⟩ ⟨j, hj⟩
  simpa only [Int.toNat_of_nonneg h0] using this
theorem clr_rng {e : Int} (h0 : 0 ≤ e) (h1 : e ≤ 255) {j : Nat} (hj : j < 8) : 0 ≤ clrAt e j ∧ clrAt e j ≤ 255 := by
  have := clr_rng0 ⟨e.toNat, by omega⟩ ⟨j, hj⟩
  simpa only [Int.toNat_of_nonneg h0] using this
theorem byte_ext {a b : Int} (a0 : 0 ≤ a) (a1 : a ≤ 255) (b0 : 0 ≤ b) (b1 : b ≤ 255) (h : ∀ j, j < 8 → bitAt a j = bitAt b j) : a = b := by
  have ha := byte_of0 ⟨a.toNat, by omega⟩
  have hb := byte_of0 ⟨b.toNat, by omega⟩
  simp only [Int.toNat_of_nonneg a0] at ha
  simp only [Int.toNat_of_nonneg b0] at hb
  rw [ha, hb, h 0 (by omega), h 1 (by omega), h 2 (by omega), h 3 (by omega), h 4 (by omega), h 5 (by omega), h 6 (by omega), h 7 (by omega)]

/-! ### maps -/
/-- x is a short list of bytes. -/
def By (x : List Int) : Prop := x.length ≤ 4096 ∧ ∀ e ∈ x, 0 ≤ e ∧ e ≤ 255
/-- Is the place n taken? -/
def gB (x : List Int) (n : Int) : Bool := decide (0 ≤ n) && decide (n / 8 < x.length) && bitAt (rd x (n / 8)) (n % 8).toNat
/-- The map with n taken, or not. -/
def upd (x : List Int) (n : Int) (b : Bool) : List Int := x.set (n / 8).toNat (if b then setAt (rd x (n / 8)) (n % 8).toNat else clrAt (rd x (n / 8)) (n % 8).toNat)
/-- A place of the map. -/
def Ok (x : List Int) (n : Int) : Prop := 0 ≤ n ∧ n / 8 < x.length

theorem rd_rng {x : List Int} (hx : By x) {i : Int} (h0 : 0 ≤ i) (h1 : i < x.length) : 0 ≤ rd x i ∧ rd x i ≤ 255 := by
  have hl : i.toNat < x.length := by omega
  unfold rd
  rw [List.getD_eq_getElem?_getD, List.getElem?_eq_getElem hl]
  exact hx.2 _ (List.getElem_mem hl)
theorem rd_set {x : List Int} {i j : Int} (hi0 : 0 ≤ i) (hi : i < x.length) (hj0 : 0 ≤ j) (v : Int) : rd (x.set i.toNat v) j = if j = i then v else rd x j := by
  unfold rd
  rw [List.getD_eq_getElem?_getD, List.getD_eq_getElem?_getD, List.getElem?_set]
  by_cases h : j = i
  · subst h; rw [if_pos rfl, if_pos rfl, if_pos (by omega)]; rfl
  · rw [if_neg (by omega), if_neg h]
theorem upd_length (x : List Int) (n : Int) (b : Bool) : (upd x n b).length = x.length := by simp [upd]
theorem upd_By {x : List Int} (hx : By x) {n : Int} (hn : Ok x n) (b : Bool) : By (upd x n b) := by
  refine ⟨by rw [upd_length]; exact hx.1, fun e he => ?_⟩
  have hr := rd_rng hx (i := n / 8) (by have := hn.1; omega) hn.2
  rcases List.mem_or_eq_of_mem_set he with h | h
  · exact hx.2 e h
  · subst h
    cases b
    · exact clr_rng hr.1 hr.2 (by omega)
    · exact set_rng hr.1 hr.2 (by omega)
theorem gB_upd {x : List Int} (hx : By x) {n : Int} (hn : Ok x n) (b : Bool) (m : Int) : gB (upd x n b) m = if m = n then b else gB x m := by
  have hr := rd_rng hx (i := n / 8) (by have := hn.1; omega) hn.2
  have h0 := hn.1
  have h1 := hn.2
  unfold gB
  rw [upd_length]
  by_cases hm0 : 0 ≤ m
  · by_cases hm1 : m / 8 < x.length
    · simp only [hm0, hm1, decide_true, Bool.true_and]
      unfold upd
      rw [rd_set (by omega) hn.2 (by omega)]
      by_cases hq : m / 8 = n / 8
      · rw [if_pos hq, hq]
        cases b
        · simp only [Bool.false_eq_true, if_false]
          rw [clr_bit hr.1 hr.2 (by omega) (by omega)]
          by_cases hmn : m = n
          · rw [if_pos hmn, if_pos (by rw [hmn])]
          · rw [if_neg hmn, if_neg (by omega)]
        · simp only [if_true]
          rw [set_bit hr.1 hr.2 (by omega) (by omega)]
          by_cases hmn : m = n
          · rw [if_pos hmn, if_pos (by rw [hmn])]
          · rw [if_neg hmn, if_neg (by omega)]
      · rw [if_neg hq, if_neg (by rintro rfl; exact hq rfl)]
    · rw [if_neg (by rintro rfl; exact hm1 h1)]
      simp [hm1]
  · rw [if_neg (by rintro rfl; exact hm0 h0)]
    simp [hm0]
theorem gB_ok {x : List Int} {n : Int} (h : gB x n = true) : Ok x n := by
  simp only [gB, Bool.and_eq_true, decide_eq_true_eq] at h
  exact h.1
theorem map_ext {x y : List Int} (hx : By x) (hy : By y) (hl : x.length = y.length) (h : ∀ n, Ok x n → gB x n = gB y n) : x = y := by
  apply List.ext_getElem hl
  intro i h1 h2
  have e1 := hx.2 _ (List.getElem_mem h1)
  have e2 := hy.2 _ (List.getElem_mem h2)
  apply byte_ext e1.1 e1.2 e2.1 e2.2
  intro j hj
  have hq : ((8 * i + j : Nat) : Int) / 8 = i := by omega
  have hm : (((8 * i + j : Nat) : Int) % 8).toNat = j := by omega
  have hg := h ((8 * i + j : Nat) : Int) ⟨by omega, by omega⟩
  simp only [gB, hq, hm, rd, Int.toNat_natCast, List.getD_eq_getElem?_getD, List.getElem?_eq_getElem h1, List.getElem?_eq_getElem h2, Option.getD_some] at hg
  have i0 : (0 : Int) ≤ ((8 * i + j : Nat) : Int) := by omega
  have i1 : (i : Int) < x.length := by omega
  have i2 : (i : Int) < y.length := by omega
  simpa only [i0, i1, i2, decide_true, Bool.true_and] using hg
theorem upd_self {x : List Int} (hx : By x) {n : Int} (hn : Ok x n) {b : Bool} (h : gB x n = b) : upd x n b = x := by
  apply map_ext (upd_By hx hn b) hx (upd_length _ _ _)
  intro m _
  rw [gB_upd hx hn]
  split
  · rename_i e; rw [e, h]
  · rfl

/-! ### free places -/
/-- The places from a on, d of them, that are free. -/
def frees (x : List Int) (a : Int) : Nat → List Int
  | 0 => []
  | d + 1 => if gB x a then frees x (a + 1) d else a :: frees x (a + 1) d
theorem frees_mem {x : List Int} {d : Nat} : ∀ {a m : Int}, m ∈ frees x a d ↔ a ≤ m ∧ m < a + d ∧ gB x m = false := by
  induction d with
  | zero => intro a m; simp [frees]; omega
  | succ d ih =>
    intro a m
    unfold frees
    cases hg : gB x a
    · simp only [Bool.false_eq_true, if_false, List.mem_cons, ih]
      constructor
      · rintro (rfl | ⟨h1, h2, h3⟩)
        · exact ⟨by omega, by omega, hg⟩
        · exact ⟨by omega, by omega, h3⟩
      · rintro ⟨h1, h2, h3⟩
        by_cases e : m = a
        · exact .inl e
        · exact .inr ⟨by omega, by omega, h3⟩
    · simp only [if_true, ih]
      constructor
      · rintro ⟨h1, h2, h3⟩; exact ⟨by omega, by omega, h3⟩
      · rintro ⟨h1, h2, h3⟩
        refine ⟨?_, by omega, h3⟩
        by_cases e : m = a
        · rw [e, hg] at h3; cases h3
        · omega
theorem frees_sorted {x : List Int} {d : Nat} : ∀ {a : Int}, (frees x a d).Pairwise (· < ·) := by
  induction d with
  | zero => intro a; exact List.Pairwise.nil
  | succ d ih =>
    intro a
    unfold frees
    split
    · exact ih
    · refine List.Pairwise.cons ?_ ih
      intro m hm
      have := (frees_mem.1 hm).1
      omega
theorem frees_len_le {x : List Int} {d : Nat} : ∀ {a : Int}, (frees x a d).length ≤ d := by
  induction d with
  | zero => intro a; simp [frees]
  | succ d ih =>
    intro a
    unfold frees
    have := ih (a := a + 1)
    split
    · omega
    · simp only [List.length_cons]; omega
/-- A place is taken: it leaves the list. -/
theorem frees_upd {x : List Int} (hx : By x) {n : Int} (hn : Ok x n) {d : Nat} : ∀ {a : Int}, frees (upd x n true) a d = (frees x a d).filter (fun m => m != n) := by
  induction d with
  | zero => intro a; rfl
  | succ d ih =>
    intro a
    unfold frees
    rw [gB_upd hx hn, ih]
    by_cases e : a = n
    · subst e
      rw [if_pos rfl, if_pos rfl]
      split
      · rfl
      · simp
    · rw [if_neg e]
      split
      · rfl
      · rw [List.filter_cons_of_pos (by simpa using e)]
theorem filter_head {n : Int} {l : List Int} (h : (n :: l).Pairwise (· < ·)) : (n :: l).filter (fun m => m != n) = l := by
  rw [List.filter_cons_of_neg (by simp)]
  apply List.filter_eq_self.2
  intro m hm
  have := List.rel_of_pairwise_cons h hm
  simp; omega
/-- The head is taken. -/
theorem frees_take_head {x : List Int} (hx : By x) {n : Int} (hn : Ok x n) {d : Nat} {a : Int} {l : List Int} (h : frees x a d = n :: l) : frees (upd x n true) a d = l := by
  rw [frees_upd hx hn, h]
  exact filter_head (by rw [← h]; exact frees_sorted)
/-- How many places are taken. -/
def cnt (x : List Int) : Nat := 8 * x.length - (frees x 0 (8 * x.length)).length
theorem filter_len {n : Int} {l : List Int} (h : l.Pairwise (· < ·)) (hm : n ∈ l) : (l.filter (fun m => m != n)).length + 1 = l.length := by
  induction l with
  | nil => cases hm
  | cons a l ih =>
    by_cases e : a = n
    · subst e; rw [filter_head h]; rfl
    · rw [List.filter_cons_of_pos (by simpa using e)]
      have := ih h.of_cons (by rcases List.mem_cons.1 hm with h1 | h1; exact absurd h1.symm e; exact h1)
      simp only [List.length_cons]; omega
theorem cnt_upd {x : List Int} (hx : By x) {n : Int} (hn : Ok x n) (hf : gB x n = false) : cnt (upd x n true) = cnt x + 1 := by
  unfold cnt
  rw [upd_length, frees_upd hx hn]
  have hm : n ∈ frees x 0 (8 * x.length) := frees_mem.2 ⟨hn.1, by have := hn.2; omega, hf⟩
  have h1 := filter_len frees_sorted hm
  have h2 := frees_len_le (x := x) (d := 8 * x.length) (a := 0)
  omega
end Go.Proofs.Ytlcbdalgifjocaa.BC
