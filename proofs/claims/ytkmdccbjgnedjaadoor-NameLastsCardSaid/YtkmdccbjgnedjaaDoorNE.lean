/- The plain law: paths that are split and joined; what is clean stays so. -/
import Derived.Test.YtkmdccbjgnedjaaDoorND
namespace Go.Proofs.YtkmdccbjgnedjaaDoor.ND
open Go.RowKit Go.Proofs.YtkmdccbjgnedjaaDoor.PN Go.Proofs.YtkmdccbjgnedjaaDoor.NB Go.Proofs.YtkmdccbjgnedjaaDoorW.PrintWords
set_option linter.unusedVariables false
set_option linter.unusedSimpArgs false
/-! ### alive -/
theorem alive_ev : Ev (fun k => carlinglaw24_alive.f k) true := by
  have h1 := name_clean (⟨#[47, 97, 47, 46, 46, 47, 46, 46, 47, 98]⟩ : ByteArray)
  have h2 := name_split (⟨#[47, 97, 47, 47, 46, 47, 98]⟩ : ByteArray)
  have e1 : cleanR (⟨#[47, 97, 47, 46, 46, 47, 46, 46, 47, 98]⟩ : ByteArray) = ((⟨#[47, 98]⟩ : ByteArray), 0) := by decide +kernel
  have e2 : splitR (⟨#[47, 97, 47, 47, 46, 47, 98]⟩ : ByteArray) = ([(⟨#[97]⟩ : ByteArray), (⟨#[98]⟩ : ByteArray)], true, 0) := by decide +kernel
  have e3 : name_May.f (⟨#[46, 46]⟩ : ByteArray) = some 1 := by decide +kernel
  have e4 : name_Slash.f (⟨#[97, 47]⟩ : ByteArray) = some true := by
    unfold name_Slash.f strings_HasSuffix.f stringslite_HasSuffix.f
    simp only [toL]
    decide +kernel
  rw [e1] at h1
  rw [e2] at h2
  refine Ev.bind (h := fun k bt133 => (name_Split.f k (⟨#[47, 97, 47, 47, 46, 47, 98]⟩ : ByteArray)).bind fun bt135 => _) h1 (Ev.bind (h := fun k bt135 => _) h2 (Ev.congr (fun k => ?_) (Ev.now true)))
  have e0 : (⟨#[47, 98]⟩ : ByteArray).toList = ([47, 98] : List UInt8) := toList_eq.2 rfl
  refine (if_pos e0).trans ?_
  refine (if_pos rfl).trans ?_
  refine (if_pos (show (((2 : Nat) : Int) = 2) from rfl)).trans ?_
  refine (if_pos rfl).trans ?_
  refine (if_pos rfl).trans ?_
  rw [e3, Option.bind_some, if_pos rfl, e4, Option.bind_some]
theorem alive_bind : Ev (fun k => (carlinglaw24_alive.f k).bind fun t => some t) true := Ev.bind (h := fun _ t => some t) alive_ev (Ev.now true)
/-! ### lengths -/
def T (xs : List (List UInt8)) : Nat := (xs.map (fun p => p.length + 1)).sum
theorem T_cons (p : List UInt8) (r : List (List UInt8)) : T (p :: r) = p.length + 1 + T r := by simp [T]
theorem T_append (a b : List (List UInt8)) : T (a ++ b) = T a + T b := by simp [T]
theorem T_filter (f : List UInt8 → Bool) : ∀ xs : List (List UInt8), T (xs.filter f) ≤ T xs
  | [] => Nat.le_refl _
  | p :: r => by
    have ih := T_filter f r
    rw [List.filter_cons]
    split
    · rw [T_cons, T_cons]; omega
    · rw [T_cons]; omega
theorem T_cuts : ∀ l : List UInt8, T (cuts l) = l.length + 1
  | [] => rfl
  | b :: t => by
    have ih := T_cuts t
    obtain ⟨h, r, hc⟩ := cuts_cons t
    rw [hc, T_cons] at ih
    unfold cuts
    by_cases hb : b = 47
    · rw [if_pos hb, hc, T_cons, T_cons]
      simp only [List.length_cons, List.length_nil]
      omega
    · rw [if_neg hb, hc]
      show T ((b :: h) :: r) = _
      rw [T_cons]
      simp only [List.length_cons]
      omega
theorem J_one (x : List UInt8) : J [x] = x := Lib.join_one x [47]
theorem J_two (x y : List UInt8) (r : List (List UInt8)) : J (x :: y :: r) = x ++ 47 :: J (y :: r) := by
  unfold J
  rw [Lib.join_cons, Lib.join_cons]
  simp [Lib.joinTail]
theorem T_J : ∀ xs : List (List UInt8), xs ≠ [] → (J xs).length + 1 = T xs
  | [], h => absurd rfl h
  | [x], _ => by rw [J_one]; simp [T]
  | x :: y :: r, _ => by
    have ih := T_J (y :: r) (by simp)
    rw [J_two, T_cons, List.length_append, List.length_cons]
    omega
/-! ### what is cut -/
theorem cuts_mem : ∀ (l : List UInt8) (p : List UInt8), p ∈ cuts l → (47 : UInt8) ∉ p ∧ ∀ b ∈ p, b ∈ l
  | [], p, h => by
    have : p = [] := by simpa [cuts] using h
    subst this
    exact ⟨by simp, by simp⟩
  | b :: t, p, h => by
    obtain ⟨c, r, hc⟩ := cuts_cons t
    have ih := fun q (hq : q ∈ cuts t) => cuts_mem t q hq
    unfold cuts at h
    by_cases hb : b = 47
    · rw [if_pos hb] at h
      rcases List.mem_cons.1 h with rfl | h
      · exact ⟨by simp, by simp⟩
      · exact ⟨(ih p h).1, fun x hx => List.mem_cons_of_mem _ ((ih p h).2 x hx)⟩
    · rw [if_neg hb, hc] at h
      have h' : p ∈ (b :: c) :: r := h
      rcases List.mem_cons.1 h' with rfl | h
      · have hcm := ih c (by rw [hc]; exact List.mem_cons_self ..)
        refine ⟨fun hm => ?_, fun x hx => ?_⟩
        · rcases List.mem_cons.1 hm with e | e
          · exact hb e.symm
          · exact hcm.1 e
        · rcases List.mem_cons.1 hx with e | e
          · exact e ▸ List.mem_cons_self ..
          · exact List.mem_cons_of_mem _ (hcm.2 x e)
      · have hrm := ih p (by rw [hc]; exact List.mem_cons_of_mem _ h)
        exact ⟨hrm.1, fun x hx => List.mem_cons_of_mem _ (hrm.2 x hx)⟩
theorem cuts_plain : ∀ x : List UInt8, (47 : UInt8) ∉ x → cuts x = [x]
  | [], _ => rfl
  | b :: t, h => by
    unfold cuts
    rw [if_neg (show ¬ b = 47 from fun e => h (e ▸ List.mem_cons_self ..)), cuts_plain t (fun hm => h (List.mem_cons_of_mem _ hm))]
theorem cuts_app : ∀ (x l : List UInt8), (47 : UInt8) ∉ x → cuts (x ++ 47 :: l) = x :: cuts l
  | [], l, _ => by
    show cuts (47 :: l) = _
    rw [cuts, if_pos rfl]
  | b :: t, l, h => by
    show cuts (b :: (t ++ 47 :: l)) = _
    rw [cuts, if_neg (show ¬ b = 47 from fun e => h (e ▸ List.mem_cons_self ..)), cuts_app t l (fun hm => h (List.mem_cons_of_mem _ hm))]
theorem cuts_J : ∀ xs : List (List UInt8), xs ≠ [] → (∀ p ∈ xs, (47 : UInt8) ∉ p) → cuts (J xs) = xs
  | [], h, _ => absurd rfl h
  | [x], _, h => by rw [J_one, cuts_plain x (h x (List.mem_cons_self ..))]
  | x :: y :: r, _, h => by
    rw [J_two, cuts_app _ _ (h x (List.mem_cons_self ..)), cuts_J (y :: r) (by simp) (fun p hp => h p (List.mem_cons_of_mem _ hp))]
theorem J_mem : ∀ (xs : List (List UInt8)) (b : UInt8), b ∈ J xs → b = 47 ∨ ∃ p ∈ xs, b ∈ p
  | [], b, h => by cases h
  | [x], b, h => by rw [J_one] at h; exact .inr ⟨x, List.mem_cons_self .., h⟩
  | x :: y :: r, b, h => by
    rw [J_two] at h
    rcases List.mem_append.1 h with h | h
    · exact .inr ⟨x, List.mem_cons_self .., h⟩
    · rcases List.mem_cons.1 h with h | h
      · exact .inl h
      · rcases J_mem (y :: r) b h with h | ⟨p, hp, hb⟩
        · exact .inl h
        · exact .inr ⟨p, List.mem_cons_of_mem _ hp, hb⟩
/-- A part of a path. -/
structure Good (p : List UInt8) : Prop where
  ne : p ≠ []
  nd : p ≠ [46]
  ns : (47 : UInt8) ∉ p
  nz : (0 : UInt8) ∉ p
  le : p.length ≤ 24
theorem Good.keep {p : List UInt8} (h : Good p) : keep p = true := by
  unfold ND.keep
  rw [beq_eq_false_iff_ne.2 h.ne, beq_eq_false_iff_ne.2 h.nd]
  rfl
theorem keep_ne {p : List UInt8} (h : keep p = true) : p ≠ [] ∧ p ≠ [46] := by
  unfold keep at h
  constructor
  · rintro rfl; cases h
  · rintro rfl; cases h
theorem filter_good {xs : List (List UInt8)} (h : ∀ p ∈ xs, Good p) : xs.filter keep = xs := List.filter_eq_self.2 (fun p hp => (h p hp).keep)
theorem any_good {xs : List (List UInt8)} (h : ∀ p ∈ xs, Good p) : xs.any (fun p => decide (24 < p.length)) = false := by
  rw [List.any_eq_false]
  intro p hp
  have := (h p hp).le
  simp only [decide_eq_true_eq]
  omega
/-- What was joined is split again. -/
theorem split_join (xs : List (List UInt8)) (ab : Bool) (hn : xs ≠ []) (hg : ∀ p ∈ xs, Good p) (hl : (joinL xs ab).length ≤ 200) : splitR (NB.bytes (joinL xs ab)) = (xs.map NB.bytes, ab, 0) := by
  have hz : (0 : UInt8) ∉ J xs := fun h => by
    rcases J_mem xs 0 h with h | ⟨p, hp, hb⟩
    · cases h
    · exact (hg p hp).nz hb
  have hj : J xs ≠ [] := fun h => by
    have := T_J xs hn
    rw [h] at this
    cases xs with
    | nil => exact hn rfl
    | cons p r =>
      rw [T_cons] at this
      have hp := (hg p (List.mem_cons_self ..)).ne
      have := List.length_pos_iff.2 hp
      simp only [List.length_nil] at *
      omega
  have hc := cuts_J xs hn (fun p hp => (hg p hp).ns)
  have hh : (J xs).head? ≠ some 47 := fun h => by
    cases xs with
    | nil => exact hn rfl
    | cons p r =>
      have hp := hg p (List.mem_cons_self ..)
      cases p with
      | nil => exact hp.ne rfl
      | cons b t =>
        have hb : (J ((b :: t) :: r)).head? = some b := by
          cases r with
          | nil => rw [J_one]; rfl
          | cons y r => rw [J_two]; rfl
        rw [hb] at h
        injection h with h
        exact hp.ns (h ▸ List.mem_cons_self ..)
  unfold splitR
  rw [L_bytes]
  rw [if_neg (by omega)]
  unfold joinL at hl ⊢
  cases ab with
  | true =>
    rw [if_pos rfl] at hl ⊢
    have hc2 : cuts (47 :: J xs) = [] :: xs := by rw [cuts, if_pos rfl, hc]
    have hz2 : (47 :: J xs).contains (0 : UInt8) = false := by
      rw [Bool.eq_false_iff, Ne, List.contains_iff_mem]
      intro h
      rcases List.mem_cons.1 h with h | h
      · cases h
      · exact hz h
    rw [if_neg (by rintro (h | h); cases h; rw [hz2] at h; cases h), hc2]
    have ha : ([] :: xs).any (fun p => decide (24 < p.length)) = false := by rw [List.any_cons, any_good hg]; rfl
    rw [ha, if_neg (by decide)]
    unfold parts
    rw [hc2]
    have hf : ([] :: xs).filter keep = xs := by rw [List.filter_cons, if_neg (by decide), filter_good hg]
    rw [hf]
    rfl
  | false =>
    simp only [Bool.false_eq_true, if_false] at hl ⊢
    have hz2 : (J xs).contains (0 : UInt8) = false := by rw [Bool.eq_false_iff, Ne, List.contains_iff_mem]; exact hz
    rw [if_neg (by rintro (h | h); exact hj h; rw [hz2] at h; cases h), hc, any_good hg, if_neg (by decide)]
    unfold parts
    rw [hc, filter_good hg, beq_eq_false_iff_ne.2 hh]
/-- What a path that is split is like. -/
theorem split_ok (s : ByteArray) (h : (splitR s).2.2 = 0) : ∃ xs ab, splitR s = (xs.map NB.bytes, ab, 0) ∧ (∀ p ∈ xs, Good p) ∧ (if ab = true then T xs ≤ 200 else T xs ≤ 201) := by
  unfold splitR at h ⊢
  by_cases h1 : 200 < (L s).length
  · rw [if_pos h1] at h; cases h
  · rw [if_neg h1] at h ⊢
    by_cases h2 : L s = [] ∨ (L s).contains 0 = true
    · rw [if_pos h2] at h; cases h
    · rw [if_neg h2] at h ⊢
      by_cases h3 : (cuts (L s)).any (fun p => decide (24 < p.length)) = true
      · rw [if_pos h3] at h; cases h
      · rw [if_neg h3] at h ⊢
        refine ⟨parts (L s), _, rfl, fun p hp => ?_, ?_⟩
        · obtain ⟨hm, hk⟩ := List.mem_filter.1 hp
          obtain ⟨k1, k2⟩ := keep_ne hk
          obtain ⟨m1, m2⟩ := cuts_mem _ _ hm
          refine ⟨k1, k2, m1, fun hz => h2 (.inr (List.contains_iff_mem.2 (m2 0 hz))), ?_⟩
          rcases Nat.lt_or_ge 24 p.length with h6 | h6
          · exact absurd (List.any_eq_true.2 ⟨p, hm, decide_eq_true h6⟩) h3
          · exact h6
        · cases hl : L s with
          | nil => exact absurd (.inl hl) h2
          | cons b t =>
            rw [hl] at h1
            simp only [List.length_cons] at h1
            by_cases hb : b = 47
            · subst hb
              rw [if_pos (by rfl)]
              have hp : parts (47 :: t) = (cuts t).filter keep := by
                unfold parts
                rw [cuts, if_pos rfl, List.filter_cons, if_neg (by decide)]
              rw [hp]
              have := T_filter keep (cuts t)
              rw [T_cuts] at this
              omega
            · rw [if_neg (by simpa using hb)]
              have := T_filter keep (cuts (b :: t))
              rw [T_cuts] at this
              simp only [List.length_cons] at this
              unfold parts
              omega
theorem split_err (s : ByteArray) (h : (splitR s).2.2 ≠ 0) : (splitR s).1 = [] ∧ (splitR s).2.1 = false ∧ ((splitR s).2.2 = 15 ∨ (splitR s).2.2 = 1) := by
  unfold splitR at h ⊢
  split
  · exact ⟨rfl, rfl, .inl rfl⟩
  · split
    · exact ⟨rfl, rfl, .inr rfl⟩
    · split
      · exact ⟨rfl, rfl, .inl rfl⟩
      · rename_i h1 h2 h3
        rw [if_neg h1, if_neg h2, if_neg h3] at h
        exact absurd rfl h
theorem joinL_len (xs : List (List UInt8)) (ab : Bool) (hn : xs ≠ []) (h : if ab = true then T xs ≤ 200 else T xs ≤ 201) : (joinL xs ab).length ≤ 200 := by
  have := T_J xs hn
  unfold joinL
  cases ab with
  | true =>
    rw [if_pos rfl] at h ⊢
    simp only [List.length_cons]
    omega
  | false =>
    rw [if_neg (by decide)] at h ⊢
    omega
end Go.Proofs.YtkmdccbjgnedjaaDoor.ND
