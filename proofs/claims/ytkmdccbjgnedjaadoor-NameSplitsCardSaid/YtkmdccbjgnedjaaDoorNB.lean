/- What the library's functions tell at this program's needs: Contains, Split, Join, Clone; a name, by its runes. -/
import Derived.Test.YtkmdccbjgnedjaaDoorNA
import Derived.Test.YtkmdccbjgnedjaaDoorWMore
import Derived.Lib.IndexBytes
import Derived.Laws.RangeAny
import Derived.Lib.RuneCount
import Derived.Deep.LoopGhost
import Derived.LoopTactic
namespace Go.Proofs.YtkmdccbjgnedjaaDoor.NB
open Go.RowKit Go.Proofs.YtkmdccbjgnedjaaDoorW.PrintWords Go.Proofs.YtkmdccbjgnedjaaDoorW.PrintLast Go.Proofs.YtkmdccbjgnedjaaDoorW.PrintMore
set_option linter.unusedVariables false
set_option linter.unusedSimpArgs false
/-- The texts between slashes. -/
def cuts : List UInt8 → List (List UInt8)
  | [] => [[]]
  | b :: t => if b = 47 then [] :: cuts t else match cuts t with | [] => [[b]] | h :: r => (b :: h) :: r
def bytes (l : List UInt8) : ByteArray := ⟨l.toArray⟩
theorem bytes_data (s : ByteArray) : bytes s.data.toList = s := by
  obtain ⟨⟨l⟩⟩ := s
  rfl
theorem data_bytes (l : List UInt8) : (bytes l).data.toList = l := rfl
/-! ### Contains -/
theorem contains_index : ∀ (l : List UInt8) (c : UInt8), decide (0 ≤ Lib.indexByte l c) = l.contains c
  | [], c => by simp [Lib.indexByte]
  | b :: l, c => by
    have ih := contains_index l c
    unfold Lib.indexByte
    have hge := Lib.indexByte_ge l c
    by_cases h : (b == c) = true
    · rw [if_pos h]
      have : b = c := beq_iff_eq.1 h
      subst this
      simp
    · rw [if_neg h]
      have hbc : (c == b) = false := by
        rw [beq_eq_false_iff_ne]
        rintro rfl
        exact h (beq_iff_eq.2 rfl)
      rw [List.contains_cons, hbc, Bool.false_or, ← ih]
      by_cases h2 : Lib.indexByte l c = -1
      · rw [h2]; rfl
      · rw [if_neg (fun e => h2 (beq_iff_eq.1 e))]
        rw [decide_eq_true (show 0 ≤ Lib.indexByte l c + 1 by omega), decide_eq_true (show 0 ≤ Lib.indexByte l c by omega)]
theorem contains_calls (s : ByteArray) (c : UInt8) (w : World) : Calls Tryd.prog 22 #[.string s, .string ⟨#[c]⟩] w fun e w' => e = .returned (.bool (s.data.toList.contains c)) ∧ w' = w := by
  refine (Tryd.strings_Contains_one s c w).mono ?_
  rintro e w' ⟨rfl, rfl⟩
  rw [← contains_index]
  exact ⟨rfl, rfl⟩
/-! ### Split -/
theorem info9 : (Tryd.prog.info? 9).map (fun i => (i.zero, i.size, i.bytes)) = some (some (.string ByteArray.empty), 1, 16) := by kernel_rfl
set_option maxHeartbeats 2000000 in
theorem split_calls (s : ByteArray) (w : World) (hs : s.size < 4294967281) :
    Calls Tryd.prog 23 #[.string s, .string ⟨#[47]⟩] w fun e w' => e = .returned (.slice (some ⟨w.heap.size, 0, none⟩) (Lib.countB s ⟨#[47]⟩ + 1) (Lib.countB s ⟨#[47]⟩ + 1)) ∧ w' = w.alloc (.cells ((Lib.splitB ⟨#[47]⟩ 0 (Lib.countB s ⟨#[47]⟩) s).map Value.string).toArray 9) := by
  have h1 : 1 ≤ (⟨#[47]⟩ : ByteArray).size := by decide
  have hle := Lib.countB_le ⟨#[47]⟩ h1 s.size s (Nat.le_refl _)
  have hlen := Lib.splitB_all ⟨#[47]⟩ h1 0 _ s rfl
  have c := Any.strings_genSplit_core Tryd.lays221 info9 s ⟨#[47]⟩ 0 (-1) (Lib.countB s ⟨#[47]⟩ + 1) w hs h1 (Nat.zero_le _)
    (fun x c hx => (Tryd.strings_Index_one x 47 _).mono fun e w' ⟨he, hw⟩ => ⟨by rw [he]; show _ = Ending.returned (Value.int .i64 (Lib.index x.data.toList [47])); rw [Lib.index_one], hw⟩)
    ((Tryd.strings_Count_one s 47 w).mono fun e w' ⟨he, hw⟩ => ⟨by rw [he]; show _ = Ending.returned (Value.int .i64 ((Lib.count s.data.toList [47] : Nat) : Int)); rw [Lib.count_one]; rfl, hw⟩)
    (by decide) (by decide) (by rw [if_pos (by decide)]; omega)
  rw [Nat.add_sub_cancel, hlen] at c
  have e2 : Lib.cellsOf (Lib.splitB ⟨#[47]⟩ 0 (Lib.countB s ⟨#[47]⟩) s) (Lib.countB s ⟨#[47]⟩ + 1) = ((Lib.splitB ⟨#[47]⟩ 0 (Lib.countB s ⟨#[47]⟩) s).map Value.string).toArray := by rw [← hlen]; exact Lib.cellsOf_full _
  rw [e2] at c
  have c' : Calls Tryd.prog 32 #[.string s, .string ⟨#[47]⟩, .int .i64 0, .int .i64 (-1)] w _ := c
  have C := Aside0.mk c'
  clear c c' e2 hle hlen
  go_enter Tryd.func23, Tryd.ntmps23
  go_wp2_with (go_at_call 32; refine C.out.mono ?_; rintro e w' ⟨rfl, hw⟩; rw [hw])
  go_ret
  exact ⟨rfl, rfl⟩
theorem index_cons_ne {b : UInt8} {t : List UInt8} (hb : b ≠ 47) : Lib.index (b :: t) [47] = if Lib.index t [47] == -1 then -1 else Lib.index t [47] + 1 := by
  have hp : ([47] : List UInt8).isPrefixOf (b :: t) = false := by simp [List.isPrefixOf, Ne.symm hb]
  rw [Lib.index, hp]
  simp
theorem splitK_cuts : ∀ l : List UInt8, Lib.splitK [47] 0 (Lib.count l [47]) l = cuts l
  | [] => by rw [Lib.count_one]; rfl
  | b :: t => by
    have ih := splitK_cuts t
    by_cases hb : b = 47
    · subst hb
      rw [Lib.count_cons_eq, Nat.add_comm]
      have hix : Lib.index (47 :: t) [47] = 0 := by rw [Lib.index]; simp [List.isPrefixOf]
      unfold Lib.splitK cuts
      rw [hix, if_neg (by decide), if_pos rfl]
      simp only [List.length_cons, List.length_nil]
      rw [show (0 : Int).toNat + 0 = 0 from rfl, show (0 : Int).toNat + (0 + 1) = 1 from rfl]
      simp only [List.take_zero, List.drop_one, List.tail_cons]
      rw [ih]
    · rw [Lib.count_cons_ne b 47 t hb]
      unfold cuts
      rw [if_neg hb]
      cases hc : Lib.count t [47] with
      | zero =>
        rw [hc] at ih
        rw [← ih]
        rfl
      | succ k =>
        rw [hc] at ih
        have hne : Lib.index t [47] ≠ -1 := fun h => by rw [Lib.count_miss h] at hc; omega
        have hge := Lib.index_ge t [47]
        obtain ⟨j, hj⟩ : ∃ j : Nat, Lib.index t [47] = j := ⟨(Lib.index t [47]).toNat, by omega⟩
        have hix : Lib.index (b :: t) [47] = ((j + 1 : Nat) : Int) := by rw [index_cons_ne hb, if_neg (fun e => hne (beq_iff_eq.1 e)), hj]; omega
        unfold Lib.splitK at ih ⊢
        rw [hj, if_neg (fun e => by have := beq_iff_eq.1 e; omega)] at ih
        rw [hix, if_neg (fun e => by have := beq_iff_eq.1 e; omega), ← ih]
        simp only [Int.toNat_natCast, List.length_cons, List.length_nil, Nat.add_zero, List.take_succ_cons, Nat.zero_add]
        rw [show j + 1 + 1 = (j + 1) + 1 from rfl, List.drop_succ_cons]
theorem splitB_cuts (s : ByteArray) : Lib.splitB ⟨#[47]⟩ 0 (Lib.countB s ⟨#[47]⟩) s = (cuts s.data.toList).map bytes := by
  have h := Lib.splitB_data ⟨#[47]⟩ 0 (Lib.countB s ⟨#[47]⟩) s
  have h2 : Lib.splitK ((⟨#[47]⟩ : ByteArray).data.toList) 0 (Lib.countB s ⟨#[47]⟩) s.data.toList = cuts s.data.toList := splitK_cuts _
  rw [h2] at h
  rw [← h, List.map_map]
  exact (List.map_id' _).symm.trans (List.map_congr_left (fun x _ => (bytes_data x).symm))
theorem cuts_pos (l : List UInt8) : 0 < (cuts l).length := by
  cases l with
  | nil => simp [cuts]
  | cons b t =>
    unfold cuts
    split
    · simp
    · split <;> simp
theorem cuts_len : ∀ l : List UInt8, (cuts l).length ≤ l.length + 1
  | [] => by simp [cuts]
  | b :: t => by
    have ih := cuts_len t
    unfold cuts
    split
    · simp only [List.length_cons]; omega
    · split
      · simp
      · rename_i h r e
        rw [e] at ih
        simp only [List.length_cons] at ih ⊢
        omega
theorem countB_cuts (s : ByteArray) : Lib.countB s ⟨#[47]⟩ + 1 = (cuts s.data.toList).length := by
  have h := Lib.splitB_all ⟨#[47]⟩ (by decide) 0 _ s rfl
  rw [splitB_cuts, List.length_map] at h
  exact h.symm
/-- A new block's strings are a row. -/
theorem R_strs (w : World) (l : List ByteArray) (hp : 0 < l.length) (hl : l.length ≤ 4294967296) : Kd.R Kd.string 9 (w.alloc (.cells (l.map Value.string).toArray 9)) w.heap.size (fun _ => True) (.slice (some ⟨w.heap.size, 0, none⟩) l.length l.length) l := by
  refine Kd.R_of_own (enc := Value.string) ⟨by simp [encs], .inr ⟨w.heap.size, l.length, (l.map Value.string).toArray, rfl, Nat.le_refl _, blk_new _ _, Nat.le_refl _, by simp only [maxLen]; omega, by simp, ?_⟩⟩ (fun _ _ => trivial)
  simp only [encs, Nat.mul_one]
  exact List.take_of_length_le (by simp)
theorem split_R (s : ByteArray) (w : World) (hs : s.size < 4294967281) : Calls Tryd.prog 23 #[.string s, .string ⟨#[47]⟩] w fun e w' => ∃ v, e = .returned v ∧ Kd.R Kd.string 9 w' w.heap.size (fun _ => True) v ((cuts s.data.toList).map bytes) ∧ Below w.heap.size w w' := by
  refine (split_calls s w hs).mono ?_
  rintro e w' ⟨rfl, rfl⟩
  rw [splitB_cuts, countB_cuts]
  have h9 := cuts_len s.data.toList
  have h8 : s.data.toList.length = s.size := (Lib.size_eq s).symm
  have h := R_strs w ((cuts s.data.toList).map bytes) (by rw [List.length_map]; exact cuts_pos _) (by rw [List.length_map]; omega)
  rw [List.length_map] at h
  exact ⟨_, rfl, h, (Below.refl _ _).alloc (Nat.le_refl _) _⟩
/-! ### Join -/
/-- Texts with a text between them. -/
def joined (xs : List ByteArray) (sep : ByteArray) : ByteArray := bytes (Lib.join (xs.map (·.data.toList)) sep.data.toList)
theorem cells_C {w : World} {A : Option Addr} {l : List ByteArray} (h : Kd.C Kd.string w A l.length l) (hp : 0 < l.length) : ∃ b o, A = some ⟨b, o, none⟩ ∧ b < w.heap.size ∧ ∀ (j : Nat) x, l[j]? = some x → w.cell? ⟨b, o + j, none⟩ = some (.string x) := by
  obtain ⟨ad, e, hc⟩ := (Kd.reads_of_C (d := ByteArray.empty) h).2.2 hp
  obtain ⟨b, o, sp⟩ := ad
  have h0 := hc 0 hp
  have hsp : sp = none := by
    cases sp with
    | none => rfl
    | some k =>
      exfalso
      simp only [World.cell?, Addr.add] at h0
      split at h0
      · simp at h0
      · cases h0
  subst hsp
  refine ⟨b, o, e, World.block_lt_of_cell? _ _ h0, fun j x hx => ?_⟩
  have hj := (List.getElem?_eq_some_iff.1 hx).1
  have h1 := hc j hj
  rw [List.getD_eq_getElem?_getD, hx] at h1
  have ha : Addr.add ⟨b, o, none⟩ j = ⟨b, o + j, none⟩ := by
    unfold Addr.add
    split
    · rename_i h; rw [h]; rfl
    · rfl
  rw [ha] at h1
  exact h1
theorem join_calls (A : Option Addr) (c : Nat) (l : List ByteArray) (sep : ByteArray) (w : World) (hr : Kd.C Kd.string w A l.length l) (hc : l.length ≤ c) (hn : l.length ≤ 140737488355328) (hj : (Lib.join (l.map (·.data.toList)) sep.data.toList).length ≤ 140737488355328) :
    Calls Tryd.prog 21 #[.slice A l.length c, .string sep] w fun e w' => e = .returned (.string (joined l sep)) ∧ Below w.heap.size w w' := by
  rcases Nat.eq_zero_or_pos l.length with h0 | h0
  · have := List.eq_nil_of_length_eq_zero h0
    subst this
    refine (Tryd.strings_Join_none A c sep w).mono ?_
    rintro e w' ⟨rfl, rfl⟩
    exact ⟨rfl, Below.refl _ _⟩
  · obtain ⟨b, o, rfl, hb, hcells⟩ := cells_C hr h0
    exact Tryd.strings_Join b o c l sep w hcells hb hn hc hj
/-! ### Clone -/
theorem clone_calls (A : Option Addr) (c : Nat) (l : List ByteArray) (w : World) (hr : Kd.C Kd.string w A l.length l) (hl : l.length ≤ 1000000) :
    Calls Tryd.prog 26 #[.slice A l.length c] w fun e w' => ∃ v, e = .returned v ∧ Kd.R Kd.string 9 w' w.heap.size (fun _ => True) v l ∧ Below w.heap.size w w' := by
  rcases Nat.eq_zero_or_pos l.length with h0 | h0
  · have := List.eq_nil_of_length_eq_zero h0
    subst this
    cases A with
    | none =>
      refine (Tryd.slices_Clone_string_nil 0 c w).mono ?_
      rintro e w' ⟨rfl, rfl⟩
      exact ⟨_, rfl, Kd.R_nil _ _ _ _ _, Below.refl _ _⟩
    | some a =>
      refine (Tryd.slices_Clone_string_zero a c w).mono ?_
      rintro e w' ⟨v, rfl, ho, _, hb⟩
      exact ⟨_, rfl, Kd.R_of_own (enc := Value.string) ho (fun _ _ => trivial), hb⟩
  · obtain ⟨b, o, rfl, hb, hcells⟩ := cells_C hr h0
    refine (Tryd.slices_Clone_string b o l.length c l w (Nat.le_refl _) (by omega) (fun j hj => ?_)).mono ?_
    · rw [List.getD_eq_getElem?_getD, List.getElem?_eq_getElem hj]
      exact hcells j _ (List.getElem?_eq_getElem hj)
    · rintro e w' ⟨v, rfl, ho, _, hb⟩
      rw [List.take_length] at ho
      exact ⟨_, rfl, Kd.R_of_own (enc := Value.string) ho (fun _ _ => trivial), hb⟩
/-! ### a name -/
/-- What stands behind a text's errors. -/
def mayE (l : List UInt8) : Int := if l = [] ∨ l = [46] ∨ l = [46, 46] ∨ l.contains 0 = true ∨ l.contains 47 = true then 1 else if l.length > 24 then 15 else 0
theorem decode_wide (s : ByteArray) (pos : Nat) (h : pos < s.size) (ha : 128 ≤ (s[pos]'h).toNat) : ∀ j, j < (Utf8.decode s pos).2 → ∃ hj : pos + j < s.size, 128 ≤ (s[pos + j]'hj).toNat := by
  have hn : ¬ (s[pos]'h).toNat < 128 := by omega
  have hg : ∀ k, (hk : pos + k < s.size) → s.get! (pos + k) = s[pos + k]'hk := fun k hk => by
    show s.get! (pos + k) = _
    simp [ByteArray.get!, getElem!_pos, hk]
    rfl
  have h0 : ∃ hj : pos + 0 < s.size, 128 ≤ (s[pos + 0]'hj).toNat := ⟨h, ha⟩
  have hc : ∀ k, (decide (pos + k < s.size) && (s.get! (pos + k)).toNat / 64 == 2) = true → ∃ hj : pos + k < s.size, 128 ≤ (s[pos + k]'hj).toNat := fun k hk => by
    obtain ⟨h1, h2⟩ := Bool.and_eq_true_iff.1 hk
    have h3 := of_decide_eq_true h1
    refine ⟨h3, ?_⟩
    have h4 := beq_iff_eq.1 h2
    rw [hg k h3] at h4
    omega
  have one : ∀ j, j < 1 → ∃ hj : pos + j < s.size, 128 ≤ (s[pos + j]'hj).toNat := fun j hj => by
    obtain rfl : j = 0 := by omega
    exact h0
  have g0 : s.get! pos = s[pos]'h := get_at s pos h
  unfold Utf8.decode
  simp only [Nat.add_zero, g0, hn, if_false]
  intro j hj
  by_cases c1 : ((s[pos]'h).toNat / 32 == 6 && (decide (pos + 1 < s.size) && (s.get! (pos + 1)).toNat / 64 == 2)) = true
  · rw [if_pos c1] at hj
    have k1 := hc 1 (Bool.and_eq_true_iff.1 c1).2
    split at hj
    · simp only at hj
      match j, hj with
      | 0, _ => exact h0
      | 1, _ => exact k1
    · exact one j hj
  · rw [if_neg c1] at hj
    by_cases c2 : ((s[pos]'h).toNat / 16 == 14 && (decide (pos + 1 < s.size) && (s.get! (pos + 1)).toNat / 64 == 2) && (decide (pos + 2 < s.size) && (s.get! (pos + 2)).toNat / 64 == 2)) = true
    · rw [if_pos c2] at hj
      have k2 := hc 2 (Bool.and_eq_true_iff.1 c2).2
      have k1 := hc 1 (Bool.and_eq_true_iff.1 (Bool.and_eq_true_iff.1 c2).1).2
      split at hj
      · simp only at hj
        match j, hj with
        | 0, _ => exact h0
        | 1, _ => exact k1
        | 2, _ => exact k2
      · exact one j hj
    · rw [if_neg c2] at hj
      by_cases c3 : ((s[pos]'h).toNat / 8 == 30 && (decide (pos + 1 < s.size) && (s.get! (pos + 1)).toNat / 64 == 2) && (decide (pos + 2 < s.size) && (s.get! (pos + 2)).toNat / 64 == 2) && (decide (pos + 3 < s.size) && (s.get! (pos + 3)).toNat / 64 == 2)) = true
      · rw [if_pos c3] at hj
        have k3 := hc 3 (Bool.and_eq_true_iff.1 c3).2
        have k2 := hc 2 (Bool.and_eq_true_iff.1 (Bool.and_eq_true_iff.1 c3).1).2
        have k1 := hc 1 (Bool.and_eq_true_iff.1 (Bool.and_eq_true_iff.1 (Bool.and_eq_true_iff.1 c3).1).1).2
        split at hj
        · simp only at hj
          match j, hj with
          | 0, _ => exact h0
          | 1, _ => exact k1
          | 2, _ => exact k2
          | 3, _ => exact k3
        · exact one j hj
      · rw [if_neg c3] at hj
        exact one j hj
/-- No byte of the first k is a slash or nothing. -/
def Clear (s : ByteArray) (k : Nat) : Prop := ∀ j, j < k → ∀ hj : j < s.size, (s[j]'hj).toNat ≠ 0 ∧ (s[j]'hj).toNat ≠ 47
theorem get_list (s : ByteArray) (j : Nat) (hj : j < s.size) : s.data.toList[j]? = some (s[j]'hj) := by
  have h2 : j < s.data.toList.length := by rw [← Lib.size_eq]; exact hj
  rw [List.getElem?_eq_getElem h2]
  rfl
theorem Clear.all {s : ByteArray} (h : Clear s s.size) : s.data.toList.contains 0 = false ∧ s.data.toList.contains 47 = false := by
  have key : ∀ c : UInt8, (c.toNat = 0 ∨ c.toNat = 47) → s.data.toList.contains c = false := fun c hc => by
    rw [Bool.eq_false_iff]
    intro he
    obtain ⟨j, hj, e⟩ := List.mem_iff_getElem.1 (List.contains_iff_mem.1 he)
    have hj2 : j < s.size := by rw [Lib.size_eq]; exact hj
    have h9 := h j hj2 hj2
    have h8 := get_list s j hj2
    rw [List.getElem?_eq_getElem hj, e] at h8
    injection h8 with h8
    rw [← h8] at h9
    omega
  exact ⟨key 0 (.inl rfl), key 47 (.inr rfl)⟩
theorem not_clear {s : ByteArray} {j : Nat} (hj : j < s.size) (h : (s[j]'hj).toNat = 0 ∨ (s[j]'hj).toNat = 47) : s.data.toList.contains 0 = true ∨ s.data.toList.contains 47 = true := by
  have h1 := List.mem_of_getElem? (get_list s j hj)
  rcases h with h | h
  · left
    rw [List.contains_iff_mem]
    have : (s[j]'hj) = 0 := UInt8.toNat_inj.1 h
    rw [← this]; exact h1
  · right
    rw [List.contains_iff_mem]
    have : (s[j]'hj) = 47 := UInt8.toNat_inj.1 h
    rw [← this]; exact h1
theorem mayE_bad {l : List UInt8} (h : l = [] ∨ l = [46] ∨ l = [46, 46] ∨ l.contains 0 = true ∨ l.contains 47 = true) : mayE l = 1 := if_pos h
set_option maxRecDepth 1000000 in
set_option maxHeartbeats 2000000 in
theorem may_calls (s : ByteArray) (w : World) (hsz : s.size ≤ 9223372036854775807) :
    Calls Tryd.prog 13 #[.string s] w fun e w' => e = .returned (.int .i64 (mayE s.data.toList)) ∧ Below w.heap.size w w' := by
  have hl : s.toList = s.data.toList := Lib.toList_data s
  by_cases c0 : s.data.toList = []
  · rw [mayE_bad (.inl c0)]
    have b0 : (s.toList == ([] : List UInt8)) = true := beq_iff_eq.mpr (hl.trans c0)
    clear c0 hl
    go_enter Tryd.func13, Tryd.ntmps13
    go_wp2
    go_ret
    exact ⟨rfl, Below.refl _ _⟩
  by_cases c1 : s.data.toList = [46]
  · rw [mayE_bad (.inr (.inl c1))]
    have b0 : (s.toList == ([] : List UInt8)) = false := beq_eq_false_iff_ne.mpr (hl ▸ c0)
    have b1 : (s.toList == ([46] : List UInt8)) = true := beq_iff_eq.mpr (hl.trans c1)
    clear c0 c1 hl
    go_enter Tryd.func13, Tryd.ntmps13
    go_wp2
    go_ret
    exact ⟨rfl, Below.refl _ _⟩
  have b0 : (s.toList == ([] : List UInt8)) = false := beq_eq_false_iff_ne.mpr (hl ▸ c0)
  have b1 : (s.toList == ([46] : List UInt8)) = false := beq_eq_false_iff_ne.mpr (hl ▸ c1)
  by_cases c2 : s.data.toList = [46, 46]
  · rw [mayE_bad (.inr (.inr (.inl c2)))]
    have b2 : (s.toList == ([46, 46] : List UInt8)) = true := beq_iff_eq.mpr (hl.trans c2)
    clear c0 c1 c2 hl
    go_enter Tryd.func13, Tryd.ntmps13
    go_wp2
    go_ret
    exact ⟨rfl, Below.refl _ _⟩
  have b2 : (s.toList == ([46, 46] : List UInt8)) = false := beq_eq_false_iff_ne.mpr (hl ▸ c2)
  have HC := Aside0.mk (And.intro c0 (And.intro c1 c2))
  clear c0 c1 c2 hl
  go_enter Tryd.func13, Tryd.ntmps13
  go_wp2
  go_loopg [] s.size (fun gk w' => ∃ pos : Nat, w' = w.iter s pos ∧ pos + gk = s.size ∧ Aside0 (Clear s pos))
  case atStart => exact ⟨0, rfl, by omega, ⟨fun j hj => absurd hj (Nat.not_lt_zero _)⟩⟩
  case round =>
    obtain ⟨pos, rfl, hpg, HR⟩ := hrel
    by_cases hp : pos < s.size
    · have hnx := fun ty => run_next_any (P := Tryd.prog) w s pos ty hp
      have key : ((Utf8.decode s pos).1 = 0 ∨ (Utf8.decode s pos).1 = 47) ∧ (s.data.toList.contains 0 = true ∨ s.data.toList.contains 47 = true) ∨ ((Utf8.decode s pos).1 ≠ 0 ∧ (Utf8.decode s pos).1 ≠ 47) ∧ 1 ≤ (Utf8.decode s pos).2 ∧ pos + (Utf8.decode s pos).2 ≤ s.size ∧ Clear s (pos + (Utf8.decode s pos).2) := by
        by_cases ha : (s[pos]'hp).toNat < 128
        · rw [decode_ascii s pos hp ha]
          by_cases h9 : (s[pos]'hp).toNat = 0 ∨ (s[pos]'hp).toNat = 47
          · exact .inl ⟨h9, not_clear hp h9⟩
          · refine .inr ⟨⟨fun h => h9 (.inl h), fun h => h9 (.inr h)⟩, Nat.le_refl _, hp, fun j hj hjs => ?_⟩
            rcases Nat.lt_or_eq_of_le (Nat.le_of_lt_succ hj) with h8 | h8
            · exact HR.out j h8 hjs
            · subst h8
              exact ⟨fun h => h9 (.inl h), fun h => h9 (.inr h)⟩
        · have h1 := decode_high s pos hp (by omega)
          have h2 := decode_wide s pos hp (by omega)
          refine .inr ⟨⟨by omega, by omega⟩, h1.2, ?_, fun j hj hjs => ?_⟩
          · obtain ⟨h3, _⟩ := h2 ((Utf8.decode s pos).2 - 1) (by omega)
            omega
          · rcases Nat.lt_or_ge j pos with h8 | h8
            · exact HR.out j h8 hjs
            · obtain ⟨h3, h4⟩ := h2 (j - pos) (by omega)
              have e : pos + (j - pos) = j := by omega
              simp only [e] at h4
              omega
      generalize (Utf8.decode s pos).1 = cp at hnx key
      generalize (Utf8.decode s pos).2 = wd at hnx key
      rcases key with ⟨hc, hbad⟩ | ⟨⟨hc0, hc1⟩, hw1, hw2, hcl⟩
      · have HM := Aside0.mk (mayE_bad (l := s.data.toList) (.inr (.inr (.inr hbad))))
        clear hbad HR HC
        rcases hc with rfl | rfl
        · go_wp2
          go_ret
          exact ⟨by rw [HM.out]; rfl, (Below.refl _ _).alloc (Nat.le_refl _) _⟩
        · go_wp2
          go_ret
          exact ⟨by rw [HM.out]; rfl, (Below.refl _ _).alloc (Nat.le_refl _) _⟩
      · have e0 : ((cp : Int) == 0) = false := beq_eq_false_iff_ne.mpr (by omega)
        have e1 : ((cp : Int) == 47) = false := beq_eq_false_iff_ne.mpr (by omega)
        have HCL := Aside0.mk hcl
        clear hcl
        go_wp2
        go_roundg (s.size - (pos + wd))
        case measure => omega
        case rel => exact ⟨pos + wd, rfl, by omega, HCL⟩
    · obtain rfl : pos = s.size := by omega
      have hnx := fun ty => run_next_end (P := Tryd.prog) w s s.size ty hp
      have hcl := HR.out.all
      have hlen : s.data.toList.length = s.size := (Lib.size_eq s).symm
      by_cases h24 : s.size > 24
      · have hb : decide ((s.size : Int) > 24) = true := decide_eq_true (by omega)
        have HM : Aside0 (mayE s.data.toList = 15) := ⟨by
          unfold mayE
          rw [if_neg (by rintro (h | h | h | h | h); exact HC.out.1 h; exact HC.out.2.1 h; exact HC.out.2.2 h; rw [hcl.1] at h; cases h; rw [hcl.2] at h; cases h), hlen, if_pos h24]⟩
        clear HR HC hcl hlen h24
        go_wp2
        go_ret
        exact ⟨by rw [HM.out]; rfl, (Below.refl _ _).alloc (Nat.le_refl _) _⟩
      · have hb : decide ((s.size : Int) > 24) = false := decide_eq_false (by omega)
        have HM : Aside0 (mayE s.data.toList = 0) := ⟨by
          unfold mayE
          rw [if_neg (by rintro (h | h | h | h | h); exact HC.out.1 h; exact HC.out.2.1 h; exact HC.out.2.2 h; rw [hcl.1] at h; cases h; rw [hcl.2] at h; cases h), hlen, if_neg h24]⟩
        clear HR HC hcl hlen h24
        go_wp2
        go_ret
        exact ⟨by rw [HM.out]; rfl, (Below.refl _ _).alloc (Nat.le_refl _) _⟩
theorem w64 (n : Int) (h0 : -9223372036854775808 ≤ n) (h1 : n ≤ 9223372036854775807) : IntKind.i64.wrap n = n := (i64_w n).trans (by unfold wrap64; omega)
theorem own_len (A : Option Addr) (m n c : Nat) : (Value.slice A m c).ownBlock = (Value.slice A n c).ownBlock := by cases A <;> rfl
end Go.Proofs.YtkmdccbjgnedjaaDoor.NB
