/- Rows that are the same; steps. -/
import Derived.Test.YtenbcpjlbfojlaaDP
import Derived.Test.YtenbcpjlbfojlaaDQ0
namespace Go.Proofs.Ytenbcpjlbfojlaa.DA
open Go.RowKit Go.Proofs.YtenbcpjlbfojlaaW.PrintWords Go.Proofs.YtenbcpjlbfojlaaW.PrintLast Go.Proofs.YtenbcpjlbfojlaaW.PrintMore Go.Proofs.Ytenbcpjlbfojlaa.PD
attribute [local go_sem] max2_int min2_int max_two min_two max_three min_three max_four min_four
set_option linter.unusedVariables false
set_option linter.unusedSimpArgs false
theorem drop_eq_iff {a b : List Int} {i : Nat} (ha : i < a.length) (hb : i < b.length) : (a.drop i = b.drop i) ↔ (rd a (i : Int) = rd b (i : Int) ∧ a.drop (i + 1) = b.drop (i + 1)) := by
  unfold rd
  rw [Int.toNat_natCast, List.getD_eq_getElem?_getD, List.getD_eq_getElem?_getD, List.getElem?_eq_getElem ha, List.getElem?_eq_getElem hb, List.drop_eq_getElem_cons ha, List.drop_eq_getElem_cons hb]
  simp only [Option.getD_some]
  exact ⟨fun h => by injection h with h1 h2; exact ⟨h1, h2⟩, fun h => by rw [h.1, h.2]⟩
theorem w64_succ {i : Nat} (h : i ≤ 1000000000) : wrap64 ((i : Int) + 1) = ((i + 1 : Nat) : Int) := by
  unfold wrap64; simp [IntKind.wrap, IntKind.signed, IntKind.bits]; omega
theorem same_l0 (a b : List Int) (hab : a.length = b.length) (hl : a.length ≤ 1000000000) : ∀ (k i : Nat), i ≤ a.length → a.length - i < k → carlingref02_Same.l0 k a b (i : Int) = some (decide (a.drop i = b.drop i))
  | 0, i, _, h => absurd h (Nat.not_lt_zero _)
  | k + 1, i, hi, hk => by
    unfold carlingref02_Same.l0
    by_cases h : i < a.length
    · rw [if_pos (by omega), if_pos (by omega), if_pos (by omega), w64_succ (by omega), same_l0 a b hab hl k (i + 1) (by omega) (by omega)]
      have h9 := drop_eq_iff h (hab ▸ h)
      split
      · rename_i h1
        congr 1
        exact decide_eq_decide.2 ⟨fun h2 => h9.2 ⟨h1, h2⟩, fun h2 => (h9.1 h2).2⟩
      · rename_i h1
        congr 1
        exact (decide_eq_false (fun h2 => h1 (h9.1 h2).1)).symm
    · rw [if_neg (by omega), List.drop_eq_nil_of_le (by omega), List.drop_eq_nil_of_le (by omega)]
      simp
theorem same_f (a b : List Int) (hl : a.length ≤ 1000000000) : carlingref02_Same.f (a.length + 1) a b = some (decide (a = b)) := by
  unfold carlingref02_Same.f
  by_cases h : a.length = b.length
  · rw [if_pos (by omega)]
    have := same_l0 a b h hl (a.length + 1) 0 (by omega) (by omega)
    simpa using this
  · rw [if_neg (by omega)]
    congr 1
    exact (decide_eq_false (fun h2 => h (congrArg List.length h2))).symm
theorem isame_l0 (a b : List Int) (hab : a.length = b.length) (hl : a.length ≤ 1000000000) : ∀ (k i : Nat), i ≤ a.length → a.length - i < k → carlinglaw06_same.l0 k a b (a.length : Int) (i : Int) = some (decide (a.drop i = b.drop i))
  | 0, i, _, h => absurd h (Nat.not_lt_zero _)
  | k + 1, i, hi, hk => by
    unfold carlinglaw06_same.l0
    by_cases h : i < a.length
    · rw [if_pos (by omega), if_pos (by omega), if_pos (by omega), if_pos (by omega), w64_succ (by omega), isame_l0 a b hab hl k (i + 1) (by omega) (by omega)]
      have h9 := drop_eq_iff h (hab ▸ h)
      split
      · rename_i h1
        congr 1
        exact decide_eq_decide.2 ⟨fun h2 => h9.2 ⟨h1, h2⟩, fun h2 => (h9.1 h2).2⟩
      · rename_i h1
        congr 1
        exact (decide_eq_false (fun h2 => h1 (h9.1 h2).1)).symm
    · rw [if_neg (by omega), List.drop_eq_nil_of_le (by omega), List.drop_eq_nil_of_le (by omega)]
      simp
theorem isame_f (a b : List Int) (hl : a.length ≤ 1000000000) : carlinglaw06_same.f (a.length + 1) a b = some (decide (a = b)) := by
  unfold carlinglaw06_same.f
  by_cases h : a.length = b.length
  · rw [if_pos (by omega)]
    have := isame_l0 a b h hl (a.length + 1) 0 (by omega) (by omega)
    simpa using this
  · rw [if_neg (by omega)]
    congr 1
    exact (decide_eq_false (fun h2 => h (congrArg List.length h2))).symm
theorem esame_l0 (a b : List Int) (hab : a.length = b.length) (hl : a.length ≤ 1000000000) : ∀ (k i : Nat), i ≤ a.length → a.length - i < k → slices_Equal_int_int.l0 k a b (a.length : Int) (i : Int) = some (decide (a.drop i = b.drop i))
  | 0, i, _, h => absurd h (Nat.not_lt_zero _)
  | k + 1, i, hi, hk => by
    unfold slices_Equal_int_int.l0
    by_cases h : i < a.length
    · rw [if_pos (by omega), if_pos (by omega), if_pos (by omega), if_pos (by omega), w64_succ (by omega), esame_l0 a b hab hl k (i + 1) (by omega) (by omega)]
      have h9 := drop_eq_iff h (hab ▸ h)
      split
      · rename_i h1
        congr 1
        exact decide_eq_decide.2 ⟨fun h2 => h9.2 ⟨h1, h2⟩, fun h2 => (h9.1 h2).2⟩
      · rename_i h1
        congr 1
        exact (decide_eq_false (fun h2 => h1 (h9.1 h2).1)).symm
    · rw [if_neg (by omega), List.drop_eq_nil_of_le (by omega), List.drop_eq_nil_of_le (by omega)]
      simp
theorem esame_f (a b : List Int) (hl : a.length ≤ 1000000000) : slices_Equal_int_int.f (a.length + 1) a b = some (decide (a = b)) := by
  unfold slices_Equal_int_int.f
  by_cases h : a.length = b.length
  · rw [if_pos (by omega)]
    have := esame_l0 a b h hl (a.length + 1) 0 (by omega) (by omega)
    simpa using this
  · rw [if_neg (by omega)]
    congr 1
    exact (decide_eq_false (fun h2 => h (congrArg List.length h2))).symm
section
variable {w : World} {A0 A1 : Option Addr} {c0 c1 : Nat} {a b : List Int}
theorem same14 (ha : Kd.C kb w A0 a.length a) (hc0 : a.length ≤ c0) (hb : Kd.C kb w A1 b.length b) (hc1 : b.length ≤ c1) (hl : a.length ≤ 1000000000) :
    Calls Try.prog 14 #[.slice A0 a.length c0, .slice A1 b.length c1] w fun e w' => e = .returned (.bool (decide (a = b))) ∧ Below w.heap.size w w' :=
  (carlingref02_Same.calls _ A0 c0 a A1 c1 b _ w ha hc0 hb hc1 (same_f a b hl)).mono fun e w' ⟨h1, h2⟩ => ⟨h1, h2.below⟩
theorem same21 (ha : Kd.C ki w A0 a.length a) (hc0 : a.length ≤ c0) (hb : Kd.C ki w A1 b.length b) (hc1 : b.length ≤ c1) (hl : a.length ≤ 1000000000) :
    Calls Try.prog 21 #[.slice A0 a.length c0, .slice A1 b.length c1] w fun e w' => e = .returned (.bool (decide (a = b))) ∧ Below w.heap.size w w' :=
  (carlinglaw06_same.calls _ A0 c0 a A1 c1 b _ w ha hc0 hb hc1 (isame_f a b hl)).mono fun e w' ⟨h1, h2⟩ => ⟨h1, h2.below⟩
theorem equal41 (ha : Kd.C ki w A0 a.length a) (hc0 : a.length ≤ c0) (hb : Kd.C ki w A1 b.length b) (hc1 : b.length ≤ c1) (hl : a.length ≤ 1000000000) :
    Calls Try.prog 41 #[.slice A0 a.length c0, .slice A1 b.length c1] w fun e w' => e = .returned (.bool (decide (a = b))) ∧ Below w.heap.size w w' :=
  (slices_Equal_int_int.calls _ A0 c0 a A1 c1 b _ w ha hc0 hb hc1 (esame_f a b hl)).mono fun e w' ⟨h1, h2⟩ => ⟨h1, h2.below⟩
end
/-! ### steps -/
def sAt (xs : List S31) (i : Nat) : S31 := xs.getD i z31
theorem at_S {w : World} {A : Option Addr} {n : Nat} {xs : List S31} (h : Kd.C k31 w A n xs) (i : Nat) (h1 : i < n) : ∃ ad, A = some ad ∧ w.cell? (ad.add (i * 5)) = some (.int .u8 (sAt xs i).f0) ∧ w.cell? ⟨(ad.add (i * 5)).block, (ad.add (i * 5)).off + 1, none⟩ = some (.int .i64 (sAt xs i).f1) ∧ w.cell? ⟨(ad.add (i * 5)).block, (ad.add (i * 5)).off + 2, none⟩ = some (.int .i64 (sAt xs i).f2) ∧ w.cell? ⟨(ad.add (i * 5)).block, (ad.add (i * 5)).off + 3, none⟩ = some (.int .u8 (sAt xs i).f3) ∧ w.cell? ⟨(ad.add (i * 5)).block, (ad.add (i * 5)).off + 4, none⟩ = some (.int .u64 (sAt xs i).f4) :=
  at_T31 h (i : Int) (by omega) (by omega)
/-- A step of Go's. -/
structure StepOk (s : S31) : Prop where
  k : 0 ≤ s.f0 ∧ s.f0 ≤ 255
  n : (Lit.int .i64 s.f1).wf = true
  a : (Lit.int .i64 s.f2).wf = true
  x : 0 ≤ s.f3 ∧ s.f3 ≤ 255
  p : 0 ≤ s.f4 ∧ s.f4 ≤ 18446744073709551615
def Steps (l : List S31) : Prop := ∀ s ∈ l, StepOk s
theorem Steps.at {l : List S31} (h : Steps l) {i : Nat} (hi : i < l.length) : StepOk (sAt l i) := by
  unfold sAt
  rw [List.getD_eq_getElem?_getD, List.getElem?_eq_getElem hi]
  exact h _ (List.getElem_mem hi)
theorem short_calls (A : Option Addr) (n c : Nat) (hn : n ≤ c) (hc : c ≤ 9223372036854775807) (w : World) : Calls Try.prog 8 #[.slice A n c] w fun e w' => e = .returned (.slice A (min n 60) c) ∧ w' = w := by
  rcases Nat.lt_trichotomy n 60 with h | rfl | h
  · have h1 : ((n : Int) < 60) := by omega
    have h2 : (n : Int) ≤ c := by omega
    rw [Nat.min_eq_left (by omega)]
    go_enter Try.func8, Try.ntmps8
    go_wp2
    go_ret
    exact ⟨rfl, rfl⟩
  · have h3 : (60 : Int) ≤ c := by omega
    rw [Nat.min_eq_right (Nat.le_refl _)]
    go_enter Try.func8, Try.ntmps8
    go_wp2
    go_ret
    exact ⟨rfl, rfl⟩
  · have h1 : (60 : Int) < (n : Int) := by omega
    have h3 : (60 : Int) ≤ c := by omega
    rw [Nat.min_eq_right (by omega)]
    go_enter Try.func8, Try.ntmps8
    go_wp2
    go_ret
    exact ⟨rfl, rfl⟩
end Go.Proofs.Ytenbcpjlbfojlaa.DA
