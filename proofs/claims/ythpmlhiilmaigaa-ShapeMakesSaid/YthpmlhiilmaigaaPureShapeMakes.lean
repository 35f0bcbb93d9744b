/- ShapeMakes, over numbers and lists alone: the shape of any number of pages has the items, levels, root and blocks of the document's, or is refused. For all whole numbers; 216 of them by the kernel's reckoning. -/
import Derived.Test.YthpmlhiilmaigaaPSx6
namespace Go.Proofs.Ythpmlhiilmaigaa.Pure
open Go.RowKit Go.Proofs.Ythpmlhiilmaigaa.PS
theorem makes0 : ∀ i : Fin 54, carlinglaw12_ShapeMakes.f 400 (1 + (i.val : Int)) = some true := by decide +kernel
theorem makes1 : ∀ i : Fin 54, carlinglaw12_ShapeMakes.f 400 (55 + (i.val : Int)) = some true := by decide +kernel
theorem makes2 : ∀ i : Fin 36, carlinglaw12_ShapeMakes.f 400 (109 + (i.val : Int)) = some true := by decide +kernel
theorem makes3 : ∀ i : Fin 36, carlinglaw12_ShapeMakes.f 400 (145 + (i.val : Int)) = some true := by decide +kernel
theorem makes4 : ∀ i : Fin 36, carlinglaw12_ShapeMakes.f 400 (181 + (i.val : Int)) = some true := by decide +kernel
theorem at_ {n b : Int} {m : Nat} (h : ∀ i : Fin m, carlinglaw12_ShapeMakes.f 400 (b + (i.val : Int)) = some true) (h0 : b ≤ n) (h1 : n < b + m) : carlinglaw12_ShapeMakes.f 400 n = some true := by
  have := h ⟨(n - b).toNat, by omega⟩
  rwa [show b + (((n - b).toNat : Nat) : Int) = n from by omega] at this
theorem new_no {n : Int} (h : n < 1 ∨ n > 216) : shape_New.f 400 n = some ([], 1) ∧ carlingref12_New.f 400 n = some (0, [], [], 1) := by
  unfold shape_New.f carlingref12_New.f
  by_cases h1 : n < 1
  · rw [if_pos h1, if_pos h1]
    exact ⟨by simp only [shape_New.j0, if_true], by simp only [carlingref12_New.j0, if_true]⟩
  · have h2 : n > 216 := by omega
    rw [if_neg h1, if_neg h1, decide_eq_true h2]
    exact ⟨by simp only [shape_New.j0, if_true], by simp only [carlingref12_New.j0, if_true]⟩
theorem ShapeMakes : carlinglaw12_ShapeMakes.Pure := by
  intro n _
  refine ⟨400, ?_⟩
  by_cases h : n < 1 ∨ n > 216
  · obtain ⟨h1, h2⟩ := new_no h
    unfold carlinglaw12_ShapeMakes.f
    rw [h1, h2, Option.bind_some, Option.bind_some, if_pos rfl, if_neg (by decide)]
    decide +kernel
  · rcases Int.lt_or_le n 55 with h1 | h1
    · exact at_ makes0 (by omega) (by omega)
    · rcases Int.lt_or_le n 109 with h2 | h2
      · exact at_ makes1 (by omega) (by omega)
      · rcases Int.lt_or_le n 145 with h3 | h3
        · exact at_ makes2 (by omega) (by omega)
        · rcases Int.lt_or_le n 181 with h4 | h4
          · exact at_ makes3 (by omega) (by omega)
          · exact at_ makes4 (by omega) (by omega)
end Go.Proofs.Ythpmlhiilmaigaa.Pure
