/- An array of whole numbers that came in: its cells. -/
import Derived.OpenShut
import Derived.Lib.SmallJoins
namespace Go.Proofs.Ytenbcpjlbfojlaa.DA
open Go.RowKit
theorem open_arr {H : Type} {enc : TypeId × Value → H} {P : Program} {w : World} {base : Nat} {sp : Nat → Bool} {held : Bool} {t e : TypeId} {n : Nat} {k : IntKind} {v : Value} {d : DataW H} {p : List MemPlace}
    (ht : P.underlying t = some (.array n e)) (he : P.underlying e = some (.int k)) (hce : P.cellsOf e = 1) (hct : P.cellsOf t = n) (hn : 2 ≤ n)
    (h : DataW.Trod enc P w base sp held t v d p) : ∃ zs : List Int, v = .agg (zs.map (Value.int k)).toArray ∧ zs.length = n ∧ ∀ z ∈ zs, (Lit.int k z).wf = true := by
  obtain ⟨fuel, hf⟩ := h
  obtain ⟨xs, m, _, _, hl, hxl, hi⟩ := DataW.trod_array ht hf
  rw [hct] at hl
  have hv : ∃ cs : Array Value, v = .agg cs := by
    cases v with
    | agg cs => exact ⟨cs, rfl⟩
    | _ => simp [Value.cells] at hl; omega
  obtain ⟨cs, rfl⟩ := hv
  have hcl : cs.toList.length = n := hl
  have key : ∀ i, i < n → ∃ z : Int, cs.toList[i]? = some (.int k z) ∧ (Lit.int k z).wf = true := by
    intro i hin
    have h1 := hi i hin
    rw [hce, Nat.mul_one] at h1
    have hx : ∃ y, xs[i]? = some y := ⟨_, List.getElem?_eq_getElem (by omega)⟩
    obtain ⟨y, hy⟩ := hx
    rw [hy] at h1
    obtain ⟨z, e0, _, wz⟩ := DataW.trod_int he h1
    refine ⟨z, ?_, wz⟩
    have h2 : (List.take 1 (List.drop i cs.toList))[0]? = some (.int k z) := by
      have e1 : List.take 1 (List.drop i cs.toList) = [.int k z] := e0
      rw [e1]; rfl
    rw [List.getElem?_take, if_pos (by omega), List.getElem?_drop, Nat.add_zero] at h2
    exact h2
  refine ⟨cs.toList.map (fun u => match u with | .int _ z => z | _ => 0), ?_, by rw [List.length_map]; exact hcl, ?_⟩
  · congr 1
    apply Array.ext'
    apply List.ext_getElem?
    intro i
    rw [List.toList_toArray, List.getElem?_map, List.getElem?_map]
    rcases Nat.lt_or_ge i n with hin | hin
    · obtain ⟨z, hz, _⟩ := key i hin
      rw [hz]; rfl
    · rw [List.getElem?_eq_none (by omega)]; rfl
  · intro z hz
    obtain ⟨u, hu, rfl⟩ := List.mem_map.1 hz
    obtain ⟨i, hi2, hiu⟩ := List.mem_iff_getElem.1 hu
    obtain ⟨z, hz, wz⟩ := key i (by omega)
    rw [List.getElem?_eq_getElem hi2, hiu] at hz
    injection hz with hz
    subst hz
    exact wz
theorem list2 {ns : List Int} (h : ns.length = 2) : ∃ x y, ns = [x, y] := by
  match ns, h with
  | [x, y], _ => exact ⟨x, y, rfl⟩
theorem list3 {ns : List Int} (h : ns.length = 3) : ∃ x y z, ns = [x, y, z] := by
  match ns, h with
  | [x, y, z], _ => exact ⟨x, y, z, rfl⟩
end Go.Proofs.Ytenbcpjlbfojlaa.DA
