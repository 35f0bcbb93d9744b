/- SpanParts: the row of the law over the proof by hand: arrays are opened to their cells. -/
import Derived.Test.YtffpfneiaknfeaaRows
import Derived.Test.YtffpfneiaknfeaaSR
import Derived.Test.YtffpfneiaknfeaaPureSpanParts
import Derived.WalkKit
import Derived.ProofKit
import Derived.OpenShut
import Derived.ShutString
import Derived.ChangeOld
import Derived.Below
import Derived.SizedLaws
import Derived.Test.YtffpfneiaknfeaaWSized
namespace Go.Proofs.Ytffpfneiaknfeaa.spanParts
open Go.ChangeShapes Go.WideShapes Go.ChangeAt Go.RowKit
open Go.ChangeMaps (open_string shut_string)
set_option linter.unusedVariables false
theorem own : ownKnob Try.prog.godebug = none := by kernel_rfl
theorem laidOut : laidOutB Try.prog = true := by kernel_rfl
set_option maxRecDepth 100000 in
theorem lifted (os : Os) (started : os.Started) (H : Type) (enc : TypeId × Value → H) :
    ReturnsInHanded {} Try.checked os 4 .any (Rows.spanPartsSpec.pre6 enc Try.prog Try.f4 Rows.spanPartsRow.domain false) (Rows.spanPartsSpec.post enc Try.prog Try.f4 false true false false) := by
  refine returnsInHanded_of_change_sized (C := Try.checked) own started (by kernel_rfl) Try.func4
    (ChangeSpec.witness6 (enc := enc) (C := Try.checked) false ⟨#[], #[.agg #[.int .i64 0, .int .i64 0, .int .i64 0], .agg (Array.replicate 32 (.int .u8 0))], []⟩ 8 (by kernel_rfl) (by kernel_rfl) (by kernel_rfl) (by kernel_rfl)) ?_
  intro W base args ds gs before hval0 hW hcnd hsz0 _
  have hsz : (DataW.weightsEach Try.prog (Try.f4.params.toList ++ Rows.spanPartsSpec.plain.varTypes Try.prog) (ds ++ gs)).all (· ≤ reachBytes) = true := hsz0
  have hval : ∀ (j : Nat) t v, Try.f4.params[j]? = some t → args[j]? = some v → Value.okWide Try.prog W .any base t v := hval0
  have hW' := hW
  obtain ⟨p, q, hA0, hV, rfl, hfz, hnd⟩ := hW
  have hA : DataW.TrodAll enc Try.prog W 0 (fun _ => true) true Try.f4.params.toList args.toList ds p := hA0
  rw [Try.params4] at hA hval hsz
  obtain ⟨v0, vs0, d0, ds0, p0, q0, hargs, rfl, rfl, h0, r0⟩ := trodAll_cons hA
  obtain ⟨v1, vs1, d1, ds1, p1, q1, rfl, rfl, rfl, h1, r1⟩ := trodAll_cons r0
  obtain ⟨rfl, rfl, rfl⟩ := trodAll_nil r1
  obtain rfl : args = #[v0, v1] := by cases args; simp_all
  obtain ⟨rfl, rfl⟩ := trodVars_none hV
  have k0 := h0
  have lt0 : ∀ x ∈ p0, x.block < W.heap.size := by obtain ⟨m, hm⟩ := k0; exact DataW.trod_lt m _ _ _ hm
  have k1 := h1
  have lt1 : ∀ x ∈ p1, x.block < W.heap.size := by obtain ⟨m, hm⟩ := k1; exact DataW.trod_lt m _ _ _ hm
  obtain ⟨ns, rfl, hn, hnw⟩ := SR.open_arr Try.underlying31 Try.underlying3 (by kernel_rfl) (by kernel_rfl) (by decide) h0
  obtain ⟨pg, rfl, hpg, _⟩ := SR.open_arr Try.underlying32 Try.underlying5 (by kernel_rfl) (by kernel_rfl) (by decide) h1
  obtain ⟨n0, n1, n2, rfl⟩ := SR.list3 hn
  have w0 : Pure.I64 n0 := by
    have h9 := hnw n0 (by simp)
    exact ⟨of_decide_eq_true (Bool.and_eq_true_iff.1 h9).1, of_decide_eq_true (Bool.and_eq_true_iff.1 h9).2⟩
  have w2 : Pure.I64 n2 := by
    have h9 := hnw n2 (by simp)
    exact ⟨of_decide_eq_true (Bool.and_eq_true_iff.1 h9).1, of_decide_eq_true (Bool.and_eq_true_iff.1 h9).2⟩
  clear hA0 hval0 hsz0 hsz
  refine (Pure.law_calls n0 n1 n2 w0 w2 pg hpg W).mono fun e W' ⟨he, bel⟩ => ?_
  subst he
  exact ⟨_, rfl, _, _, _, [], _, [], hW', trodAll_mk1 (shut_bool Try.underlying4 _), (trodAll_cons_mk (Below.trod laidOut (by kernel_rfl) (of_decide_eq_true (by kernel_rfl)) k0 bel lt0) (trodAll_cons_mk (Below.trod laidOut (by kernel_rfl) (of_decide_eq_true (by kernel_rfl)) k1 bel lt1) trodAll_mk0)), rfl, bel.frame _, fun h => by cases h⟩
theorem over : Rows.spanPartsRow.holds Try.pinned (OpenSpec.ofChange Rows.spanPartsSpec) :=
  OpenClaim.holds_of_wide 4 Try.f4 rfl rfl rfl rfl rfl rfl rfl ⟨rfl, rfl, rfl, rfl, rfl⟩ rfl rfl rfl rfl rfl (by kernel_rfl) Try.func4 (by kernel_rfl)
    (of_decide_eq_true (by kernel_rfl)) (by unfold Func.isWrapper; first | (rw [if_pos (by decide +kernel)]; kernel_rfl) | (rw [if_neg (by decide +kernel)]; exact ⟨rfl, rfl⟩))
    (fun os started H enc _ => lifted os started H enc)
theorem proved : Rows.SpanPartsSaid := over
#print axioms proved
end Go.Proofs.Ytffpfneiaknfeaa.spanParts
namespace Go.Proofs.Ytffpfneiaknfeaa
/-- The row, under a short name, for the claim. -/
theorem spanParts_holds : Rows.SpanPartsSaid := spanParts.proved
end Go.Proofs.Ytffpfneiaknfeaa
