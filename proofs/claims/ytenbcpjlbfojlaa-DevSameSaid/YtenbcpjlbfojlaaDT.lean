/- A slice of steps that came in, opened. -/
import Derived.Test.YtenbcpjlbfojlaaDQ
import Derived.Deep.Slices
import Derived.ChangeSame
import Derived.ChangeArms
namespace Go.Proofs.Ytenbcpjlbfojlaa.DA
open Go.RowKit Go.Maps Go.ChangeShapes Go.WideShapes Go.Deep Go.Proofs.YtenbcpjlbfojlaaW.PrintWords Go.Proofs.YtenbcpjlbfojlaaW.PrintLast Go.Proofs.YtenbcpjlbfojlaaW.PrintMore Go.Proofs.Ytenbcpjlbfojlaa.PD
theorem k31_mk' (w : World) (x : S31) : k31.K w x [.int .u8 x.f0, .int .i64 x.f1, .int .i64 x.f2, .int .u8 x.f3, .int .u64 x.f4] := k31_mk w x
theorem open_step {H : Type} {enc : TypeId × Value → H} {W : World} {base : Nat} {spare : Nat → Bool} {held : Bool} {fuel : Nat} {cs : List Value} {x : DataW H × List MemPlace} (h : DataW.trod enc Try.prog W base spare held fuel 31 cs = some x) :
    ∃ s : S31, StepOk s ∧ cs = [.int .u8 s.f0, .int .i64 s.f1, .int .i64 s.f2, .int .u8 s.f3, .int .u64 s.f4] := by
  obtain ⟨xs, n, _, rfl, hcl, hlen, hf⟩ := DataW.trod_struct Try.underlying31 h
  have hC : Try.prog.cellsOf 31 = 5 := by kernel_rfl
  rw [hC] at hcl
  match xs, hlen, cs, hcl with
  | [y0, y1, y2, y3, y4], _, [v0, v1, v2, v3, v4], _ =>
    have h0 := hf 0 _ rfl
    have h1 := hf 1 _ rfl
    have h2 := hf 2 _ rfl
    have h3 := hf 3 _ rfl
    have h4 := hf 4 _ rfl
    obtain ⟨p0, e0, _, w0⟩ := DataW.trod_int Try.underlying5 h0
    obtain ⟨p1, e1, _, w1⟩ := DataW.trod_int Try.underlying3 h1
    obtain ⟨p2, e2, _, w2⟩ := DataW.trod_int Try.underlying3 h2
    obtain ⟨p3, e3, _, w3⟩ := DataW.trod_int Try.underlying5 h3
    obtain ⟨p4, e4, _, w4⟩ := DataW.trod_int Try.underlying29 h4
    injection e0 with e0
    injection e1 with e1
    injection e2 with e2
    injection e3 with e3
    injection e4 with e4
    subst e0 e1 e2 e3 e4
    exact ⟨⟨p0, p1, p2, p3, p4⟩, ⟨⟨of_decide_eq_true (Bool.and_eq_true_iff.1 w0).1, of_decide_eq_true (Bool.and_eq_true_iff.1 w0).2⟩, w1, w2, ⟨of_decide_eq_true (Bool.and_eq_true_iff.1 w3).1, of_decide_eq_true (Bool.and_eq_true_iff.1 w3).2⟩, ⟨of_decide_eq_true (Bool.and_eq_true_iff.1 w4).1, of_decide_eq_true (Bool.and_eq_true_iff.1 w4).2⟩⟩, rfl⟩
theorem open_steps {H : Type} {enc : TypeId × Value → H} {W : World} {base : Nat} {spare : Nat → Bool} {held : Bool} {a : Option Addr} {len cap : Nat} {d : DataW H} {ps : List MemPlace} (h : DataW.Trod enc Try.prog W base spare held 22 (.slice a len cap) d ps) :
    len ≤ cap ∧ cap ≤ 9223372036854775807 ∧ ∃ l, Kd.C k31 W a len l ∧ Steps l := by
  obtain ⟨fuel, hf⟩ := h
  rcases open_slice Try.underlying22 hf with ⟨hcs, _⟩ | ⟨x, l, c, m, n, D, Pl, hcs, _, hl, hc, hm, _, hi⟩
  · simp [Value.cells] at hcs
    obtain ⟨rfl, rfl, rfl⟩ := hcs
    exact ⟨Nat.le_refl _, by decide, [], ⟨rfl, by decide, fun h0 => absurd h0 (by decide)⟩, fun s hs => absurd hs (by simp)⟩
  · simp [Value.cells] at hcs
    obtain ⟨rfl, rfl, rfl⟩ := hcs
    have hcap : cap ≤ 9223372036854775807 := by unfold maxLen at hc; exact hc
    have hlm : len ≤ m := by rw [hm]; split <;> omega
    have hx : ∀ i, ∃ s : S31, i < len → StepOk s ∧ ∀ j u, [Value.int .u8 s.f0, .int .i64 s.f1, .int .i64 s.f2, .int .u8 s.f3, .int .u64 s.f4][j]? = some u → W.cell? ((x.add (i * 5)).add j) = some u := by
      intro i
      by_cases hil : i < len
      · obtain ⟨cs', hcell, ht⟩ := hi i (Nat.lt_of_lt_of_le hil hlm)
        have hC : Try.prog.cellsOf 31 = 5 := by kernel_rfl
        rw [hC] at hcell
        obtain ⟨_, hcl, hat⟩ := World.cells?_some hcell
        obtain ⟨s, hs, rfl⟩ := open_step ht
        refine ⟨s, fun _ => ⟨hs, fun j u hu => ?_⟩⟩
        rw [← hu]
        exact hat j (by simpa using (List.getElem?_eq_some_iff.1 hu).1)
      · exact ⟨z31, fun h => absurd h hil⟩
    let f : Nat → S31 := fun i => Classical.choose (hx i)
    have hfx : ∀ i, i < len → _ := fun i => Classical.choose_spec (hx i)
    refine ⟨hl, hcap, (List.range len).map f, ⟨by simp, by omega, fun _ => ⟨x, rfl, fun j p hj => ?_⟩⟩, fun s hs => ?_⟩
    · have hjl : j < len := by
        have := (List.getElem?_eq_some_iff.1 hj).1
        simpa using this
      have hp : f j = p := by
        rw [List.getElem?_map, List.getElem?_range hjl] at hj
        simpa using hj
      subst hp
      refine ⟨_, rfl, k31_mk' W _, fun i u hu => ?_⟩
      show W.cell? (x.add (j * 5 + i)) = some u
      rw [← Go.Deep.add_add]
      exact (hfx j hjl).2 i u hu
    · obtain ⟨i, hi2, rfl⟩ := List.mem_map.1 hs
      exact (hfx i (List.mem_range.1 hi2)).1
theorem open_stepv {H : Type} {enc : TypeId × Value → H} {W : World} {base : Nat} {spare : Nat → Bool} {held : Bool} {v : Value} {d : DataW H} {ps : List MemPlace} (h : DataW.Trod enc Try.prog W base spare held 31 v d ps) :
    ∃ s : S31, StepOk s ∧ v = .agg #[.int .u8 s.f0, .int .i64 s.f1, .int .i64 s.f2, .int .u8 s.f3, .int .u64 s.f4] := by
  obtain ⟨fuel, hf⟩ := h
  obtain ⟨s, hs, hc⟩ := open_step hf
  refine ⟨s, hs, ?_⟩
  cases v with
  | agg cs => exact congrArg Value.agg (Array.ext' hc)
  | _ => simp [Value.cells] at hc
end Go.Proofs.Ytenbcpjlbfojlaa.DA
