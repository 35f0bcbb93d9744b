/- A slice of steps that came in, opened. -/
import Derived.Test.YtfbfloiflcjdjaaER
import Derived.Deep.Slices
import Derived.ChangeSame
namespace Go.Proofs.Ytfbfloiflcjdjaa.EO
open Go.RowKit Go.Maps Go.ChangeShapes Go.WideShapes Go.Deep Go.Proofs.YtfbfloiflcjdjaaW.PrintWords Go.Proofs.YtfbfloiflcjdjaaW.PrintLast Go.Proofs.YtfbfloiflcjdjaaW.PrintMore Go.Proofs.Ytfbfloiflcjdjaa.PE Go.Proofs.Ytfbfloiflcjdjaa.EM Go.Proofs.Ytfbfloiflcjdjaa.EN
theorem open_steps {H : Type} {enc : TypeId × Value → H} {W : World} {base : Nat} {spare : Nat → Bool} {held : Bool} {a : Option Addr} {len cap : Nat} {d : DataW H} {ps : List MemPlace} (h : DataW.Trod enc Try.prog W base spare held 23 (.slice a len cap) d ps) :
    len ≤ cap ∧ cap ≤ 9223372036854775807 ∧ ∃ l, Kd.C k29 W a len l ∧ Steps l := by
  obtain ⟨fuel, hf⟩ := h
  rcases open_slice Try.underlying23 hf with ⟨hcs, _⟩ | ⟨x, l, c, m, n, D, Pl, hcs, _, hl, hc, hm, _, hi⟩
  · simp [Value.cells] at hcs
    obtain ⟨rfl, rfl, rfl⟩ := hcs
    exact ⟨Nat.le_refl _, by decide, [], ⟨rfl, by decide, fun h0 => absurd h0 (by decide)⟩, fun s hs => absurd hs (by simp)⟩
  · simp [Value.cells] at hcs
    obtain ⟨rfl, rfl, rfl⟩ := hcs
    have hcap : cap ≤ 9223372036854775807 := by unfold maxLen at hc; exact hc
    have hlm : len ≤ m := by rw [hm]; split <;> omega
    have hx : ∀ i, ∃ s : S29, i < len → (((0 ≤ s.f0 ∧ s.f0 ≤ 255) ∧ (Lit.int .i64 s.f1).wf = true) ∧ W.cell? ((x.add (i * 2)).add 0) = some (.int .u8 s.f0) ∧ W.cell? ((x.add (i * 2)).add 1) = some (.int .i64 s.f1)) := by
      intro i
      by_cases hil : i < len
      · obtain ⟨cs', hcell, ht⟩ := hi i (Nat.lt_of_lt_of_le hil hlm)
        have hC : Try.prog.cellsOf 29 = 2 := by kernel_rfl
        rw [hC] at hcell
        obtain ⟨_, hcl, hat⟩ := World.cells?_some hcell
        obtain ⟨y0, y1, n2, _, _, h0, h1⟩ := trod_struct2 Try.underlying29 ht
        match cs', hcl with
        | [v0, v1], _ =>
          obtain ⟨p0, e0, _, w0⟩ := DataW.trod_int Try.underlying5 h0
          obtain ⟨p1, e1, _, w1⟩ := DataW.trod_int Try.underlying3 h1
          have e0' : v0 = .int .u8 p0 := by
            have : [v0] = [Value.int .u8 p0] := e0
            injection this
          have e1' : v1 = .int .i64 p1 := by
            have : [v1] = [Value.int .i64 p1] := e1
            injection this
          subst e0' e1'
          refine ⟨⟨p0, p1⟩, fun _ => ⟨⟨⟨of_decide_eq_true (Bool.and_eq_true_iff.1 w0).1, of_decide_eq_true (Bool.and_eq_true_iff.1 w0).2⟩, w1⟩, ?_, ?_⟩⟩
          · exact hat 0 (by decide)
          · exact hat 1 (by decide)
      · exact ⟨z29, fun h => absurd h hil⟩
    let f : Nat → S29 := fun i => Classical.choose (hx i)
    have hfx : ∀ i, i < len → _ := fun i => Classical.choose_spec (hx i)
    refine ⟨hl, hcap, (List.range len).map f, ⟨by simp, by omega, fun _ => ⟨x, rfl, fun j p hj => ?_⟩⟩, fun s hs => ?_⟩
    · have hjl : j < len := by
        have := (List.getElem?_eq_some_iff.1 hj).1
        simpa using this
      have hp : f j = p := by
        rw [List.getElem?_map, List.getElem?_range hjl] at hj
        simpa using hj
      subst hp
      obtain ⟨_, h0, h1⟩ := hfx j hjl
      refine ⟨_, rfl, k29_mk W _, fun i u hu => ?_⟩
      show W.cell? (x.add (j * 2 + i)) = some u
      rw [← Go.Deep.add_add]
      match i, hu with
      | 0, hu => exact h0.trans hu
      | 1, hu => exact h1.trans hu
    · obtain ⟨i, hi2, rfl⟩ := List.mem_map.1 hs
      exact (hfx i (List.mem_range.1 hi2)).1
end Go.Proofs.Ytfbfloiflcjdjaa.EO
