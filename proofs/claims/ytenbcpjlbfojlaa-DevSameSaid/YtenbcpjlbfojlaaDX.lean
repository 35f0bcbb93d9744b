/- The document's store, by hand: what stands in memory. -/
import Derived.Test.YtenbcpjlbfojlaaDR
namespace Go.Proofs.Ytenbcpjlbfojlaa.DA
open Go.RowKit Go.Proofs.YtenbcpjlbfojlaaW.PrintWords Go.Proofs.YtenbcpjlbfojlaaW.PrintLast Go.Proofs.YtenbcpjlbfojlaaW.PrintMore Go.Proofs.Ytenbcpjlbfojlaa.PD
set_option linter.unusedVariables false
set_option linter.unusedSimpArgs false
/-- What stands in memory: rows are never written in place, so they may share. RS: the blocks that are the store's. -/
structure Rm (base RB N : Nat) (d : Dv) (RS : Nat → Prop) (w : World) (vb vw vs vt : Value) : Prop where
  box : w.heap[RB]? = some (.cells #[.int .i64 (N : Int), vb, vw, vs, vt] 50 (0, 0))
  hB : base ≤ RB
  cB : RS RB
  rb : Kd.R kb 5 w base (fun k => RS k ∧ k ≠ RB) vb d.blocks
  rw : Kd.R kW 58 w base (fun k => RS k ∧ k ≠ RB) vw d.waits
  rs : Kd.R ks 35 w base (fun k => RS k ∧ k ≠ RB) vs d.shelf
  rt : Kd.R ki 3 w base (fun k => RS k ∧ k ≠ RB) vt d.trace
  lt : ∀ k, RS k → k < w.heap.size
section
variable {α : Type} {base RB N : Nat} {d : Dv} {RS RS' : Nat → Prop} {w w' w1 : World} {vb vw vs vt : Value}
theorem Rm.kept (h : Rm base RB N d RS w vb vw vs vt) {S : Nat → Prop} (hk : Kept w w' S) (hd : ∀ k, RS k → ¬ S k) : Rm base RB N d RS w' vb vw vs vt :=
  ⟨blk_kept h.box hk (hd RB h.cB), h.hB, h.cB, Kd.R_step h.rb (fun k hk2 hl => hk.2 k hl (hd k hk2.1)), Kd.R_step h.rw (fun k hk2 hl => hk.2 k hl (hd k hk2.1)), Kd.R_step h.rs (fun k hk2 hl => hk.2 k hl (hd k hk2.1)), Kd.R_step h.rt (fun k hk2 hl => hk.2 k hl (hd k hk2.1)), fun k hk2 => Nat.lt_of_lt_of_le (h.lt k hk2) hk.1⟩
theorem Rm.below (h : Rm base RB N d RS w vb vw vs vt) (hb : Below w.heap.size w w') : Rm base RB N d RS w' vb vw vs vt := h.kept (Kept.of_below hb (fun _ => False)) (fun _ _ h => h)
theorem Rm.bl (h : Rm base RB N d RS w vb vw vs vt) : RB < w.heap.size := blk_lt h.box
theorem Rm.c0 (h : Rm base RB N d RS w vb vw vs vt) : w.cell? ⟨RB, 0, none⟩ = some (.int .i64 (N : Int)) := (blk_cell h.box 0).trans rfl
theorem Rm.c1 (h : Rm base RB N d RS w vb vw vs vt) : w.cell? ⟨RB, 1, none⟩ = some vb := (blk_cell h.box 1).trans rfl
theorem Rm.c2 (h : Rm base RB N d RS w vb vw vs vt) : w.cell? ⟨RB, 2, none⟩ = some vw := (blk_cell h.box 2).trans rfl
theorem Rm.c3 (h : Rm base RB N d RS w vb vw vs vt) : w.cell? ⟨RB, 3, none⟩ = some vs := (blk_cell h.box 3).trans rfl
theorem Rm.c4 (h : Rm base RB N d RS w vb vw vs vt) : w.cell? ⟨RB, 4, none⟩ = some vt := (blk_cell h.box 4).trans rfl
theorem Rm.fz (h : Rm base RB N d RS w vb vw vs vt) (i : Nat) : w.frozen? ⟨RB, i, none⟩ = false := blk_frozen h.box i
/-- Behind a method. -/
def RAfter (base RB N : Nat) (d : Dv) (RS : Nat → Prop) (w w' : World) : Prop :=
  ∃ RS' vb vw vs vt, Rm base RB N d RS' w' vb vw vs vt ∧ (∀ k, RS' k → RS k ∨ w.heap.size ≤ k) ∧ Kept w w' (fun k => k = RB) ∧ Below base w w'
theorem RAfter.same (h : Rm base RB N d RS w vb vw vs vt) : RAfter base RB N d RS w w := ⟨RS, vb, vw, vs, vt, h, fun _ hk => .inl hk, Kept.refl _ _, Below.refl _ _⟩
theorem RAfter.of_below (h : Rm base RB N d RS w vb vw vs vt) (hb : Below w.heap.size w w') : RAfter base RB N d RS w w' :=
  ⟨RS, vb, vw, vs, vt, h.below hb, fun _ hk => .inl hk, Kept.of_below hb _, hb.mono (Nat.le_trans h.hB (Nat.le_of_lt h.bl))⟩
theorem RAfter.then_ {d2 : Dv} (h1 : (∀ k, RS' k → RS k ∨ w.heap.size ≤ k) ∧ Kept w w1 (fun k => k = RB) ∧ Below base w w1) (h2 : RAfter base RB N d2 RS' w1 w') : RAfter base RB N d2 RS w w' := by
  obtain ⟨hc, hk, hb⟩ := h1
  obtain ⟨RS2, vb, vw, vs, vt, hs, hc2, hk2, hb2⟩ := h2
  refine ⟨RS2, vb, vw, vs, vt, hs, fun k h => ?_, hk.then_ hk2 (fun k h => .inl h), hb.trans hb2⟩
  rcases hc2 k h with h | h
  · exact hc k h
  · exact .inr (Nat.le_trans hk.1 h)
theorem Rm.put1 {l : List Int} {v4 : Value} (h : Rm base RB N d RS w vb vw vs vt) (hb : Below w.heap.size w w1) (ho : Kd.R kb 5 w1 base (fun k => (RS k ∧ k ≠ RB) ∨ w.heap.size ≤ k) v4 l) :
    ∃ RS', Rm base RB N ⟨l, d.waits, d.shelf, d.trace⟩ RS' (w1.setCell ⟨RB, 1, none⟩ v4) v4 vw vs vt ∧ (∀ k, RS' k → RS k ∨ w.heap.size ≤ k) ∧ Kept w (w1.setCell ⟨RB, 1, none⟩ v4) (fun k => k = RB) ∧ Below base w (w1.setCell ⟨RB, 1, none⟩ v4) := by
  have hk : Kept w (w1.setCell ⟨RB, 1, none⟩ v4) (fun k => k = RB) := Kept.setCell (p := ⟨RB, 1, none⟩) (S := fun k => k = RB) (Kept.of_below hb _) (.inl rfl) v4
  have hbase := Nat.le_trans h.hB (Nat.le_of_lt h.bl)
  have hsz : (w1.setCell ⟨RB, 1, none⟩ v4).heap.size = w1.heap.size := World.size_setCell _ _ _
  refine ⟨fun k => RS k ∨ (w.heap.size ≤ k ∧ k < w1.heap.size), ⟨?_, h.hB, .inl h.cB, ?_, ?_, ?_, ?_, fun k hk2 => ?_⟩, fun k hk2 => ?_, hk, (hb.mono hbase).setCell h.hB v4⟩
  · exact blk_put (blk_below h.box hb) 1 v4 rfl
  · exact Kd.R_far (p := ⟨RB, 1, none⟩) (Kd.R_mono (Kd.R_bound ho) (fun k hk => by rcases hk.1 with h1 | h1; exact ⟨.inl h1.1, h1.2⟩; exact ⟨.inr ⟨h1, hk.2.2.1⟩, fun he => by have := h.bl; omega⟩)) (fun k hk => hk.2) v4
  · exact Kd.R_far (p := ⟨RB, 1, none⟩) (Kd.R_mono (Kd.R_step h.rw (fun k hk hl => hb.block k hl)) (fun k hk => ⟨.inl hk.1, hk.2⟩)) (fun k hk => hk.2) v4
  · exact Kd.R_far (p := ⟨RB, 1, none⟩) (Kd.R_mono (Kd.R_step h.rs (fun k hk hl => hb.block k hl)) (fun k hk => ⟨.inl hk.1, hk.2⟩)) (fun k hk => hk.2) v4
  · exact Kd.R_far (p := ⟨RB, 1, none⟩) (Kd.R_mono (Kd.R_step h.rt (fun k hk hl => hb.block k hl)) (fun k hk => ⟨.inl hk.1, hk.2⟩)) (fun k hk => hk.2) v4
  · rw [hsz]
    rcases hk2 with hk2 | hk2
    · exact Nat.lt_of_lt_of_le (h.lt k hk2) hb.size
    · exact hk2.2
  · rcases hk2 with hk2 | hk2
    · exact .inl hk2
    · exact .inr hk2.1
theorem Rm.put2 {l : List Wr} {v4 : Value} (h : Rm base RB N d RS w vb vw vs vt) (hb : Below w.heap.size w w1) (ho : Kd.R kW 58 w1 base (fun k => (RS k ∧ k ≠ RB) ∨ w.heap.size ≤ k) v4 l) :
    ∃ RS', Rm base RB N ⟨d.blocks, l, d.shelf, d.trace⟩ RS' (w1.setCell ⟨RB, 2, none⟩ v4) vb v4 vs vt ∧ (∀ k, RS' k → RS k ∨ w.heap.size ≤ k) ∧ Kept w (w1.setCell ⟨RB, 2, none⟩ v4) (fun k => k = RB) ∧ Below base w (w1.setCell ⟨RB, 2, none⟩ v4) := by
  have hk : Kept w (w1.setCell ⟨RB, 2, none⟩ v4) (fun k => k = RB) := Kept.setCell (p := ⟨RB, 2, none⟩) (S := fun k => k = RB) (Kept.of_below hb _) (.inl rfl) v4
  have hbase := Nat.le_trans h.hB (Nat.le_of_lt h.bl)
  have hsz : (w1.setCell ⟨RB, 2, none⟩ v4).heap.size = w1.heap.size := World.size_setCell _ _ _
  refine ⟨fun k => RS k ∨ (w.heap.size ≤ k ∧ k < w1.heap.size), ⟨?_, h.hB, .inl h.cB, ?_, ?_, ?_, ?_, fun k hk2 => ?_⟩, fun k hk2 => ?_, hk, (hb.mono hbase).setCell h.hB v4⟩
  · exact blk_put (blk_below h.box hb) 2 v4 rfl
  · exact Kd.R_far (p := ⟨RB, 2, none⟩) (Kd.R_mono (Kd.R_step h.rb (fun k hk hl => hb.block k hl)) (fun k hk => ⟨.inl hk.1, hk.2⟩)) (fun k hk => hk.2) v4
  · exact Kd.R_far (p := ⟨RB, 2, none⟩) (Kd.R_mono (Kd.R_bound ho) (fun k hk => by rcases hk.1 with h1 | h1; exact ⟨.inl h1.1, h1.2⟩; exact ⟨.inr ⟨h1, hk.2.2.1⟩, fun he => by have := h.bl; omega⟩)) (fun k hk => hk.2) v4
  · exact Kd.R_far (p := ⟨RB, 2, none⟩) (Kd.R_mono (Kd.R_step h.rs (fun k hk hl => hb.block k hl)) (fun k hk => ⟨.inl hk.1, hk.2⟩)) (fun k hk => hk.2) v4
  · exact Kd.R_far (p := ⟨RB, 2, none⟩) (Kd.R_mono (Kd.R_step h.rt (fun k hk hl => hb.block k hl)) (fun k hk => ⟨.inl hk.1, hk.2⟩)) (fun k hk => hk.2) v4
  · rw [hsz]
    rcases hk2 with hk2 | hk2
    · exact Nat.lt_of_lt_of_le (h.lt k hk2) hb.size
    · exact hk2.2
  · rcases hk2 with hk2 | hk2
    · exact .inl hk2
    · exact .inr hk2.1
theorem Rm.put3 {l : List (List Int)} {v4 : Value} (h : Rm base RB N d RS w vb vw vs vt) (hb : Below w.heap.size w w1) (ho : Kd.R ks 35 w1 base (fun k => (RS k ∧ k ≠ RB) ∨ w.heap.size ≤ k) v4 l) :
    ∃ RS', Rm base RB N ⟨d.blocks, d.waits, l, d.trace⟩ RS' (w1.setCell ⟨RB, 3, none⟩ v4) vb vw v4 vt ∧ (∀ k, RS' k → RS k ∨ w.heap.size ≤ k) ∧ Kept w (w1.setCell ⟨RB, 3, none⟩ v4) (fun k => k = RB) ∧ Below base w (w1.setCell ⟨RB, 3, none⟩ v4) := by
  have hk : Kept w (w1.setCell ⟨RB, 3, none⟩ v4) (fun k => k = RB) := Kept.setCell (p := ⟨RB, 3, none⟩) (S := fun k => k = RB) (Kept.of_below hb _) (.inl rfl) v4
  have hbase := Nat.le_trans h.hB (Nat.le_of_lt h.bl)
  have hsz : (w1.setCell ⟨RB, 3, none⟩ v4).heap.size = w1.heap.size := World.size_setCell _ _ _
  refine ⟨fun k => RS k ∨ (w.heap.size ≤ k ∧ k < w1.heap.size), ⟨?_, h.hB, .inl h.cB, ?_, ?_, ?_, ?_, fun k hk2 => ?_⟩, fun k hk2 => ?_, hk, (hb.mono hbase).setCell h.hB v4⟩
  · exact blk_put (blk_below h.box hb) 3 v4 rfl
  · exact Kd.R_far (p := ⟨RB, 3, none⟩) (Kd.R_mono (Kd.R_step h.rb (fun k hk hl => hb.block k hl)) (fun k hk => ⟨.inl hk.1, hk.2⟩)) (fun k hk => hk.2) v4
  · exact Kd.R_far (p := ⟨RB, 3, none⟩) (Kd.R_mono (Kd.R_step h.rw (fun k hk hl => hb.block k hl)) (fun k hk => ⟨.inl hk.1, hk.2⟩)) (fun k hk => hk.2) v4
  · exact Kd.R_far (p := ⟨RB, 3, none⟩) (Kd.R_mono (Kd.R_bound ho) (fun k hk => by rcases hk.1 with h1 | h1; exact ⟨.inl h1.1, h1.2⟩; exact ⟨.inr ⟨h1, hk.2.2.1⟩, fun he => by have := h.bl; omega⟩)) (fun k hk => hk.2) v4
  · exact Kd.R_far (p := ⟨RB, 3, none⟩) (Kd.R_mono (Kd.R_step h.rt (fun k hk hl => hb.block k hl)) (fun k hk => ⟨.inl hk.1, hk.2⟩)) (fun k hk => hk.2) v4
  · rw [hsz]
    rcases hk2 with hk2 | hk2
    · exact Nat.lt_of_lt_of_le (h.lt k hk2) hb.size
    · exact hk2.2
  · rcases hk2 with hk2 | hk2
    · exact .inl hk2
    · exact .inr hk2.1
theorem Rm.put4 {l : List Int} {v4 : Value} (h : Rm base RB N d RS w vb vw vs vt) (hb : Below w.heap.size w w1) (ho : Kd.R ki 3 w1 base (fun k => (RS k ∧ k ≠ RB) ∨ w.heap.size ≤ k) v4 l) :
    ∃ RS', Rm base RB N ⟨d.blocks, d.waits, d.shelf, l⟩ RS' (w1.setCell ⟨RB, 4, none⟩ v4) vb vw vs v4 ∧ (∀ k, RS' k → RS k ∨ w.heap.size ≤ k) ∧ Kept w (w1.setCell ⟨RB, 4, none⟩ v4) (fun k => k = RB) ∧ Below base w (w1.setCell ⟨RB, 4, none⟩ v4) := by
  have hk : Kept w (w1.setCell ⟨RB, 4, none⟩ v4) (fun k => k = RB) := Kept.setCell (p := ⟨RB, 4, none⟩) (S := fun k => k = RB) (Kept.of_below hb _) (.inl rfl) v4
  have hbase := Nat.le_trans h.hB (Nat.le_of_lt h.bl)
  have hsz : (w1.setCell ⟨RB, 4, none⟩ v4).heap.size = w1.heap.size := World.size_setCell _ _ _
  refine ⟨fun k => RS k ∨ (w.heap.size ≤ k ∧ k < w1.heap.size), ⟨?_, h.hB, .inl h.cB, ?_, ?_, ?_, ?_, fun k hk2 => ?_⟩, fun k hk2 => ?_, hk, (hb.mono hbase).setCell h.hB v4⟩
  · exact blk_put (blk_below h.box hb) 4 v4 rfl
  · exact Kd.R_far (p := ⟨RB, 4, none⟩) (Kd.R_mono (Kd.R_step h.rb (fun k hk hl => hb.block k hl)) (fun k hk => ⟨.inl hk.1, hk.2⟩)) (fun k hk => hk.2) v4
  · exact Kd.R_far (p := ⟨RB, 4, none⟩) (Kd.R_mono (Kd.R_step h.rw (fun k hk hl => hb.block k hl)) (fun k hk => ⟨.inl hk.1, hk.2⟩)) (fun k hk => hk.2) v4
  · exact Kd.R_far (p := ⟨RB, 4, none⟩) (Kd.R_mono (Kd.R_step h.rs (fun k hk hl => hb.block k hl)) (fun k hk => ⟨.inl hk.1, hk.2⟩)) (fun k hk => hk.2) v4
  · exact Kd.R_far (p := ⟨RB, 4, none⟩) (Kd.R_mono (Kd.R_bound ho) (fun k hk => by rcases hk.1 with h1 | h1; exact ⟨.inl h1.1, h1.2⟩; exact ⟨.inr ⟨h1, hk.2.2.1⟩, fun he => by have := h.bl; omega⟩)) (fun k hk => hk.2) v4
  · rw [hsz]
    rcases hk2 with hk2 | hk2
    · exact Nat.lt_of_lt_of_le (h.lt k hk2) hb.size
    · exact hk2.2
  · rcases hk2 with hk2 | hk2
    · exact .inl hk2
    · exact .inr hk2.1
end
end Go.Proofs.Ytenbcpjlbfojlaa.DA
