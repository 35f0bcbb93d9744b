/- The program's store, by hand: what stands in memory. -/
import Derived.Test.YtenbcpjlbfojlaaDB
namespace Go.Proofs.Ytenbcpjlbfojlaa.DA
open Go.RowKit Go.Proofs.YtenbcpjlbfojlaaW.PrintWords Go.Proofs.YtenbcpjlbfojlaaW.PrintLast Go.Proofs.YtenbcpjlbfojlaaW.PrintMore Go.Proofs.Ytenbcpjlbfojlaa.PD
set_option linter.unusedVariables false
set_option linter.unusedSimpArgs false
/-- A write that waits. -/
structure Wr where
  n : Int
  b : List Int
def kW : Kd Wr := Kd.iso (Kd.pair (Kd.int .i64) (Kd.slice 5 kb)) (fun x : Wr => (x.n, x.b))
abbrev ks : Kd (List Int) := Kd.slice 5 kb
theorem kW_mkM {w : World} {base : Nat} {ok : Nat → Prop} {n : Int} {b : List Int} {v : Value} (h : Kd.R kb 5 w base ok v b) : kW.M w base ok ⟨n, b⟩ [.int .i64 n, v] := ⟨[.int .i64 n], [v], rfl, rfl, v, rfl, h⟩
theorem kW_openM {w : World} {base : Nat} {ok : Nat → Prop} {x : Wr} {cs : List Value} (h : kW.M w base ok x cs) : ∃ v, cs = [.int .i64 x.n, v] ∧ Kd.R kb 5 w base ok v x.b := by
  obtain ⟨_, _, rfl, rfl, v, rfl, hr⟩ := h
  exact ⟨v, rfl, hr⟩
theorem kW_open {w : World} {x : Wr} {cs : List Value} (h : kW.K w x cs) : ∃ A c, cs = [.int .i64 x.n, .slice A x.b.length c] ∧ x.b.length ≤ c ∧ Kd.C kb w A x.b.length x.b := by
  obtain ⟨_, _, rfl, rfl, A, c, rfl, hl, hr⟩ := h
  exact ⟨A, c, rfl, hl, hr⟩
theorem ks_mkM {w : World} {base : Nat} {ok : Nat → Prop} {b : List Int} {v : Value} (h : Kd.R kb 5 w base ok v b) : ks.M w base ok b [v] := ⟨v, rfl, h⟩
theorem ks_open {w : World} {x : List Int} {cs : List Value} (h : ks.K w x cs) : ∃ A c, cs = [.slice A x.length c] ∧ x.length ≤ c ∧ Kd.C kb w A x.length x := by
  obtain ⟨A, c, rfl, hl, hr⟩ := h
  exact ⟨A, c, rfl, hl, hr⟩
theorem info71 : (Try.prog.info? 71).map (fun i => (i.zero, i.size, i.bytes)) = some (some (.agg #[.int .i64 0, .slice none 0 0]), 2, 32) := by kernel_rfl
theorem info58' : (Try.prog.info? 58).map (fun i => (i.zero, i.size, i.bytes)) = some (some (.agg #[.int .i64 0, .slice none 0 0]), 2, 32) := by kernel_rfl
theorem info35 : (Try.prog.info? 35).map (fun i => (i.zero, i.size, i.bytes)) = some (some (.slice none 0 0), 1, 24) := by kernel_rfl
/-- A store: blocks, one behind the other, writes that wait, a shelf, a trace. -/
structure Dv where
  blocks : List Int
  waits : List Wr
  shelf : List (List Int)
  trace : List Int
/-- What stands in memory. col tells of each block what it is of: 0 nothing of the store's, 1 the store, 2 the blocks, 3 what waits, 4 the shelf, 5 the trace. -/
structure Sd (base B : Nat) (d : Dv) (col : Nat → Nat) (w : World) (vb vw vs vt : Value) : Prop where
  box : w.heap[B]? = some (.cells #[vb, vw, vs, vt] 62 (0, 0))
  hB : base ≤ B
  cB : col B = 1
  rb : Kd.R kb 5 w base (fun k => col k = 2) vb d.blocks
  rw : Kd.R kW 71 w base (fun k => col k = 3) vw d.waits
  rs : Kd.R ks 35 w base (fun k => col k = 4) vs d.shelf
  rt : Kd.R ki 3 w base (fun k => col k = 5) vt d.trace
  lt : ∀ k, col k ≠ 0 → k < w.heap.size
section
variable {α : Type} {base B : Nat} {d : Dv} {col col' : Nat → Nat} {w w' w1 : World} {vb vw vs vt : Value}
theorem row_keep {k : Kd α} {e i : Nat} {v : Value} {xs : List α} (h : k.R e w base (fun j => col j = i) v xs) (hm : ∀ j, col j = i → j < w.heap.size → w'.heap[j]? = w.heap[j]?) (hc : ∀ j, col j = i → j < w.heap.size → col' j = i) : k.R e w' base (fun j => col' j = i) v xs :=
  Kd.R_mono (Kd.R_step (Kd.R_bound h) (fun j hj _ => hm j hj.1 hj.2.2.1)) (fun j hj => hc j hj.1 hj.2.2.1)
theorem Sd.kept (h : Sd base B d col w vb vw vs vt) {S : Nat → Prop} (hk : Kept w w' S) (hd : ∀ k, col k ≠ 0 → ¬ S k) : Sd base B d col w' vb vw vs vt :=
  ⟨blk_kept h.box hk (hd B (by rw [h.cB]; decide)), h.hB, h.cB, row_keep h.rb (fun j hj hl => hk.2 j hl (hd j (by omega))) (fun _ h _ => h), row_keep h.rw (fun j hj hl => hk.2 j hl (hd j (by omega))) (fun _ h _ => h), row_keep h.rs (fun j hj hl => hk.2 j hl (hd j (by omega))) (fun _ h _ => h), row_keep h.rt (fun j hj hl => hk.2 j hl (hd j (by omega))) (fun _ h _ => h), fun k hk2 => Nat.lt_of_lt_of_le (h.lt k hk2) hk.1⟩
theorem Sd.below (h : Sd base B d col w vb vw vs vt) (hb : Below w.heap.size w w') : Sd base B d col w' vb vw vs vt := h.kept (Kept.of_below hb (fun _ => False)) (fun _ _ h => h)
theorem Sd.drew (h : Sd base B d col w vb vw vs vt) : Sd base B d col w.drew vb vw vs vt := h.below (below_drew1 (Below.refl _ _))
theorem Sd.bl (h : Sd base B d col w vb vw vs vt) : B < w.heap.size := blk_lt h.box
theorem Sd.c0 (h : Sd base B d col w vb vw vs vt) : w.cell? ⟨B, 0, none⟩ = some vb := (blk_cell h.box 0).trans rfl
theorem Sd.c1 (h : Sd base B d col w vb vw vs vt) : w.cell? ⟨B, 1, none⟩ = some vw := (blk_cell h.box 1).trans rfl
theorem Sd.c2 (h : Sd base B d col w vb vw vs vt) : w.cell? ⟨B, 2, none⟩ = some vs := (blk_cell h.box 2).trans rfl
theorem Sd.c3 (h : Sd base B d col w vb vw vs vt) : w.cell? ⟨B, 3, none⟩ = some vt := (blk_cell h.box 3).trans rfl
/-- What is new becomes of i. -/
def dye (col : Nat → Nat) (lo hi i : Nat) : Nat → Nat := fun k => if lo ≤ k ∧ k < hi then i else col k
theorem dye_old {lo hi i k : Nat} (h : k < lo) : dye col lo hi i k = col k := by unfold dye; rw [if_neg (by omega)]
theorem dye_new {lo hi i k : Nat} (h : lo ≤ k) (h2 : k < hi) : dye col lo hi i k = i := by unfold dye; rw [if_pos ⟨h, h2⟩]
theorem row_dye {k : Kd α} {e i lo : Nat} {v : Value} {xs : List α} (h : k.R e w1 base (fun j => (col j = i ∧ j < lo) ∨ lo ≤ j) v xs) (hm : ∀ j, j < w1.heap.size → ((col j = i ∧ j < lo) ∨ lo ≤ j) → w'.heap[j]? = w1.heap[j]?) : k.R e w' base (fun j => dye col lo w1.heap.size i j = i) v xs :=
  Kd.R_mono (Kd.R_step (Kd.R_bound h) (fun j hj _ => hm j hj.2.2.1 hj.1)) (fun j hj => by
    rcases hj.1 with h9 | h9
    · rw [dye_old h9.2]; exact h9.1
    · exact dye_new h9 hj.2.2.1)
/-- Behind a method. -/
def SAfter (base B : Nat) (d : Dv) (col : Nat → Nat) (w w' : World) : Prop :=
  ∃ col' vb vw vs vt, Sd base B d col' w' vb vw vs vt ∧ (∀ k, col' k ≠ 0 → col k ≠ 0 ∨ w.heap.size ≤ k) ∧ Kept w w' (fun k => col k ≠ 0) ∧ Below base w w'
theorem SAfter.same (h : Sd base B d col w vb vw vs vt) : SAfter base B d col w w := ⟨col, vb, vw, vs, vt, h, fun _ hk => .inl hk, Kept.refl _ _, Below.refl _ _⟩
theorem SAfter.of_below (h : Sd base B d col w vb vw vs vt) (hb : Below w.heap.size w w') : SAfter base B d col w w' :=
  ⟨col, vb, vw, vs, vt, h.below hb, fun _ hk => .inl hk, Kept.of_below hb _, hb.mono (Nat.le_trans h.hB (Nat.le_of_lt h.bl))⟩
/-- A method behind a method. -/
theorem SAfter.then_ {d2 : Dv} (h1 : (∀ k, col' k ≠ 0 → col k ≠ 0 ∨ w.heap.size ≤ k) ∧ Kept w w1 (fun k => col k ≠ 0) ∧ Below base w w1) (h2 : SAfter base B d2 col' w1 w') : SAfter base B d2 col w w' := by
  obtain ⟨hc, hk, hb⟩ := h1
  obtain ⟨col2, vb, vw, vs, vt, hs, hc2, hk2, hb2⟩ := h2
  refine ⟨col2, vb, vw, vs, vt, hs, fun k h => ?_, hk.then_ hk2 hc, hb.trans hb2⟩
  rcases hc2 k h with h | h
  · exact hc k h
  · exact .inr (Nat.le_trans hk.1 h)
/-- A row of the store's has grown, and the store has been told so: colour i, field j. w: ahead; w1: behind the append. -/
theorem kept_row {i : Nat} (hi : i ≠ 0) {v : Value} (hv : ∀ k, v.ownBlock = some k → col k = i) (hg : w.grownBy w1 v.ownBlock) : Kept w w1 (fun k => col k ≠ 0) :=
  Kept.of_grown hg (Kept.refl _ _) (fun k hk => .inl (by rw [hv k hk]; exact hi))
/-- A row of colour i is not the store's own block. -/
theorem Sd.ne_own {i : Nat} {v : Value} (h : Sd base B d col w vb vw vs vt) (hi : i ≠ 1) (hv : ∀ k, v.ownBlock = some k → col k = i) : some B ≠ v.ownBlock := fun he => by
  have h1 := hv B he.symm
  have h2 := h.cB
  omega
/-- The blocks, new or grown, stand in their field. -/
theorem Sd.put0 {l : List Int} {v4 : Value} (h : Sd base B d col w vb vw vs vt) (ho : Kd.R kb 5 w1 base (fun j => (col j = 2 ∧ j < w.heap.size) ∨ w.heap.size ≤ j) v4 l) (hg : Kept w w1 (fun k => col k = 2)) (hb : Below base w w1) :
    ∃ col', Sd base B ⟨l, d.waits, d.shelf, d.trace⟩ col' (w1.setCell ⟨B, 0, none⟩ v4) v4 vw vs vt ∧ (∀ k, col' k ≠ 0 → col k ≠ 0 ∨ w.heap.size ≤ k) ∧ Kept w (w1.setCell ⟨B, 0, none⟩ v4) (fun k => col k ≠ 0) ∧ Below base w (w1.setCell ⟨B, 0, none⟩ v4) := by
  have hlt := h.bl
  have hcol : ∀ k, k < w.heap.size → dye col w.heap.size w1.heap.size 2 k = col k := fun k hk => dye_old hk
  have hk : ∀ j, j < w.heap.size → col j ≠ 2 → j ≠ B → (w1.setCell ⟨B, 0, none⟩ v4).heap[j]? = w.heap[j]? := fun j hj h5 hB => (Below.heap_setCell w1 ⟨B, 0, none⟩ v4 j hB).trans (hg.2 j hj h5)
  have hBc : ∀ j, col j ≠ 1 → j ≠ B := fun j h1 he => h1 (he ▸ h.cB)
  refine ⟨dye col w.heap.size w1.heap.size 2, ⟨blk_put (blk_kept h.box hg (by rw [h.cB]; decide)) 0 _ rfl, h.hB, by rw [hcol B hlt]; exact h.cB, ?_, ?_, ?_, ?_, ?_⟩, ?_, ?_, ?_⟩
  · exact row_dye ho (fun j hj h9 => Below.heap_setCell w1 ⟨B, 0, none⟩ v4 j (by rcases h9 with h9 | h9; exact hBc j (by omega); show j ≠ B; omega))
  · exact row_keep h.rw (fun j hj hl => hk j hl (by omega) (hBc j (by omega))) (fun j hj hl => by rw [hcol j hl]; exact hj)
  · exact row_keep h.rs (fun j hj hl => hk j hl (by omega) (hBc j (by omega))) (fun j hj hl => by rw [hcol j hl]; exact hj)
  · exact row_keep h.rt (fun j hj hl => hk j hl (by omega) (hBc j (by omega))) (fun j hj hl => by rw [hcol j hl]; exact hj)
  · intro k hk2
    by_cases h9 : w.heap.size ≤ k ∧ k < w1.heap.size
    · simpa [World.setCell] using h9.2
    · have h8 : col k ≠ 0 := by unfold dye at hk2; rw [if_neg h9] at hk2; exact hk2
      have := h.lt k h8
      have := hg.1
      simp [World.setCell]
      omega
  · intro k hk2
    by_cases h9 : w.heap.size ≤ k ∧ k < w1.heap.size
    · exact .inr h9.1
    · unfold dye at hk2; rw [if_neg h9] at hk2; exact .inl hk2
  · exact (hg.mono (fun k hk => by rw [hk]; decide)).setCell (p := ⟨B, 0, none⟩) (.inl (by rw [h.cB]; decide)) _
  · exact hb.setCell (p := ⟨B, 0, none⟩) h.hB _
/-- The waits, new or grown, stand in their field. -/
theorem Sd.put1 {l : List Wr} {v4 : Value} (h : Sd base B d col w vb vw vs vt) (ho : Kd.R kW 71 w1 base (fun j => (col j = 3 ∧ j < w.heap.size) ∨ w.heap.size ≤ j) v4 l) (hg : Kept w w1 (fun k => col k = 3)) (hb : Below base w w1) :
    ∃ col', Sd base B ⟨d.blocks, l, d.shelf, d.trace⟩ col' (w1.setCell ⟨B, 1, none⟩ v4) vb v4 vs vt ∧ (∀ k, col' k ≠ 0 → col k ≠ 0 ∨ w.heap.size ≤ k) ∧ Kept w (w1.setCell ⟨B, 1, none⟩ v4) (fun k => col k ≠ 0) ∧ Below base w (w1.setCell ⟨B, 1, none⟩ v4) := by
  have hlt := h.bl
  have hcol : ∀ k, k < w.heap.size → dye col w.heap.size w1.heap.size 3 k = col k := fun k hk => dye_old hk
  have hk : ∀ j, j < w.heap.size → col j ≠ 3 → j ≠ B → (w1.setCell ⟨B, 1, none⟩ v4).heap[j]? = w.heap[j]? := fun j hj h5 hB => (Below.heap_setCell w1 ⟨B, 1, none⟩ v4 j hB).trans (hg.2 j hj h5)
  have hBc : ∀ j, col j ≠ 1 → j ≠ B := fun j h1 he => h1 (he ▸ h.cB)
  refine ⟨dye col w.heap.size w1.heap.size 3, ⟨blk_put (blk_kept h.box hg (by rw [h.cB]; decide)) 1 _ rfl, h.hB, by rw [hcol B hlt]; exact h.cB, ?_, ?_, ?_, ?_, ?_⟩, ?_, ?_, ?_⟩
  · exact row_keep h.rb (fun j hj hl => hk j hl (by omega) (hBc j (by omega))) (fun j hj hl => by rw [hcol j hl]; exact hj)
  · exact row_dye ho (fun j hj h9 => Below.heap_setCell w1 ⟨B, 1, none⟩ v4 j (by rcases h9 with h9 | h9; exact hBc j (by omega); show j ≠ B; omega))
  · exact row_keep h.rs (fun j hj hl => hk j hl (by omega) (hBc j (by omega))) (fun j hj hl => by rw [hcol j hl]; exact hj)
  · exact row_keep h.rt (fun j hj hl => hk j hl (by omega) (hBc j (by omega))) (fun j hj hl => by rw [hcol j hl]; exact hj)
  · intro k hk2
    by_cases h9 : w.heap.size ≤ k ∧ k < w1.heap.size
    · simpa [World.setCell] using h9.2
    · have h8 : col k ≠ 0 := by unfold dye at hk2; rw [if_neg h9] at hk2; exact hk2
      have := h.lt k h8
      have := hg.1
      simp [World.setCell]
      omega
  · intro k hk2
    by_cases h9 : w.heap.size ≤ k ∧ k < w1.heap.size
    · exact .inr h9.1
    · unfold dye at hk2; rw [if_neg h9] at hk2; exact .inl hk2
  · exact (hg.mono (fun k hk => by rw [hk]; decide)).setCell (p := ⟨B, 1, none⟩) (.inl (by rw [h.cB]; decide)) _
  · exact hb.setCell (p := ⟨B, 1, none⟩) h.hB _
/-- The shelf, new or grown, stand in their field. -/
theorem Sd.put2 {l : List (List Int)} {v4 : Value} (h : Sd base B d col w vb vw vs vt) (ho : Kd.R ks 35 w1 base (fun j => (col j = 4 ∧ j < w.heap.size) ∨ w.heap.size ≤ j) v4 l) (hg : Kept w w1 (fun k => col k = 4)) (hb : Below base w w1) :
    ∃ col', Sd base B ⟨d.blocks, d.waits, l, d.trace⟩ col' (w1.setCell ⟨B, 2, none⟩ v4) vb vw v4 vt ∧ (∀ k, col' k ≠ 0 → col k ≠ 0 ∨ w.heap.size ≤ k) ∧ Kept w (w1.setCell ⟨B, 2, none⟩ v4) (fun k => col k ≠ 0) ∧ Below base w (w1.setCell ⟨B, 2, none⟩ v4) := by
  have hlt := h.bl
  have hcol : ∀ k, k < w.heap.size → dye col w.heap.size w1.heap.size 4 k = col k := fun k hk => dye_old hk
  have hk : ∀ j, j < w.heap.size → col j ≠ 4 → j ≠ B → (w1.setCell ⟨B, 2, none⟩ v4).heap[j]? = w.heap[j]? := fun j hj h5 hB => (Below.heap_setCell w1 ⟨B, 2, none⟩ v4 j hB).trans (hg.2 j hj h5)
  have hBc : ∀ j, col j ≠ 1 → j ≠ B := fun j h1 he => h1 (he ▸ h.cB)
  refine ⟨dye col w.heap.size w1.heap.size 4, ⟨blk_put (blk_kept h.box hg (by rw [h.cB]; decide)) 2 _ rfl, h.hB, by rw [hcol B hlt]; exact h.cB, ?_, ?_, ?_, ?_, ?_⟩, ?_, ?_, ?_⟩
  · exact row_keep h.rb (fun j hj hl => hk j hl (by omega) (hBc j (by omega))) (fun j hj hl => by rw [hcol j hl]; exact hj)
  · exact row_keep h.rw (fun j hj hl => hk j hl (by omega) (hBc j (by omega))) (fun j hj hl => by rw [hcol j hl]; exact hj)
  · exact row_dye ho (fun j hj h9 => Below.heap_setCell w1 ⟨B, 2, none⟩ v4 j (by rcases h9 with h9 | h9; exact hBc j (by omega); show j ≠ B; omega))
  · exact row_keep h.rt (fun j hj hl => hk j hl (by omega) (hBc j (by omega))) (fun j hj hl => by rw [hcol j hl]; exact hj)
  · intro k hk2
    by_cases h9 : w.heap.size ≤ k ∧ k < w1.heap.size
    · simpa [World.setCell] using h9.2
    · have h8 : col k ≠ 0 := by unfold dye at hk2; rw [if_neg h9] at hk2; exact hk2
      have := h.lt k h8
      have := hg.1
      simp [World.setCell]
      omega
  · intro k hk2
    by_cases h9 : w.heap.size ≤ k ∧ k < w1.heap.size
    · exact .inr h9.1
    · unfold dye at hk2; rw [if_neg h9] at hk2; exact .inl hk2
  · exact (hg.mono (fun k hk => by rw [hk]; decide)).setCell (p := ⟨B, 2, none⟩) (.inl (by rw [h.cB]; decide)) _
  · exact hb.setCell (p := ⟨B, 2, none⟩) h.hB _
/-- The trace, new or grown, stand in their field. -/
theorem Sd.put3 {l : List Int} {v4 : Value} (h : Sd base B d col w vb vw vs vt) (ho : Kd.R ki 3 w1 base (fun j => (col j = 5 ∧ j < w.heap.size) ∨ w.heap.size ≤ j) v4 l) (hg : Kept w w1 (fun k => col k = 5)) (hb : Below base w w1) :
    ∃ col', Sd base B ⟨d.blocks, d.waits, d.shelf, l⟩ col' (w1.setCell ⟨B, 3, none⟩ v4) vb vw vs v4 ∧ (∀ k, col' k ≠ 0 → col k ≠ 0 ∨ w.heap.size ≤ k) ∧ Kept w (w1.setCell ⟨B, 3, none⟩ v4) (fun k => col k ≠ 0) ∧ Below base w (w1.setCell ⟨B, 3, none⟩ v4) := by
  have hlt := h.bl
  have hcol : ∀ k, k < w.heap.size → dye col w.heap.size w1.heap.size 5 k = col k := fun k hk => dye_old hk
  have hk : ∀ j, j < w.heap.size → col j ≠ 5 → j ≠ B → (w1.setCell ⟨B, 3, none⟩ v4).heap[j]? = w.heap[j]? := fun j hj h5 hB => (Below.heap_setCell w1 ⟨B, 3, none⟩ v4 j hB).trans (hg.2 j hj h5)
  have hBc : ∀ j, col j ≠ 1 → j ≠ B := fun j h1 he => h1 (he ▸ h.cB)
  refine ⟨dye col w.heap.size w1.heap.size 5, ⟨blk_put (blk_kept h.box hg (by rw [h.cB]; decide)) 3 _ rfl, h.hB, by rw [hcol B hlt]; exact h.cB, ?_, ?_, ?_, ?_, ?_⟩, ?_, ?_, ?_⟩
  · exact row_keep h.rb (fun j hj hl => hk j hl (by omega) (hBc j (by omega))) (fun j hj hl => by rw [hcol j hl]; exact hj)
  · exact row_keep h.rw (fun j hj hl => hk j hl (by omega) (hBc j (by omega))) (fun j hj hl => by rw [hcol j hl]; exact hj)
  · exact row_keep h.rs (fun j hj hl => hk j hl (by omega) (hBc j (by omega))) (fun j hj hl => by rw [hcol j hl]; exact hj)
  · exact row_dye ho (fun j hj h9 => Below.heap_setCell w1 ⟨B, 3, none⟩ v4 j (by rcases h9 with h9 | h9; exact hBc j (by omega); show j ≠ B; omega))
  · intro k hk2
    by_cases h9 : w.heap.size ≤ k ∧ k < w1.heap.size
    · simpa [World.setCell] using h9.2
    · have h8 : col k ≠ 0 := by unfold dye at hk2; rw [if_neg h9] at hk2; exact hk2
      have := h.lt k h8
      have := hg.1
      simp [World.setCell]
      omega
  · intro k hk2
    by_cases h9 : w.heap.size ≤ k ∧ k < w1.heap.size
    · exact .inr h9.1
    · unfold dye at hk2; rw [if_neg h9] at hk2; exact .inl hk2
  · exact (hg.mono (fun k hk => by rw [hk]; decide)).setCell (p := ⟨B, 3, none⟩) (.inl (by rw [h.cB]; decide)) _
  · exact hb.setCell (p := ⟨B, 3, none⟩) h.hB _
/-- A row has grown: the rest is kept. -/
theorem grown_kept {i : Nat} {v : Value} (hv : ∀ k, v.ownBlock = some k → col k = i) (hg : w.grownBy w1 v.ownBlock) : Kept w w1 (fun k => col k = i) :=
  ⟨hg.size, fun k hk hn => hg.block k hk (fun he => hn (hv k he.symm))⟩
theorem Sd.grown_below {v : Value} (h : Sd base B d col w vb vw vs vt) (hg : w.grownBy w1 v.ownBlock) (hv : ∀ k, v.ownBlock = some k → base ≤ k) : Below base w w1 :=
  (Below.refl base w).grown hg (Nat.le_trans h.hB (Nat.le_of_lt h.bl)) hv
theorem SAfter.of {d' : Dv} {vb vw vs vt : Value} (h : ∃ col', Sd base B d' col' w' vb vw vs vt ∧ (∀ k, col' k ≠ 0 → col k ≠ 0 ∨ w.heap.size ≤ k) ∧ Kept w w' (fun k => col k ≠ 0) ∧ Below base w w') : SAfter base B d' col w w' := by
  obtain ⟨c, h1, h2⟩ := h
  exact ⟨c, _, _, _, _, h1, h2⟩
/-- The blocks are written over, where they stand. -/
theorem Sd.over {l : List Int} {g : Nat} (h : Sd base B d col w vb vw vs vt) (hr : Kd.R kb 5 w' base (fun j => col j = 2) vb l) (hk : Kept w w' (fun k => k = g)) (hg : col g = 2) : Sd base B ⟨l, d.waits, d.shelf, d.trace⟩ col w' vb vw vs vt :=
  ⟨blk_kept h.box hk (by intro he; have := h.cB; rw [he] at this; omega), h.hB, h.cB, hr, row_keep h.rw (fun j hj hl => hk.2 j hl (by rintro rfl; omega)) (fun _ h _ => h), row_keep h.rs (fun j hj hl => hk.2 j hl (by rintro rfl; omega)) (fun _ h _ => h), row_keep h.rt (fun j hj hl => hk.2 j hl (by rintro rfl; omega)) (fun _ h _ => h), fun k hk2 => Nat.lt_of_lt_of_le (h.lt k hk2) hk.1⟩
end
end Go.Proofs.Ytenbcpjlbfojlaa.DA
