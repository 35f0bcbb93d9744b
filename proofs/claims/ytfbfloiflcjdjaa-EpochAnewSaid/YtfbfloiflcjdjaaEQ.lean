/- The meter and the document's side by side: what holds of both, and that they answer alike. -/
import Derived.Test.YtfbfloiflcjdjaaEP
namespace Go.Proofs.Ytfbfloiflcjdjaa.EO
open Go.RowKit Go.Maps Go.Proofs.YtfbfloiflcjdjaaW.PrintWords Go.Proofs.YtfbfloiflcjdjaaW.PrintLast Go.Proofs.YtfbfloiflcjdjaaW.PrintMore Go.Proofs.Ytfbfloiflcjdjaa.PE Go.Proofs.Ytfbfloiflcjdjaa.EM Go.Proofs.Ytfbfloiflcjdjaa.EN
set_option linter.unusedVariables false
/-- What holds of a meter that began behind l0. -/
structure Inv (l0 : Int) (m : Meter) : Prop where
  l00 : 0 ≤ l0
  lo : l0 ≤ m.last
  hi : m.last ≤ 4294967295
  now : m.now = 0 ∨ (m.now = m.last ∧ l0 < m.now)
  bl : m.now ≠ 0 → ∀ b, b ∈ m.bl ↔ (⟨m.now, b⟩ : Use) ∈ m.uses
  es : ∀ u ∈ m.uses, l0 < u.e ∧ u.e ≤ m.last
  nd : m.uses.Nodup
theorem Inv.new {l0 : Int} (h0 : 0 ≤ l0) (h1 : l0 ≤ 4294967295) : Inv l0 (Meter.new l0) :=
  ⟨h0, Int.le_refl _, h1, .inl rfl, fun h => absurd rfl h, fun u hu => absurd hu (by simp [Meter.new]), by simp [Meter.new]⟩
theorem Inv.reserve {l0 : Int} {m : Meter} (h : Inv l0 m) : Inv l0 m.reserve.1 := by
  unfold Meter.reserve
  by_cases hn : m.now ≠ 0
  · rw [if_pos hn]; exact h
  · rw [if_neg hn]
    by_cases hl : m.last = 4294967295
    · rw [if_pos hl]; exact h
    · rw [if_neg hl]
      have h1 := h.l00
      have h2 := h.lo
      have h3 := h.hi
      refine ⟨h1, by simp only; omega, by simp only; omega, .inr ⟨rfl, by simp only; omega⟩, fun _ b => ⟨fun hb => by simp at hb, fun hb => ?_⟩, fun u hu => ?_, h.nd⟩
      · have := (h.es _ hb).2
        simp only at this
        omega
      · have := h.es u hu
        simp only
        omega
theorem Inv.done {l0 : Int} {m : Meter} (h : Inv l0 m) : Inv l0 m.done.1 := by
  unfold Meter.done
  by_cases hn : m.now = 0
  · rw [if_pos hn]; exact h
  · rw [if_neg hn]
    exact ⟨h.l00, h.lo, h.hi, .inl rfl, fun h => absurd rfl h, h.es, h.nd⟩
theorem Inv.use {l0 : Int} {m : Meter} (h : Inv l0 m) (b : Int) : Inv l0 (m.use b).1 := by
  unfold Meter.use
  by_cases hn : m.now = 0 ∨ b < 0
  · rw [if_pos hn]; exact h
  · rw [if_neg hn]
    by_cases hb : b ∈ m.bl
    · rw [if_pos hb]; exact h
    · rw [if_neg hb]
      have hn0 : m.now ≠ 0 := fun h9 => hn (.inl h9)
      have hnu : (⟨m.now, b⟩ : Use) ∉ m.uses := fun h9 => hb ((h.bl hn0 b).2 h9)
      refine ⟨h.l00, h.lo, h.hi, h.now, fun _ b' => ?_, fun u hu => ?_, ?_⟩
      · simp only [List.mem_cons, List.mem_append, List.not_mem_nil, or_false]
        rw [h.bl hn0 b', or_comm]
        simp
      · rcases List.mem_append.1 hu with hu | hu
        · exact h.es u hu
        · obtain rfl := List.mem_singleton.1 hu
          rcases h.now with h9 | h9
          · exact absurd h9 hn0
          · exact ⟨h9.2, by have := h9.1; simp only; omega⟩
      · exact List.nodup_append.2 ⟨h.nd, by simp, fun x hx y hy => by obtain rfl := List.mem_singleton.1 hy; rintro rfl; exact hnu hx⟩
/-- The document's meter has what the meter has. -/
def Sim (m : Meter) (r : RS) : Prop := r.last = m.last ∧ r.now = m.now ∧ r.l = m.uses
theorem Sim.reserve {m : Meter} {r : RS} (h : Sim m r) : r.reserve.2 = m.reserve.2 ∧ Sim m.reserve.1 r.reserve.1 := by
  obtain ⟨h1, h2, h3⟩ := h
  unfold RS.reserve Meter.reserve
  rw [h1, h2]
  by_cases hn : m.now ≠ 0
  · rw [if_pos hn, if_pos hn]; exact ⟨rfl, h1, h2, h3⟩
  · rw [if_neg hn, if_neg hn]
    by_cases hl : m.last = 4294967295
    · rw [if_pos hl, if_pos hl]; exact ⟨rfl, h1, h2, h3⟩
    · rw [if_neg hl, if_neg hl]; exact ⟨rfl, rfl, rfl, h3⟩
theorem Sim.done {m : Meter} {r : RS} (h : Sim m r) : r.done.2 = m.done.2 ∧ Sim m.done.1 r.done.1 := by
  obtain ⟨h1, h2, h3⟩ := h
  unfold RS.done Meter.done
  rw [h2]
  by_cases hn : m.now = 0
  · rw [if_pos hn, if_pos hn]; exact ⟨rfl, h1, h2, h3⟩
  · rw [if_neg hn, if_neg hn]; exact ⟨rfl, h1, rfl, h3⟩
theorem Sim.use {l0 : Int} {m : Meter} {r : RS} (h : Sim m r) (hi : Inv l0 m) (b : Int) : (r.use b).2 = (m.use b).2 ∧ Sim (m.use b).1 (r.use b).1 := by
  obtain ⟨h1, h2, h3⟩ := h
  unfold RS.use Meter.use
  rw [h2, h3]
  by_cases hn : m.now = 0 ∨ b < 0
  · rw [if_pos hn, if_pos hn]; exact ⟨rfl, h1, h2, h3⟩
  · rw [if_neg hn, if_neg hn]
    have hn0 : m.now ≠ 0 := fun h9 => hn (.inl h9)
    by_cases hb : b ∈ m.bl
    · rw [if_pos hb, if_pos ((hi.bl hn0 b).1 hb)]; exact ⟨rfl, h1, h2, h3⟩
    · rw [if_neg hb, if_neg (fun h9 => hb ((hi.bl hn0 b).2 h9))]
      exact ⟨rfl, h1, rfl, by simp⟩
theorem len_reserve (m : Meter) : m.reserve.1.uses.length = m.uses.length ∧ m.reserve.1.bl.length ≤ m.bl.length := by
  unfold Meter.reserve
  repeat' split
  all_goals simp
theorem len_done (m : Meter) : m.done.1.uses.length = m.uses.length ∧ m.done.1.bl.length ≤ m.bl.length := by
  unfold Meter.done
  split <;> simp
theorem len_use (m : Meter) (b : Int) : (m.use b).1.uses.length ≤ m.uses.length + 1 ∧ (m.use b).1.bl.length ≤ m.bl.length + 1 := by
  unfold Meter.use
  repeat' split
  all_goals simp
theorem len_step (m : Meter) (k b : Int) : (Meter.step m k b).1.uses.length ≤ m.uses.length + 1 ∧ (Meter.step m k b).1.bl.length ≤ m.bl.length + 1 := by
  have h1 := len_reserve m
  have h2 := len_done m
  have h3 := len_use m b
  unfold Meter.step
  split
  · omega
  · split
    · simp only; omega
    · simp only; omega
theorem Inv.step {l0 : Int} {m : Meter} (h : Inv l0 m) (k b : Int) : Inv l0 (Meter.step m k b).1 := by
  unfold Meter.step
  split
  · exact h.reserve
  · split
    · exact h.done
    · exact h.use b
/-- Both stand in memory, apart. -/
structure Jt (w0 : World) (B RB : Nat) (m : Meter) (r : RS) (w : World) : Prop where
  ex : ∃ S vu mv vl, Mt w0.heap.size B m S w vu mv ∧ Rm w0.heap.size RB r w vl ∧ ∀ k, S k → k < w.heap.size ∧ k ≠ RB ∧ some k ≠ vl.ownBlock
  bel : Below w0.heap.size w0 w
section
variable {w0 w w' : World} {B RB : Nat} {m m' : Meter} {r r' : RS}
theorem Rm_lt {base : Nat} {vl : Value} (h : Rm base RB r w vl) {k : Nat} (hk : k = RB ∨ some k = vl.ownBlock) : k < w.heap.size := by
  rcases hk with rfl | hk
  · exact h.lt
  · exact ((Kd.R_bound h.row).1 k hk.symm).2.2.1
theorem Mt.restrict {base : Nat} {S : Nat → Prop} {vu mv : Value} (h : Mt base B m S w vu mv) : Mt base B m (fun k => S k ∧ k < w.heap.size) w vu mv := by
  refine ⟨h.box, h.hB, h.row, h.map, fun k hk => ⟨h.foot k hk, ?_⟩, h.mlt⟩
  rcases hk with rfl | hk | hk
  · exact h.lt
  · exact ((Kd.R_bound h.row).1 k hk.symm).2.2.1
  · exact h.mlt k hk
theorem Jt.below (h : Jt w0 B RB m r w) (hb : Below w.heap.size w w') : Jt w0 B RB m r w' := by
  obtain ⟨⟨S, vu, mv, vl, hm, hr, hd⟩, h2⟩ := h
  exact ⟨⟨S, vu, mv, vl, hm.below hb, hr.below hb, fun k hk => ⟨Nat.lt_of_lt_of_le (hd k hk).1 hb.size, (hd k hk).2⟩⟩, below_step h2 hb⟩
theorem Jt.after {S : Nat → Prop} {vl : Value} (h2 : Below w0.heap.size w0 w) (hr : Rm w0.heap.size RB r w vl) (hd : ∀ k, S k → k < w.heap.size ∧ k ≠ RB ∧ some k ≠ vl.ownBlock) (ha : After w0.heap.size B m' S w w') : Jt w0 B RB m' r w' := by
  obtain ⟨S', vu', mv', hm', hs, hk, hb⟩ := ha
  refine ⟨⟨_, vu', mv', vl, Mt.restrict hm', hr.kept hk (fun k h9 h8 => by rcases h9 with rfl | h9; exact (hd k h8).2.1 rfl; exact (hd k h8).2.2 h9), fun k h9 => ⟨h9.2, ?_⟩⟩, h2.trans hb⟩
  rcases hs k h9.1 with h8 | h8
  · exact (hd k h8).2
  · refine ⟨?_, ?_⟩
    · rintro rfl
      have := Rm_lt hr (.inl rfl)
      omega
    · intro h7
      have := Rm_lt hr (.inr h7)
      omega
theorem Jt.afterR {S : Nat → Prop} {vu mv vl : Value} (h2 : Below w0.heap.size w0 w) (hm : Mt w0.heap.size B m S w vu mv) (hd : ∀ k, S k → k < w.heap.size ∧ k ≠ RB ∧ some k ≠ vl.ownBlock) (ha : AfterR w0.heap.size RB r' w w' vl) : Jt w0 B RB m r' w' := by
  obtain ⟨vl', hr', hk, hv, hb⟩ := ha
  refine ⟨⟨S, vu, mv, vl', hm.kept hk (fun k h9 h8 => (hd k h9).2.1 h8), hr', fun k h9 => ⟨Nat.lt_of_lt_of_le (hd k h9).1 hk.1, (hd k h9).2.1, ?_⟩⟩, h2.trans hb⟩
  rcases hv with rfl | hv
  · exact (hd k h9).2.2
  · intro h8
    have := hv k h8.symm
    have := (hd k h9).1
    omega
theorem use_jt (h : Jt w0 B RB m r w) (b : Int) (hb0 : (Lit.int .i64 b).wf = true) (hul : m.uses.length ≤ 1000000) (hbl : m.bl.length ≤ 1000000) :
    Calls Try.prog 19 #[.pointer (some ⟨B, 0, none⟩), .int .i64 b] w fun e w' => e = .returned (.int .i64 (m.use b).2) ∧ Jt w0 B RB (m.use b).1 r w' := by
  obtain ⟨⟨S, vu, mv, vl, hm, hr, hd⟩, h2⟩ := h
  exact (use_calls b hb0 w hm hul hbl).mono fun e w' ⟨he, ha⟩ => ⟨he, Jt.after h2 hr hd ha⟩
theorem reserve_jt (h : Jt w0 B RB m r w) (hm : 0 ≤ m.last ∧ m.last ≤ 4294967295) :
    Calls Try.prog 18 #[.pointer (some ⟨B, 0, none⟩)] w fun e w' => e = .returned (.tuple #[.int .u32 m.reserve.2.1, .int .i64 m.reserve.2.2]) ∧ Jt w0 B RB m.reserve.1 r w' := by
  obtain ⟨⟨S, vu, mv, vl, hmm, hr, hd⟩, h2⟩ := h
  exact (reserve_calls w hmm hm).mono fun e w' ⟨he, ha⟩ => ⟨he, Jt.after h2 hr hd ha⟩
theorem done_jt (h : Jt w0 B RB m r w) : Calls Try.prog 20 #[.pointer (some ⟨B, 0, none⟩)] w fun e w' => e = .returned (.int .i64 m.done.2) ∧ Jt w0 B RB m.done.1 r w' := by
  obtain ⟨⟨S, vu, mv, vl, hmm, hr, hd⟩, h2⟩ := h
  exact (done_calls w hmm).mono fun e w' ⟨he, ha⟩ => ⟨he, Jt.after h2 hr hd ha⟩
theorem last_jt (h : Jt w0 B RB m r w) : Calls Try.prog 15 #[.pointer (some ⟨B, 0, none⟩)] w fun e w' => e = .returned (.int .u32 m.last) ∧ w' = w := by
  obtain ⟨⟨S, vu, mv, vl, hmm, _⟩, _⟩ := h
  exact last_calls w hmm
theorem now_jt (h : Jt w0 B RB m r w) : Calls Try.prog 16 #[.pointer (some ⟨B, 0, none⟩)] w fun e w' => e = .returned (.int .u32 m.now) ∧ w' = w := by
  obtain ⟨⟨S, vu, mv, vl, hmm, _⟩, _⟩ := h
  exact now_calls w hmm
theorem left_jt (h : Jt w0 B RB m r w) (hm : 0 ≤ m.last ∧ m.last ≤ 4294967295) : Calls Try.prog 17 #[.pointer (some ⟨B, 0, none⟩)] w fun e w' => e = .returned (.int .u32 (4294967295 - m.last)) ∧ w' = w := by
  obtain ⟨⟨S, vu, mv, vl, hmm, _⟩, _⟩ := h
  exact left_calls w hmm hm
theorem used_jt (h : Jt w0 B RB m r w) (hl : m.uses.length ≤ 1000000) : Calls Try.prog 10 #[.pointer (some ⟨B, 0, none⟩)] w fun e w' => ∃ v, e = .returned v ∧ Kd.R kU 37 w' w.heap.size (fun _ => True) v m.uses ∧ Below w.heap.size w w' ∧ Jt w0 B RB m r w' := by
  have h0 := h
  obtain ⟨⟨S, vu, mv, vl, hmm, _⟩, _⟩ := h
  refine (used_calls w hmm hl).mono ?_
  rintro e w' ⟨v, he, hr, hb⟩
  exact ⟨v, he, hr, hb, h0.below hb⟩
theorem ruse_jt (h : Jt w0 B RB m r w) (b : Int) (hul : r.l.length ≤ 1000000) :
    Calls Try.prog 14 #[.pointer (some ⟨RB, 0, none⟩), .int .i64 b] w fun e w' => e = .returned (.int .i64 (r.use b).2) ∧ Jt w0 B RB m (r.use b).1 w' := by
  obtain ⟨⟨S, vu, mv, vl, hm, hr, hd⟩, h2⟩ := h
  exact (ruse_calls b w hr hul).mono fun e w' ⟨he, ha⟩ => ⟨he, Jt.afterR h2 hm hd ha⟩
theorem rreserve_jt (h : Jt w0 B RB m r w) (hl : 0 ≤ r.last ∧ r.last ≤ 4294967295) :
    Calls Try.prog 12 #[.pointer (some ⟨RB, 0, none⟩)] w fun e w' => e = .returned (.tuple #[.int .u32 r.reserve.2.1, .int .i64 r.reserve.2.2]) ∧ Jt w0 B RB m r.reserve.1 w' := by
  obtain ⟨⟨S, vu, mv, vl, hm, hr, hd⟩, h2⟩ := h
  exact (rreserve_calls w hr hl).mono fun e w' ⟨he, ha⟩ => ⟨he, Jt.afterR h2 hm hd ha⟩
theorem rdone_jt (h : Jt w0 B RB m r w) : Calls Try.prog 13 #[.pointer (some ⟨RB, 0, none⟩)] w fun e w' => e = .returned (.int .i64 r.done.2) ∧ Jt w0 B RB m r.done.1 w' := by
  obtain ⟨⟨S, vu, mv, vl, hm, hr, hd⟩, h2⟩ := h
  exact (rdone_calls w hr).mono fun e w' ⟨he, ha⟩ => ⟨he, Jt.afterR h2 hm hd ha⟩
/-- The document's cells. -/
theorem Jt.cells (h : Jt w0 B RB m r w) : ∃ A c, w.cell? ⟨RB, 0, none⟩ = some (.int .u32 r.last) ∧ w.cell? ⟨RB, 1, none⟩ = some (.int .u32 r.now) ∧ w.cell? ⟨RB, 2, none⟩ = some (.slice A r.l.length c) ∧ Kd.C kU w A r.l.length r.l := by
  obtain ⟨⟨S, vu, mv, vl, hm, hr, hd⟩, h2⟩ := h
  obtain ⟨A, c, rfl⟩ := Kd.R_slice hr.row
  exact ⟨A, c, hr.c0, hr.c1, hr.c2, (Kd.R_reads' hr.row).2.2⟩
theorem Jt.new {last : Int} {w1 : World} (h2 : Below w0.heap.size w0 w) {vu mv : Value} (h : Mt w.heap.size w.heap.size (Meter.new last) (fun k => w.heap.size ≤ k) w1 vu mv) (hb : Below w.heap.size w w1) :
    Jt w0 w.heap.size w1.heap.size (Meter.new last) ⟨last, 0, []⟩ (w1.alloc (.cells #[.int .u32 last, .int .u32 0, .slice none 0 0] 42)) := by
  have h3 : Mt w0.heap.size w.heap.size (Meter.new last) (fun k => w.heap.size ≤ k) w1 vu mv := ⟨h.box, below_size h2, Kd.R_lower h.row (below_size h2), fun hn => absurd rfl hn, h.foot, h.mlt⟩
  have h4 := Mt.restrict h3
  refine ⟨⟨_, vu, mv, .slice none 0 0, h4.below ((Below.refl _ _).alloc (Nat.le_refl _) _), ⟨blk_new _ _, Nat.le_trans (below_size h2) hb.size, Kd.R_nil _ _ _ _ _⟩, fun k hk => ⟨?_, ?_, ?_⟩⟩, (below_step h2 hb).alloc (Nat.le_trans (below_size h2) hb.size) _⟩
  · have := hk.2
    simp
    omega
  · have := hk.2
    omega
  · simp [Value.ownBlock]
/-- The same, and a block beside them that stays. -/
structure Jk (w0 : World) (B RB : Nat) (kb : Nat) (o : Obj) (m : Meter) (r : RS) (w : World) : Prop where
  ex : ∃ S vu mv vl, Mt w0.heap.size B m S w vu mv ∧ Rm w0.heap.size RB r w vl ∧ (∀ k, S k → k < w.heap.size ∧ k ≠ RB ∧ some k ≠ vl.ownBlock) ∧ ¬ S kb
  blk : w.heap[kb]? = some o
  bel : Below w0.heap.size w0 w
variable {kb : Nat} {o : Obj}
theorem Jk.jt (h : Jk w0 B RB kb o m r w) : Jt w0 B RB m r w := by
  obtain ⟨⟨S, vu, mv, vl, hm, hr, hd, _⟩, _, h2⟩ := h
  exact ⟨⟨S, vu, mv, vl, hm, hr, hd⟩, h2⟩
theorem Jt.jk (h : Jt w0 B RB m r w) (cs : Array Value) (t : TypeId) : Jk w0 B RB w.heap.size (.cells cs t (0, 0)) m r (w.alloc (.cells cs t)) := by
  have h9 := h.below ((Below.refl _ _).alloc (Nat.le_refl _) (.cells cs t))
  obtain ⟨⟨S, vu, mv, vl, hm, hr, hd⟩, h2⟩ := h
  have hb := (Below.refl w.heap.size w).alloc (Nat.le_refl _) (.cells cs t)
  exact ⟨⟨S, vu, mv, vl, hm.below hb, hr.below hb, fun k hk => ⟨Nat.lt_of_lt_of_le (hd k hk).1 hb.size, (hd k hk).2⟩, fun hk => by have := (hd _ hk).1; omega⟩, blk_new _ _, h9.bel⟩
theorem Jk.below (h : Jk w0 B RB kb o m r w) (hb : Below w.heap.size w w') : Jk w0 B RB kb o m r w' := by
  obtain ⟨⟨S, vu, mv, vl, hm, hr, hd, hk⟩, h1, h2⟩ := h
  exact ⟨⟨S, vu, mv, vl, hm.below hb, hr.below hb, fun k hk => ⟨Nat.lt_of_lt_of_le (hd k hk).1 hb.size, (hd k hk).2⟩, hk⟩, blk_below h1 hb, below_step h2 hb⟩
theorem Jk.after {S : Nat → Prop} {vl : Value} (h2 : Below w0.heap.size w0 w) (hr : Rm w0.heap.size RB r w vl) (hd : ∀ k, S k → k < w.heap.size ∧ k ≠ RB ∧ some k ≠ vl.ownBlock) (hn : ¬ S kb) (h1 : w.heap[kb]? = some o) (ha : After w0.heap.size B m' S w w') : Jk w0 B RB kb o m' r w' := by
  have h9 := Jt.after h2 hr hd ha
  obtain ⟨S', vu', mv', hm', hs, hk, hb⟩ := ha
  refine ⟨⟨_, vu', mv', vl, Mt.restrict hm', hr.kept hk (fun k h9 h8 => by rcases h9 with rfl | h9; exact (hd k h8).2.1 rfl; exact (hd k h8).2.2 h9), fun k h9 => ⟨h9.2, ?_⟩, fun h8 => ?_⟩, blk_kept h1 hk hn, h9.bel⟩
  · rcases hs k h9.1 with h8 | h8
    · exact (hd k h8).2
    · refine ⟨?_, ?_⟩
      · rintro rfl
        have := Rm_lt hr (.inl rfl)
        omega
      · intro h7
        have := Rm_lt hr (.inr h7)
        omega
  · rcases hs kb h8.1 with h7 | h7
    · exact hn h7
    · have := blk_lt h1
      omega
theorem use_jk (h : Jk w0 B RB kb o m r w) (b : Int) (hb0 : (Lit.int .i64 b).wf = true) (hul : m.uses.length ≤ 1000000) (hbl : m.bl.length ≤ 1000000) :
    Calls Try.prog 19 #[.pointer (some ⟨B, 0, none⟩), .int .i64 b] w fun e w' => e = .returned (.int .i64 (m.use b).2) ∧ Jk w0 B RB kb o (m.use b).1 r w' := by
  obtain ⟨⟨S, vu, mv, vl, hm, hr, hd, hn⟩, h1, h2⟩ := h
  exact (use_calls b hb0 w hm hul hbl).mono fun e w' ⟨he, ha⟩ => ⟨he, Jk.after h2 hr hd hn h1 ha⟩
theorem reserve_jk (h : Jk w0 B RB kb o m r w) (hm : 0 ≤ m.last ∧ m.last ≤ 4294967295) :
    Calls Try.prog 18 #[.pointer (some ⟨B, 0, none⟩)] w fun e w' => e = .returned (.tuple #[.int .u32 m.reserve.2.1, .int .i64 m.reserve.2.2]) ∧ Jk w0 B RB kb o m.reserve.1 r w' := by
  obtain ⟨⟨S, vu, mv, vl, hmm, hr, hd, hn⟩, h1, h2⟩ := h
  exact (reserve_calls w hmm hm).mono fun e w' ⟨he, ha⟩ => ⟨he, Jk.after h2 hr hd hn h1 ha⟩
theorem done_jk (h : Jk w0 B RB kb o m r w) : Calls Try.prog 20 #[.pointer (some ⟨B, 0, none⟩)] w fun e w' => e = .returned (.int .i64 m.done.2) ∧ Jk w0 B RB kb o m.done.1 r w' := by
  obtain ⟨⟨S, vu, mv, vl, hmm, hr, hd, hn⟩, h1, h2⟩ := h
  exact (done_calls w hmm).mono fun e w' ⟨he, ha⟩ => ⟨he, Jk.after h2 hr hd hn h1 ha⟩
end
end Go.Proofs.Ytfbfloiflcjdjaa.EO
