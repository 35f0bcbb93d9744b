/- A store beside blocks that stay; alive. -/
import Derived.Test.YtenbcpjlbfojlaaDN
namespace Go.Proofs.Ytenbcpjlbfojlaa.DA
open Go.RowKit Go.Proofs.YtenbcpjlbfojlaaW.PrintWords Go.Proofs.YtenbcpjlbfojlaaW.PrintLast Go.Proofs.YtenbcpjlbfojlaaW.PrintMore Go.Proofs.Ytenbcpjlbfojlaa.PD
set_option linter.unusedVariables false
set_option linter.unusedSimpArgs false
/-- A store of N blocks stands, and the blocks of KS are none of its own. -/
structure Dj (w0 : World) (B N : Nat) (d : Dv) (KS : List Nat) (w : World) : Prop where
  ex : ∃ col vb vw vs vt, Sd w0.heap.size B d col w vb vw vs vt ∧ ∀ k ∈ KS, col k = 0 ∧ k < w.heap.size
  bel : Below w0.heap.size w0 w
  wf : Wf d N
def Stay (KS : List Nat) (w w' : World) : Prop := ∀ k ∈ KS, w'.heap[k]? = w.heap[k]?
theorem Stay.of_below {KS : List Nat} {w w' : World} (hb : Below w.heap.size w w') (h : ∀ k ∈ KS, k < w.heap.size) : Stay KS w w' := fun k hk => hb.block k (h k hk)
section
variable {w0 w w' : World} {B N : Nat} {d d' : Dv} {KS : List Nat}
theorem Dj.lt (h : Dj w0 B N d KS w) : ∀ k ∈ KS, k < w.heap.size := by
  obtain ⟨⟨col, vb, vw, vs, vt, hs, hk⟩, _⟩ := h
  exact fun k h1 => (hk k h1).2
theorem Dj.below (h : Dj w0 B N d KS w) (hb : Below w.heap.size w w') : Dj w0 B N d KS w' := by
  obtain ⟨⟨col, vb, vw, vs, vt, hs, hk⟩, h2, h3⟩ := h
  exact ⟨⟨col, vb, vw, vs, vt, hs.below hb, fun k h1 => ⟨(hk k h1).1, Nat.lt_of_lt_of_le (hk k h1).2 hb.size⟩⟩, below_step h2 hb, h3⟩
/-- One block more is kept: it is new. -/
theorem Dj.more (h : Dj w0 B N d KS w) (o : Obj) : Dj w0 B N d (w.heap.size :: KS) (w.alloc o) := by
  have hb := (Below.refl w.heap.size w).alloc (Nat.le_refl _) o
  obtain ⟨⟨col, vb, vw, vs, vt, hs, hk⟩, h2, h3⟩ := h
  refine ⟨⟨col, vb, vw, vs, vt, hs.below hb, fun k h1 => ?_⟩, below_step h2 hb, h3⟩
  rcases List.mem_cons.1 h1 with rfl | h1
  · refine ⟨?_, by simp⟩
    by_cases hc : col w.heap.size = 0
    · exact hc
    · exact absurd (hs.lt _ hc) (Nat.lt_irrefl _)
  · exact ⟨(hk k h1).1, Nat.lt_of_lt_of_le (hk k h1).2 hb.size⟩
theorem Dj.less (h : Dj w0 B N d KS w) {KS' : List Nat} (hs : ∀ k ∈ KS', k ∈ KS) : Dj w0 B N d KS' w := by
  obtain ⟨⟨col, vb, vw, vs, vt, h1, hk⟩, h2, h3⟩ := h
  exact ⟨⟨col, vb, vw, vs, vt, h1, fun k hk2 => hk k (hs k hk2)⟩, h2, h3⟩
/-- A kept block is written. -/
theorem Dj.wrote (h : Dj w0 B N d KS w) {p : Addr} (hp : p.block ∈ KS) (hb : w0.heap.size ≤ p.block) (u : Value) : Dj w0 B N d KS (w.setCell p u) := by
  obtain ⟨⟨col, vb, vw, vs, vt, hs, hk⟩, h2, h3⟩ := h
  have hk9 : Kept w (w.setCell p u) (fun k => k = p.block) := Kept.setCell (p := p) (S := fun k => k = p.block) (Kept.refl w _) (.inl rfl) u
  exact ⟨⟨col, vb, vw, vs, vt, hs.kept hk9 (fun k hk2 he => hk2 (he ▸ (hk _ hp).1)), fun k h1 => ⟨(hk k h1).1, Nat.lt_of_lt_of_le (hk k h1).2 hk9.1⟩⟩, h2.setCell hb u, h3⟩
theorem Dj.after {col : Nat → Nat} {vb vw vs vt : Value} (hs : Sd w0.heap.size B d col w vb vw vs vt) (hk : ∀ k ∈ KS, col k = 0 ∧ k < w.heap.size) (h2 : Below w0.heap.size w0 w) (h3 : Wf d' N) (ha : SAfter w0.heap.size B d' col w w') : Dj w0 B N d' KS w' ∧ Stay KS w w' := by
  obtain ⟨col', vb', vw', vs', vt', hs', hc, hkk, hb⟩ := ha
  refine ⟨⟨⟨col', vb', vw', vs', vt', hs', fun k h1 => ⟨?_, Nat.lt_of_lt_of_le (hk k h1).2 hkk.1⟩⟩, h2.trans hb, h3⟩, fun k h1 => hkk.2 k (hk k h1).2 (fun h9 => h9 (hk k h1).1)⟩
  by_cases h9 : col' k = 0
  · exact h9
  · rcases hc k h9 with h8 | h8
    · exact absurd (hk k h1).1 h8
    · have := (hk k h1).2
      omega
theorem Wf.write {n : Int} {b : List Int} (h : Wf d N) : Wf (d.write N n b).1 N := by
  unfold Dv.write
  split
  · exact h
  · rename_i h1
    split
    · exact h
    · rename_i h2
      refine ⟨h.of, fun x hx => ?_, h.sh, h.sl⟩
      rcases List.mem_append.1 hx with hx | hx
      · exact h.ws x hx
      · obtain rfl := List.mem_singleton.1 hx
        refine ⟨?_, by simpa using h2⟩
        have h3 : ¬ (n < 0 ∨ (N : Int) ≤ n) := fun h4 => h1 (by rw [ask_ne h4]; decide)
        simp only
        omega
theorem flushed_len {bl : List Int} {ws : List Wr} (hb : bl.length = N * 256) (hw : ∀ x ∈ ws, (0 ≤ x.n ∧ x.n < N) ∧ x.b.length = 256) : (flushed bl ws).length = N * 256 := by
  induction ws generalizing bl with
  | nil => exact hb
  | cons x ws ih => exact ih (lay_len hb (hw x List.mem_cons_self)) (fun y hy => hw y (List.mem_cons_of_mem _ hy))
theorem crashed_len {keep torn parts : Int} {ws : List (Wr × Nat)} {bl : List Int} (hb : bl.length = N * 256) (hw : ∀ x ∈ ws, (0 ≤ x.1.n ∧ x.1.n < N) ∧ x.1.b.length = 256) : (ws.foldl (crash1 keep torn parts) bl).length = N * 256 := by
  induction ws generalizing bl with
  | nil => exact hb
  | cons x ws ih =>
    refine ih ?_ (fun y hy => hw y (List.mem_cons_of_mem _ hy))
    unfold crash1
    split
    · exact lay_len hb (hw x List.mem_cons_self)
    · exact hb
def Dv.flush (d : Dv) : Dv := ⟨flushed d.blocks d.waits, [], d.shelf, d.trace ++ [-1]⟩
def Dv.crash (d : Dv) (keep torn parts : Int) : Dv := ⟨crashed keep torn parts d.blocks d.waits, [], d.shelf, d.trace⟩
theorem Wf.flush (h : Wf d N) : Wf d.flush N := ⟨⟨flushed_len h.of.1 h.ws, h.of.2⟩, fun x hx => absurd hx (by simp [Dv.flush]), h.sh, h.sl⟩
theorem Wf.crash {keep torn parts : Int} (h : Wf d N) : Wf (d.crash keep torn parts) N := by
  refine ⟨⟨?_, h.of.2⟩, fun x hx => absurd hx (by simp [Dv.crash]), h.sh, h.sl⟩
  unfold Dv.crash crashed
  refine crashed_len h.of.1 (fun x hx => h.ws x.1 ?_)
  obtain ⟨a, i⟩ := x
  exact (List.mem_zipIdx hx).2.2 ▸ List.getElem_mem _
theorem Wf.tamper {n at_ : Int} {b : List Int} (h : Wf d N) : Wf (d.tamper N n at_ b) N := by
  unfold Dv.tamper
  split
  · exact h
  · rename_i h1
    refine ⟨⟨?_, h.of.2⟩, h.ws, h.sh, h.sl⟩
    have h2 : tamperE N n at_ b.length = 0 := by simpa using h1
    unfold tamperE at h2
    split at h2
    · rename_i h3; exact absurd h2 h3
    · rename_i h3
      have h4 : ¬ (n < 0 ∨ (N : Int) ≤ n) := fun h4 => h3 (by rw [ask_ne h4]; decide)
      split at h2
      · exact absurd h2 (by decide)
      · rename_i h5
        rw [length_splice _ _ _ (by have := h.of.1; omega)]
        exact h.of.1
theorem Wf.put (h : Wf d N) : Wf d.put.1 N := by
  unfold Dv.put
  split
  · exact h
  · rename_i h1
    refine ⟨h.of, h.ws, fun s hs => ?_, ?_⟩
    · rcases List.mem_append.1 hs with hs | hs
      · exact h.sh s hs
      · obtain rfl := List.mem_singleton.1 hs
        exact h.of.1
    · have := h.sl
      simp only [List.length_append, List.length_cons, List.length_nil]
      omega
theorem Wf.restore {k : Int} (h : Wf d N) : Wf (d.restore k).1 N := by
  unfold Dv.restore
  split
  · exact h
  · rename_i h1
    exact ⟨⟨h.sh _ (lAt_mem (by omega)), h.of.2⟩, fun x hx => absurd hx (by simp), h.sh, h.sl⟩
/-- What was told is none of the store's. -/
theorem Dj.told (h : Dj w0 B N d KS w) (hb : Below w.heap.size w w') {g : Nat} (h1 : w.heap.size ≤ g) (h2 : g < w'.heap.size) : Dj w0 B N d (g :: KS) w' := by
  have h9 := h.below hb
  obtain ⟨⟨col, vb, vw, vs, vt, hs, hk⟩, h3, h4⟩ := h
  refine ⟨⟨col, vb, vw, vs, vt, hs.below hb, fun k hk2 => ?_⟩, h9.bel, h4⟩
  rcases List.mem_cons.1 hk2 with rfl | hk2
  · refine ⟨?_, h2⟩
    by_cases hc : col k = 0
    · exact hc
    · have := hs.lt _ hc
      omega
  · exact ⟨(hk k hk2).1, Nat.lt_of_lt_of_le (hk k hk2).2 hb.size⟩
/-- A row that stays. -/
theorem C_stay {A : Option Addr} {n : Nat} {l : List Int} (h : Kd.C kb w A n l) (hs : Stay KS w w') (hA : ∀ ad, A = some ad → ad.block ∈ KS) : Kd.C kb w' A n l :=
  ⟨h.1, h.2.1, fun h0 => by
    obtain ⟨ad, e, hc⟩ := h.2.2 h0
    refine ⟨ad, e, fun j p hj => ?_⟩
    obtain ⟨c, h1, h2, h3⟩ := hc j p hj
    refine ⟨c, h1, h2, fun i u hu => ?_⟩
    rw [World.cell?_of_block (w := w) (by rw [add_block]; exact hs _ (hA ad e))]
    exact h3 i u hu⟩
theorem C_lt {A : Option Addr} {n : Nat} {l : List Int} (h : Kd.C kb w A n l) (h0 : 0 < n) : ∀ ad, A = some ad → ad.block < w.heap.size := fun ad he => by
  obtain ⟨ad2, e2, hc⟩ := Kd.at_int h 0 (by omega) (by omega)
  rw [he] at e2
  injection e2 with e2
  subst e2
  have := World.block_lt_of_cell? _ _ hc
  rwa [add_block] at this
/-! ### the methods -/
theorem write_dj (h : Dj w0 B N d KS w) (n : Int) {Ab : Option Addr} {cb : Nat} {b : List Int} (hb : Kd.C kb w Ab b.length b) (hcb : b.length ≤ cb) (hwl : d.waits.length ≤ 100000) (htl : d.trace.length < 100000) (hbl : b.length ≤ 1000000000) :
    Calls Try.prog 11 #[.pointer (some ⟨B, 0, none⟩), .int .i64 n, .slice Ab b.length cb] w fun e w' => e = .returned (.int .i64 (d.write N n b).2) ∧ Dj w0 B N (d.write N n b).1 KS w' ∧ Stay KS w w' := by
  obtain ⟨⟨col, vb, vw, vs, vt, hs, hk⟩, h2, h3⟩ := h
  exact (write_calls n Ab cb b w hs h3.of hb hcb hwl htl hbl).mono fun e w' ⟨he, ha⟩ => ⟨he, Dj.after hs hk h2 h3.write ha⟩
theorem flush_dj (h : Dj w0 B N d KS w) (hwl : d.waits.length ≤ 100000) (htl : d.trace.length < 100000) :
    Calls Try.prog 9 #[.pointer (some ⟨B, 0, none⟩)] w fun e w' => e = .returned (.int .i64 (d.waits.length : Int)) ∧ Dj w0 B N d.flush KS w' ∧ Stay KS w w' := by
  obtain ⟨⟨col, vb, vw, vs, vt, hs, hk⟩, h2, h3⟩ := h
  exact (flush_calls w hs h3 hwl htl).mono fun e w' ⟨he, ha⟩ => ⟨he, Dj.after hs hk h2 h3.flush ha⟩
theorem crash_dj (h : Dj w0 B N d KS w) (keep torn parts : Int) (hkeep : 0 ≤ keep ∧ keep ≤ 18446744073709551615) (hwl : d.waits.length ≤ 100000) :
    Calls Try.prog 10 #[.pointer (some ⟨B, 0, none⟩), .int .u64 keep, .int .i64 torn, .int .i64 parts] w fun e w' => e = .returned (.tuple #[]) ∧ Dj w0 B N (d.crash keep torn parts) KS w' ∧ Stay KS w w' := by
  obtain ⟨⟨col, vb, vw, vs, vt, hs, hk⟩, h2, h3⟩ := h
  exact (crash_calls keep torn parts hkeep w hs h3 hwl).mono fun e w' ⟨he, ha⟩ => ⟨he, Dj.after hs hk h2 h3.crash ha⟩
theorem tamper_dj (h : Dj w0 B N d KS w) (n at_ : Int) {Ab : Option Addr} {cb : Nat} {b : List Int} (hb : Kd.C kb w Ab b.length b) (hcb : b.length ≤ cb) :
    Calls Try.prog 24 #[.pointer (some ⟨B, 0, none⟩), .int .i64 n, .int .i64 at_, .slice Ab b.length cb] w fun e w' => e = .returned (.int .i64 (tamperE N n at_ b.length)) ∧ Dj w0 B N (d.tamper N n at_ b) KS w' ∧ Stay KS w w' := by
  obtain ⟨⟨col, vb, vw, vs, vt, hs, hk⟩, h2, h3⟩ := h
  exact (tamper_calls n at_ Ab cb b w hs h3.of hb hcb).mono fun e w' ⟨he, ha⟩ => ⟨he, Dj.after hs hk h2 h3.tamper ha⟩
theorem put_dj (h : Dj w0 B N d KS w) :
    Calls Try.prog 23 #[.pointer (some ⟨B, 0, none⟩)] w fun e w' => e = .returned (.tuple #[.int .i64 d.put.2.1, .int .i64 d.put.2.2]) ∧ Dj w0 B N d.put.1 KS w' ∧ Stay KS w w' := by
  obtain ⟨⟨col, vb, vw, vs, vt, hs, hk⟩, h2, h3⟩ := h
  exact (put_calls w hs h3.of h3.sl).mono fun e w' ⟨he, ha⟩ => ⟨he, Dj.after hs hk h2 h3.put ha⟩
theorem restore_dj (h : Dj w0 B N d KS w) (k : Int) :
    Calls Try.prog 25 #[.pointer (some ⟨B, 0, none⟩), .int .i64 k] w fun e w' => e = .returned (.int .i64 (d.restore k).2) ∧ Dj w0 B N (d.restore k).1 KS w' ∧ Stay KS w w' := by
  obtain ⟨⟨col, vb, vw, vs, vt, hs, hk⟩, h2, h3⟩ := h
  exact (restore_calls k w hs h3).mono fun e w' ⟨he, ha⟩ => ⟨he, Dj.after hs hk h2 h3.restore ha⟩
theorem read_dj (h : Dj w0 B N d KS w) (n : Int) (hwl : d.waits.length ≤ 100000) : Calls Try.prog 13 #[.pointer (some ⟨B, 0, none⟩), .int .i64 n] w (Told (d.read N n).1 (d.read N n).2 w) := by
  obtain ⟨⟨col, vb, vw, vs, vt, hs, hk⟩, h2, h3⟩ := h
  unfold Dv.read
  by_cases hq : n < 0 ∨ (N : Int) ≤ n
  · rw [ask_ne hq, if_pos (by decide)]
    exact read_bad n w hs h3.of hq
  · rw [ask_in hq, if_neg (by decide)]
    obtain ⟨q, rfl⟩ : ∃ q : Nat, n = (q : Int) := ⟨n.toNat, by omega⟩
    exact read_good q w hs h3.of (by omega) hwl (fun y hy => (h3.ws y hy).2)
theorem trace_dj (h : Dj w0 B N d KS w) (ht : d.trace.length ≤ 1000000000) : Calls Try.prog 22 #[.pointer (some ⟨B, 0, none⟩)] w fun e w' => ∃ v, e = .returned v ∧ Kd.R ki 3 w' w.heap.size (fun _ => True) v d.trace ∧ Below w.heap.size w w' := by
  obtain ⟨⟨col, vb, vw, vs, vt, hs, hk⟩, h2, h3⟩ := h
  exact trace_calls w hs ht
theorem bytes_dj (h : Dj w0 B N d KS w) : Calls Try.prog 20 #[.pointer (some ⟨B, 0, none⟩)] w fun e w' => ∃ v, e = .returned v ∧ Kd.R kb 5 w' w.heap.size (fun _ => True) v d.blocks ∧ Below w.heap.size w w' := by
  obtain ⟨⟨col, vb, vw, vs, vt, hs, hk⟩, h2, h3⟩ := h
  exact bytes_calls w hs (by have := h3.of.1; have := h3.of.2.2; omega)
theorem waiting_dj (h : Dj w0 B N d KS w) (hwl : d.waits.length ≤ 100000) : Calls Try.prog 16 #[.pointer (some ⟨B, 0, none⟩)] w fun e w' => ∃ v, e = .returned v ∧ Kd.R ki 3 w' w.heap.size (fun _ => True) v (numsW d.waits) ∧ Below w.heap.size w w' := by
  obtain ⟨⟨col, vb, vw, vs, vt, hs, hk⟩, h2, h3⟩ := h
  exact waiting_calls w hs hwl
theorem len_dj (h : Dj w0 B N d KS w) : Calls Try.prog 19 #[.pointer (some ⟨B, 0, none⟩)] w fun e w' => e = .returned (.int .i64 (N : Int)) ∧ w = w' := by
  obtain ⟨⟨col, vb, vw, vs, vt, hs, hk⟩, h2, h3⟩ := h
  exact len_calls w hs h3.of
theorem new_dj (n : Nat) (h1 : 1 ≤ n) (h2 : n ≤ 1024) (hb : Below w0.heap.size w0 w) : Calls Try.prog 7 #[.int .i64 (n : Int)] w fun e w' => ∃ B, e = .returned (.tuple #[.pointer (some ⟨B, 0, none⟩), .int .i64 0]) ∧ Dj w0 B n (Dv.new n) [] w' ∧ Below w.heap.size w w' ∧ w.heap.size ≤ B := by
  refine (new_calls n h1 h2 w).mono ?_
  rintro e w' ⟨B, col, vb, vw, vs, vt, he, hs, hc, hbb⟩
  have hl : w0.heap.size ≤ w.heap.size := hb.size
  exact ⟨B, he, ⟨⟨col, vb, vw, vs, vt, ⟨hs.box, Nat.le_trans hl hs.hB, hs.cB, Kd.R_lower hs.rb hl, Kd.R_lower hs.rw hl, Kd.R_lower hs.rs hl, Kd.R_lower hs.rt hl, hs.lt⟩, fun k hk => absurd hk (by simp)⟩, below_step hb hbb, Wf.new h1 h2⟩, hbb, hs.hB⟩
end
end Go.Proofs.Ytenbcpjlbfojlaa.DA
