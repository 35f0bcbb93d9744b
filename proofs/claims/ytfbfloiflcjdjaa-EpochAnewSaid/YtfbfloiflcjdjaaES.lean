/- A map keyed by uses; a meter beside a block that stays. -/
import Derived.Test.YtfbfloiflcjdjaaER
import Derived.DeepKeys4
import Derived.Maps.Keyed
namespace Go.Proofs.Ytfbfloiflcjdjaa.EO
open Go.RowKit Go.Maps Go.Proofs.YtfbfloiflcjdjaaW.PrintWords Go.Proofs.YtfbfloiflcjdjaaW.PrintLast Go.Proofs.YtfbfloiflcjdjaaW.PrintMore Go.Proofs.Ytfbfloiflcjdjaa.PE Go.Proofs.Ytfbfloiflcjdjaa.EM Go.Proofs.Ytfbfloiflcjdjaa.EN
set_option linter.unusedVariables false
theorem laidOut : laidOutB Try.prog = true := by kernel_rfl
theorem law37k : WideMaps.KeyLaw Try.prog 37 := deep_law_laid laidOut (m := 2) (by omega) (of_decide_eq_true (by kernel_rfl)) (by kernel_rfl) (by kernel_rfl)
theorem law37 : Keyed Try.prog 37 := Keyed.of_law law37k
def uV (u : Use) : Value := .agg #[.int .u32 u.e, .int .i64 u.b]
def uWf (u : Use) : Prop := (Lit.int .u32 u.e).wf = true ∧ (Lit.int .i64 u.b).wf = true
def uK (u : Use) : Lit := .string (keyBytes [.int .u32 u.e, .int .i64 u.b])
theorem key_use {u : Use} (h : uWf u) : keyOf Try.prog 37 (uV u) = some (uK u) := by
  obtain ⟨e, b⟩ := u
  obtain ⟨h1, h2⟩ := h
  have c1 : Try.prog.keyType 37 = true := by kernel_rfl
  have c2 : Try.prog.cellsOf 37 = 2 := by kernel_rfl
  have c3 : Try.prog.cellsOf 22 = 1 := by kernel_rfl
  have c4 : Try.prog.cellsOf 3 = 1 := by kernel_rfl
  have c5 : ((uV ⟨e, b⟩).formed Try.prog 37) = true := by simp [uV, Value.formed, Try.underlying37, c2]
  obtain ⟨n, hn⟩ : ∃ n, Try.prog.types.size + 1 = n + 2 := ⟨Try.prog.types.size - 1, by have : 1 ≤ Try.prog.types.size := of_decide_eq_true (by kernel_rfl); omega⟩
  unfold keyOf
  rw [Try.underlying37, c1, c5, hn]
  simp only [Bool.and_self, if_true]
  simp only at h1 h2
  have h1' : (Lit.int .u32 e).wf = true := h1
  have h2' : (Lit.int .i64 b).wf = true := h2
  simp [Program.keyLits, Try.underlying37, Try.underlying22, Try.underlying3, c2, c3, c4, uV, Value.cells, h1', h2', uK]
theorem uK_inj {u x : Use} (hu : uWf u) (hx : uWf x) (h : (uK u) = (uK x)) : u = x := by
  have h1 := key_use hu
  have h2 := key_use hx
  rw [← h] at h2
  have h3 := law37.inj h1 h2
  obtain ⟨e, b⟩ := u
  obtain ⟨e', b'⟩ := x
  simp only [uV] at h3
  injection h3 with h3
  injection h3 with h3
  injection h3 with h4 h5
  injection h5 with h5 _
  injection h4 with _ h4
  injection h5 with _ h5
  rw [h4, h5]
/-- The map of some uses, the newest first. -/
def MU : List Use → DataW Unit
  | [] => .map []
  | u :: r => (MU r).put (uK u) (.lit (.bool true))
theorem MU_isMap : ∀ l, IsMap (MU l)
  | [] => ⟨_, rfl⟩
  | _ :: l => by obtain ⟨es, h⟩ := MU_isMap l; unfold MU; rw [h]; exact ⟨_, rfl⟩
theorem MU_at {x : Use} (hx : uWf x) : ∀ l : List Use, (∀ u ∈ l, uWf u) → (MU l).atKey (uK x) (.lit (.bool false)) = .lit (.bool (decide (x ∈ l)))
  | [], _ => rfl
  | b :: l, hl => by
    unfold MU
    by_cases he : x = b
    · rw [he, atKey_put_same (MU_isMap l) (by trivial), decide_eq_true List.mem_cons_self]
    · rw [atKey_put_other (by intro h; exact he (uK_inj hx (hl b List.mem_cons_self) h)), MU_at hx l (fun u hu => hl u (List.mem_cons_of_mem _ hu))]
      congr 2
      exact decide_eq_decide.2 ⟨fun h => List.mem_cons_of_mem _ h, fun h => by rcases List.mem_cons.1 h with h | h; exact absurd h he; exact h⟩
theorem lookup_uses {w : World} {ops : Array Oper} {rest : List Oper} {o : Oper} {a : Act} {Q : Exit → Act → World → Prop}
    (hg : o.guard = none) (m x : Operand) (hop : o.op = Op.lookup 33 m x false) (b n : Nat) (l : List Use)
    (hm : a.eval m = .map (some b)) (hown : w.ownsMap Try.prog 37 (plainElem Try.prog 4) b n (MU l)) (u : Use) (hx : a.eval x = (uV u)) (hu : uWf u) (hl : ∀ u ∈ l, uWf u)
    (hK : wpList Try.prog ops Q rest (a.put o.dst (.bool (decide (u ∈ l)))) w) : wpList Try.prog ops Q (o :: rest) a w := by
  refine wpList_plain hg fun K' hK' => ?_
  obtain ⟨v, ps, hrun, hR⟩ := hown.lookup law37 (t := 33) (e := 4) Try.underlying33 (zero4 w) (plainElem_bool Try.underlying4 false) (key_use hu)
  rw [MU_at hu l hl] at hR
  obtain rfl := bool_of hR
  unfold Oper.wp
  simp [execOp, hop, hm, hx, hrun, Result.andThen]
  exact hK' _ _ hK
theorem own_keepU {w w' : World} {b n : Nat} {D : DataW Unit} (h : w.ownsMap Try.prog 37 (plainElem Try.prog 4) b n D) (he : w'.heap[b]? = w.heap[b]?) : w'.ownsMap Try.prog 37 (plainElem Try.prog 4) b n D := by
  obtain ⟨es, clock, hb0, F, hs, hD⟩ := h
  exact ⟨es, clock, he.trans hb0, F, hs, hD⟩
theorem uAt_mem {xs : List Use} {j : Nat} (h : j < xs.length) : uAt xs j ∈ xs := by
  unfold uAt
  rw [List.getD_eq_getElem?_getD, List.getElem?_eq_getElem h]
  exact List.getElem_mem h
theorem uAt_new {xs : List Use} {j : Nat} (hn : xs.Nodup) (h : j < xs.length) : uAt xs j ∉ xs.take j := by
  intro h9
  have h1 := uAt_take h
  have h2 : (xs.take (j + 1)).Nodup := (List.take_sublist _ _).nodup hn
  rw [h1] at h2
  exact (List.nodup_append.1 h2).2.2 _ h9 _ (List.mem_singleton.2 rfl) rfl
section
variable {w0 w w' : World} {B kb : Nat} {o : Obj} {m m' : Meter}
/-- A meter stands, and a block beside it that stays. -/
structure Mk (w0 : World) (B kb : Nat) (o : Obj) (m : Meter) (w : World) : Prop where
  ex : ∃ S vu mv, Mt w0.heap.size B m S w vu mv ∧ ¬ S kb
  blk : w.heap[kb]? = some o
  bel : Below w0.heap.size w0 w
theorem Mk.ms (h : Mk w0 B kb o m w) : Ms w0 B m w := by
  obtain ⟨⟨S, vu, mv, hm, _⟩, _, h2⟩ := h
  exact ⟨⟨S, vu, mv, hm⟩, h2⟩
theorem Ms.mk' (h : Ms w0 B m w) (cs : Array Value) (t : TypeId) : Mk w0 B w.heap.size (.cells cs t (0, 0)) m (w.alloc (.cells cs t)) := by
  obtain ⟨⟨S, vu, mv, hm⟩, h2⟩ := h
  have hb := (Below.refl w.heap.size w).alloc (Nat.le_refl _) (.cells cs t)
  exact ⟨⟨_, vu, mv, (Mt.restrict hm).below hb, fun hk => by have := hk.2; omega⟩, blk_new _ _, below_step h2 hb⟩
theorem Mk.below (h : Mk w0 B kb o m w) (hb : Below w.heap.size w w') : Mk w0 B kb o m w' := by
  obtain ⟨⟨S, vu, mv, hm, hk⟩, h1, h2⟩ := h
  exact ⟨⟨S, vu, mv, hm.below hb, hk⟩, blk_below h1 hb, below_step h2 hb⟩
theorem Mk.after {S : Nat → Prop} (h2 : Below w0.heap.size w0 w) (hn : ¬ S kb) (h1 : w.heap[kb]? = some o) (ha : After w0.heap.size B m' S w w') : Mk w0 B kb o m' w' := by
  obtain ⟨S', vu', mv', hm', hs, hk, hb⟩ := ha
  refine ⟨⟨_, vu', mv', hm', fun h8 => ?_⟩, blk_kept h1 hk hn, h2.trans hb⟩
  rcases hs kb h8 with h7 | h7
  · exact hn h7
  · have := blk_lt h1
    omega
theorem play_mk (h : Mk w0 B kb o m w) (k b : Int) (hk : 0 ≤ k ∧ k ≤ 255) (hb0 : (Lit.int .i64 b).wf = true) (hm : 0 ≤ m.last ∧ m.last ≤ 4294967295) (hul : m.uses.length ≤ 1000000) (hbl : m.bl.length ≤ 1000000) :
    Calls Try.prog 9 #[.pointer (some ⟨B, 0, none⟩), .agg #[.int .u8 k, .int .i64 b]] w fun e w' => e = .returned (.tuple #[.int .u32 (Meter.step m k b).2.1, .int .i64 (Meter.step m k b).2.2]) ∧ Mk w0 B kb o (Meter.step m k b).1 w' :=
  play_gen (fun m w => Mk w0 B kb o m w) (fun _ _ _ h hb => h.below hb)
    (fun m w h hl => by
      obtain ⟨⟨S, vu, mv, hmm, hn⟩, h1, h2⟩ := h
      exact (reserve_calls w hmm hl).mono fun e w' ⟨he, ha⟩ => ⟨he, Mk.after h2 hn h1 ha⟩)
    (fun m b w h h4 h5 h6 => by
      obtain ⟨⟨S, vu, mv, hmm, hn⟩, h1, h2⟩ := h
      exact (use_calls b h4 w hmm h5 h6).mono fun e w' ⟨he, ha⟩ => ⟨he, Mk.after h2 hn h1 ha⟩)
    (fun m w h => by
      obtain ⟨⟨S, vu, mv, hmm, hn⟩, h1, h2⟩ := h
      exact (done_calls w hmm).mono fun e w' ⟨he, ha⟩ => ⟨he, Mk.after h2 hn h1 ha⟩)
    h k b hk hb0 hm hul hbl
/-- Each use's block is a number of Go's. -/
def UW (m : Meter) : Prop := ∀ u ∈ m.uses, (Lit.int .i64 u.b).wf = true
theorem UW.step (h : UW m) {k b : Int} (hb : (Lit.int .i64 b).wf = true) : UW (Meter.step m k b).1 := by
  unfold Meter.step
  split
  · unfold Meter.reserve
    repeat' split
    all_goals exact h
  · split
    · unfold Meter.done
      split
      all_goals exact h
    · unfold Meter.use
      split
      · exact h
      · split
        · exact h
        · intro u hu
          rcases List.mem_append.1 hu with hu | hu
          · exact h u hu
          · obtain rfl := List.mem_singleton.1 hu
            exact hb
theorem UW.wf {l0 : Int} (h : UW m) (hi : Inv l0 m) : ∀ u ∈ m.uses, uWf u := fun u hu => by
  refine ⟨?_, h u hu⟩
  have h1 := hi.es u hu
  have h2 := hi.hi
  have h3 := hi.l00
  have h4 : 0 ≤ u.e ∧ u.e ≤ 4294967295 := by omega
  simpa [Lit.wf, IntKind.min, IntKind.max, IntKind.signed, IntKind.bits] using h4
/-- What a step says of the last epoch. -/
theorem step_last {l0 : Int} (hi : Inv l0 m) (k b : Int) :
    ((k % 4 = 0 ∧ (Meter.step m k b).2.2 = 0) → (Meter.step m k b).2.1 = m.last + 1 ∧ (Meter.step m k b).1.last = m.last + 1) ∧
    (¬ (k % 4 = 0 ∧ (Meter.step m k b).2.2 = 0) → (Meter.step m k b).1.last = m.last) := by
  unfold Meter.step
  by_cases h0 : k % 4 = 0
  · rw [if_pos h0]
    unfold Meter.reserve
    repeat' split
    all_goals simp [h0]
  · rw [if_neg h0]
    refine ⟨fun h => absurd h.1 h0, fun _ => ?_⟩
    split
    · unfold Meter.done
      split <;> rfl
    · unfold Meter.use
      repeat' split
      all_goals rfl
end
end Go.Proofs.Ytfbfloiflcjdjaa.EO
