/- The program's meter, by hand: what stands in memory, and what its methods come to. -/
import Derived.Test.YtfbfloiflcjdjaaPEx0
import Derived.Maps.OwnOps
import Derived.Maps.Views
import Derived.StillTailTactics
import Derived.Lib.SliceRun
namespace Go.Proofs.Ytfbfloiflcjdjaa.EM
open Go.RowKit Go.Maps Go.Proofs.YtfbfloiflcjdjaaW.PrintWords Go.Proofs.YtfbfloiflcjdjaaW.PrintLast Go.Proofs.YtfbfloiflcjdjaaW.PrintMore Go.Proofs.Ytfbfloiflcjdjaa.PE
/-- A use: an epoch and a block. -/
structure Use where
  e : Int
  b : Int
deriving DecidableEq
def zU : Use := ⟨0, 0⟩
def kU : Kd Use := Kd.iso (Kd.pair (Kd.int .u32) (Kd.int .i64)) (fun x : Use => (x.e, x.b))
theorem kU_mkM (w : World) (base : Nat) (ok : Nat → Prop) (x : Use) : kU.M w base ok x [.int .u32 x.e, .int .i64 x.b] := ⟨[.int .u32 x.e], [.int .i64 x.b], rfl, rfl, rfl⟩
theorem kU_openM {w : World} {base : Nat} {ok : Nat → Prop} {x : Use} {cs : List Value} (h : kU.M w base ok x cs) : cs = [.int .u32 x.e, .int .i64 x.b] := by
  obtain ⟨_, _, rfl, rfl, rfl⟩ := h
  exact rfl
theorem kU_open {w : World} {x : Use} {cs : List Value} (h : kU.K w x cs) : cs = [.int .u32 x.e, .int .i64 x.b] := by
  obtain ⟨_, _, rfl, rfl, rfl⟩ := h
  exact rfl
theorem info37 : (Try.prog.info? 37).map (fun i => (i.zero, i.size, i.bytes)) = some (some (.agg #[.int .u32 0, .int .i64 0]), 2, 16) := by kernel_rfl
/-- The map of the blocks of an epoch, the newest first. -/
def MB : List Int → DataW Unit
  | [] => .map []
  | b :: r => (MB r).put (.int .i64 b) (.lit (.bool true))
theorem MB_isMap : ∀ l, IsMap (MB l)
  | [] => ⟨_, rfl⟩
  | _ :: l => by obtain ⟨es, h⟩ := MB_isMap l; unfold MB; rw [h]; exact ⟨_, rfl⟩
theorem MB_at {x : Int} : ∀ l : List Int, (MB l).atKey (.int .i64 x) (.lit (.bool false)) = .lit (.bool (decide (x ∈ l)))
  | [] => rfl
  | b :: l => by
    unfold MB
    by_cases he : x = b
    · rw [he, atKey_put_same (MB_isMap l) (by trivial), decide_eq_true List.mem_cons_self]
    · rw [atKey_put_other (by intro h; injection h with _ h; exact he h), MB_at l]
      congr 2
      exact decide_eq_decide.2 ⟨fun h => List.mem_cons_of_mem _ h, fun h => by rcases List.mem_cons.1 h with h | h; exact absurd h he; exact h⟩
theorem law3 : Keyed Try.prog 3 := int_keyed Try.underlying3
theorem zero4 (w : World) : (zeroValue 4).run Try.prog w = .ok (.bool false) w := by kernel_rfl
theorem bool_of {v : Value} {x : Bool} {ps : List MemPlace} (h : plainElem (H := Unit) Try.prog 4 v = some (.lit (.bool x), ps)) : v = .bool x := by
  unfold plainElem at h
  rw [Try.underlying4] at h
  cases v <;> simp at h
  rw [h.1]
/-- A look-up in the map, at the operation. -/
theorem lookup_blocks {w : World} {ops : Array Oper} {rest : List Oper} {o : Oper} {a : Act} {Q : Exit → Act → World → Prop}
    (hg : o.guard = none) (m x : Operand) (hop : o.op = Op.lookup 54 m x false) (b n : Nat) (l : List Int)
    (hm : a.eval m = .map (some b)) (hown : w.ownsMap Try.prog 3 (plainElem Try.prog 4) b n (MB l)) (key : Int) (hx : a.eval x = .int .i64 key) (hkey : keyOf Try.prog 3 (.int .i64 key) = some (.int .i64 key))
    (hK : wpList Try.prog ops Q rest (a.put o.dst (.bool (decide (key ∈ l)))) w) : wpList Try.prog ops Q (o :: rest) a w := by
  refine wpList_plain hg fun K' hK' => ?_
  obtain ⟨v, ps, hrun, hR⟩ := hown.lookup law3 (t := 54) (e := 4) Try.underlying54 (zero4 w) (plainElem_bool Try.underlying4 false) hkey
  rw [MB_at] at hR
  obtain rfl := bool_of hR
  unfold Oper.wp
  simp [execOp, hop, hm, hx, hrun, Result.andThen]
  exact hK' _ _ hK
/-- A meter: what was reserved last, what is reserved, what was used, and the blocks of what is reserved, the newest first. -/
structure Meter where
  last : Int
  now : Int
  uses : List Use
  bl : List Int
def Meter.new (last : Int) : Meter := ⟨last, 0, [], []⟩
def Meter.reserve (m : Meter) : Meter × Int × Int :=
  if m.now ≠ 0 then (m, 0, 7) else if m.last = 4294967295 then (m, 0, 20) else (⟨m.last + 1, m.last + 1, m.uses, []⟩, m.last + 1, 0)
def Meter.use (m : Meter) (b : Int) : Meter × Int :=
  if m.now = 0 ∨ b < 0 then (m, 1) else if b ∈ m.bl then (m, 7) else (⟨m.last, m.now, m.uses ++ [⟨m.now, b⟩], b :: m.bl⟩, 0)
def Meter.done (m : Meter) : Meter × Int := if m.now = 0 then (m, 1) else (⟨m.last, 0, m.uses, m.bl⟩, 0)
/-- What stands in memory: the meter's block B, its uses' row, its map; S holds its blocks, all from base on. -/
structure Mt (base B : Nat) (m : Meter) (S : Nat → Prop) (w : World) (vu mv : Value) : Prop where
  box : w.heap[B]? = some (.cells #[.int .u32 m.last, .int .u32 m.now, vu, mv] 56 (0, 0))
  hB : base ≤ B
  row : Kd.R kU 37 w base (fun k => k ≠ B ∧ mv ≠ .map (some k)) vu m.uses
  map : m.now ≠ 0 → ∃ mb, mv = .map (some mb) ∧ mb ≠ B ∧ base ≤ mb ∧ w.ownsMap Try.prog 3 (plainElem Try.prog 4) mb m.bl.length (MB m.bl)
  foot : ∀ k, (k = B ∨ some k = vu.ownBlock ∨ mv = .map (some k)) → S k
  mlt : ∀ k, mv = .map (some k) → k < w.heap.size
section
variable {base B : Nat} {m : Meter} {S : Nat → Prop} {w w' : World} {vu mv : Value}
theorem Mt.lt (h : Mt base B m S w vu mv) : B < w.heap.size := blk_lt h.box
theorem Mt.kept (h : Mt base B m S w vu mv) {S2 : Nat → Prop} (hk : Kept w w' S2) (hd : ∀ k, S k → ¬ S2 k) : Mt base B m S w' vu mv := by
  refine ⟨blk_kept h.box hk (hd B (h.foot B (.inl rfl))), h.hB, ?_, ?_, h.foot, fun k h9 => Nat.lt_of_lt_of_le (h.mlt k h9) hk.1⟩
  · obtain ⟨h0, inner, ho, hr⟩ := h.row
    exact ⟨h0, inner, own_move ho (fun k hk2 => hk.2 k (own_lt ho k hk2) (hd k (h.foot k (.inr (.inl hk2.symm))))), hr.imp_ (fun p cs hp => by obtain rfl := kU_openM hp; exact kU_mkM _ _ _ _)⟩
  · intro hn
    obtain ⟨mb, h1, h2, h3, h4⟩ := h.map hn
    refine ⟨mb, h1, h2, h3, ?_⟩
    have hlt := h4.lt
    obtain ⟨es, clock, hb0, F, hs, hD⟩ := h4
    exact ⟨es, clock, (hk.2 mb hlt (hd mb (h.foot mb (.inr (.inr h1))))).trans hb0, F, hs, hD⟩
theorem Mt.below (h : Mt base B m S w vu mv) (hb : Below w.heap.size w w') : Mt base B m S w' vu mv := h.kept (Kept.of_below hb (fun _ => False)) (fun _ _ h => h)
theorem Mt.c0 (h : Mt base B m S w vu mv) : w.cell? ⟨B, 0, none⟩ = some (.int .u32 m.last) := (blk_cell h.box 0).trans rfl
theorem Mt.c1 (h : Mt base B m S w vu mv) : w.cell? ⟨B, 1, none⟩ = some (.int .u32 m.now) := (blk_cell h.box 1).trans rfl
theorem Mt.c2 (h : Mt base B m S w vu mv) : w.cell? ⟨B, 2, none⟩ = some vu := (blk_cell h.box 2).trans rfl
theorem Mt.c3 (h : Mt base B m S w vu mv) : w.cell? ⟨B, 3, none⟩ = some mv := (blk_cell h.box 3).trans rfl
end
set_option maxHeartbeats 2000000 in
theorem new_calls (last : Int) (w : World) : Calls Try.prog 7 #[.int .u32 last] w fun e w' => ∃ vu mv, e = .returned (.pointer (some ⟨w.heap.size, 0, none⟩)) ∧ Mt w.heap.size w.heap.size (Meter.new last) (fun k => w.heap.size ≤ k) w' vu mv ∧ Below w.heap.size w w' := by
  go_enter Try.func7, Try.ntmps7
  go_wp2
  go_ret
  refine ⟨.slice none 0 0, .map none, rfl, ⟨blk_new _ _, Nat.le_refl _, Kd.R_nil _ _ _ _ _, fun h => absurd rfl h, fun k hk => ?_, fun k hk => by cases hk⟩, (Below.refl _ _).alloc (Nat.le_refl _) _⟩
  rcases hk with rfl | hk | hk
  · exact Nat.le_refl _
  · cases hk
  · cases hk
section
variable {base B : Nat} {m : Meter} {S : Nat → Prop} {vu mv : Value}
set_option maxHeartbeats 2000000 in
theorem last_calls (w : World) (h : Mt base B m S w vu mv) : Calls Try.prog 15 #[.pointer (some ⟨B, 0, none⟩)] w fun e w' => e = .returned (.int .u32 m.last) ∧ w' = w := by
  have h0 := h.c0
  clear h
  go_enter Try.func15, Try.ntmps15
  go_wp2
  go_ret
  exact ⟨rfl, rfl⟩
set_option maxHeartbeats 2000000 in
theorem now_calls (w : World) (h : Mt base B m S w vu mv) : Calls Try.prog 16 #[.pointer (some ⟨B, 0, none⟩)] w fun e w' => e = .returned (.int .u32 m.now) ∧ w' = w := by
  have h0 := h.c1
  clear h
  go_enter Try.func16, Try.ntmps16
  go_wp2
  go_ret
  exact ⟨rfl, rfl⟩
set_option maxHeartbeats 2000000 in
theorem left_calls (w : World) (h : Mt base B m S w vu mv) (hm : 0 ≤ m.last ∧ m.last ≤ 4294967295) : Calls Try.prog 17 #[.pointer (some ⟨B, 0, none⟩)] w fun e w' => e = .returned (.int .u32 (4294967295 - m.last)) ∧ w' = w := by
  have h0 := h.c0
  have hw : IntKind.u32.wrap (4294967295 - m.last) = 4294967295 - m.last := by simp [IntKind.wrap, IntKind.signed, IntKind.bits]; omega
  clear h
  go_enter Try.func17, Try.ntmps17
  go_wp2
  go_ret
  exact ⟨rfl, rfl⟩
/-- Behind a method: the meter stands as told; what else stood before is kept. -/
def After (base B : Nat) (m : Meter) (S : Nat → Prop) (w w' : World) : Prop := ∃ S' vu mv, Mt base B m S' w' vu mv ∧ (∀ k, S' k → S k ∨ w.heap.size ≤ k) ∧ Kept w w' S ∧ Below base w w'
theorem After.same {w : World} (h : Mt base B m S w vu mv) : After base B m S w w := ⟨S, vu, mv, h, fun _ hk => .inl hk, Kept.refl _ _, Below.refl _ _⟩
theorem kept_set {w w' : World} {S : Nat → Prop} (h : Kept w w' S) {a : Addr} (ha : S a.block) (u : Value) : Kept w (w'.setCell a u) S :=
  ⟨by simpa [World.setCell] using h.1, fun i hi hn => (Below.heap_setCell w' a u i (fun he => hn (he ▸ ha))).trans (h.2 i hi hn)⟩
theorem kept_alloc {w w' : World} {S : Nat → Prop} (h : Kept w w' S) (o : Obj) : Kept w (w'.alloc o) S :=
  ⟨Nat.le_trans h.1 (by simp), fun i hi hn => (Below.heap_alloc w' o i (Nat.lt_of_lt_of_le hi h.1)).trans (h.2 i hi hn)⟩
set_option maxHeartbeats 2000000 in
theorem done_calls (w : World) (h : Mt base B m S w vu mv) : Calls Try.prog 20 #[.pointer (some ⟨B, 0, none⟩)] w fun e w' => e = .returned (.int .i64 m.done.2) ∧ After base B m.done.1 S w w' := by
  have h0 := h.c1
  have hf := blk_frozen h.box 1
  have HM := Aside0.mk h
  clear h
  unfold Meter.done
  by_cases hn : m.now = 0
  · rw [if_pos hn]
    rw [hn] at h0
    go_enter Try.func20, Try.ntmps20
    go_wp2
    go_ret
    exact ⟨rfl, After.same HM.out⟩
  · rw [if_neg hn]
    have hb : (m.now == 0) = false := beq_eq_false_iff_ne.mpr hn
    go_enter Try.func20, Try.ntmps20
    go_wp2
    go_ret
    have h := HM.out
    refine ⟨rfl, S, vu, mv, ⟨blk_put h.box 1 _ rfl, h.hB, Kd.R_far (p := ⟨B, 1, none⟩) h.row (fun _ hk => hk.1) _, fun h9 => absurd rfl h9, h.foot, fun k h9 => by simpa [World.setCell] using h.mlt k h9⟩, fun _ hk => .inl hk, kept_set (Kept.refl _ _) (h.foot B (.inl rfl)) _, (Below.refl base w).setCell (p := ⟨B, 1, none⟩) h.hB _⟩
set_option maxHeartbeats 2000000 in
theorem reserve_calls (w : World) (h : Mt base B m S w vu mv) (hm : 0 ≤ m.last ∧ m.last ≤ 4294967295) :
    Calls Try.prog 18 #[.pointer (some ⟨B, 0, none⟩)] w fun e w' => e = .returned (.tuple #[.int .u32 m.reserve.2.1, .int .i64 m.reserve.2.2]) ∧ After base B m.reserve.1 S w w' := by
  have h0 := h.c0
  have h1 := h.c1
  have h3 := h.c3
  have hf0 := blk_frozen h.box 0
  have hf1 := blk_frozen h.box 1
  have hf3 := blk_frozen h.box 3
  have hlt := h.lt
  have hmm := @run_makeMap Try.prog
  have HM := Aside0.mk h
  clear h
  unfold Meter.reserve
  by_cases hn : m.now = 0
  · rw [if_neg (by simpa using hn)]
    rw [hn] at h1
    by_cases hl : m.last = 4294967295
    · rw [if_pos hl]
      rw [hl] at h0
      go_enter Try.func18, Try.ntmps18
      go_wp2
      go_ret2
      exact ⟨rfl, After.same HM.out⟩
    · rw [if_neg hl]
      have hb : (m.last == 4294967295) = false := beq_eq_false_iff_ne.mpr hl
      have hw : IntKind.u32.wrap (m.last + 1) = m.last + 1 := by simp [IntKind.wrap, IntKind.signed, IntKind.bits]; omega
      go_enter Try.func18, Try.ntmps18
      go_wp2
      go_ret2
      have h := HM.out
      have hs3 : (((w.setCell ⟨B, 0, none⟩ (.int .u32 (m.last + 1))).setCell ⟨B, 1, none⟩ (.int .u32 (m.last + 1))).setCell ⟨B, 3, none⟩ (.map (some w.heap.size))).heap.size = w.heap.size := by simp [World.setCell]
      have hrow : Kd.R kU 37 w base (fun k => k ≠ B ∧ Value.map (some w.heap.size) ≠ .map (some k)) vu m.uses := Kd.R_mono (Kd.R_bound h.row) (fun k hk => ⟨hk.1.1, by intro he; injection he with he; injection he with he; have := hk.2.2.1; omega⟩)
      refine ⟨rfl, fun k => S k ∨ k = w.heap.size, vu, .map (some w.heap.size), ⟨blk_alloc (blk_put (blk_put (blk_put h.box 0 _ rfl) 1 _ rfl) 3 _ rfl) _, h.hB, ?_, ?_, ?_, fun k h9 => by injection h9 with h9; injection h9 with h9; subst h9; simp [World.setCell]⟩, ?_, ?_, ?_⟩
      · exact Kd.R_alloc (Kd.R_far (p := ⟨B, 3, none⟩) (Kd.R_far (p := ⟨B, 1, none⟩) (Kd.R_far (p := ⟨B, 0, none⟩) hrow (fun _ hk => hk.1) _) (fun _ hk => hk.1) _) (fun _ hk => hk.1) _) _
      · intro _
        refine ⟨w.heap.size, rfl, by omega, Nat.le_trans h.hB (by omega), ?_⟩
        have := World.ownsMap_made (H := Unit) (((w.setCell ⟨B, 0, none⟩ (.int .u32 (m.last + 1))).setCell ⟨B, 1, none⟩ (.int .u32 (m.last + 1))).setCell ⟨B, 3, none⟩ (.map (some w.heap.size))) Try.prog 3 (plainElem Try.prog 4)
        rw [hs3] at this
        exact this
      · rintro k (rfl | hk | hk)
        · exact .inl (h.foot k (.inl rfl))
        · exact .inl (h.foot k (.inr (.inl hk)))
        · injection hk with hk; injection hk with hk; exact .inr hk.symm
      · rintro k (hk | rfl)
        · exact .inl hk
        · exact .inr (Nat.le_refl _)
      · exact kept_alloc (kept_set (kept_set (kept_set (Kept.refl _ _) (h.foot B (.inl rfl)) _) (h.foot B (.inl rfl)) _) (h.foot B (.inl rfl)) _) _
      · exact ((((Below.refl base w).setCell (p := ⟨B, 0, none⟩) h.hB _).setCell (p := ⟨B, 1, none⟩) h.hB _).setCell (p := ⟨B, 3, none⟩) h.hB _).alloc (by rw [hs3]; exact Nat.le_trans h.hB (by omega)) _
  · rw [if_pos hn]
    have hb : (m.now != 0) = true := bne_iff_ne.mpr hn
    go_enter Try.func18, Try.ntmps18
    go_wp2
    go_ret2
    exact ⟨rfl, After.same HM.out⟩
theorem own_keep {w w' : World} {b n : Nat} {D : DataW Unit} (h : w.ownsMap Try.prog 3 (plainElem Try.prog 4) b n D) (he : w'.heap[b]? = w.heap[b]?) : w'.ownsMap Try.prog 3 (plainElem Try.prog 4) b n D := by
  obtain ⟨es, clock, hb0, F, hs, hD⟩ := h
  exact ⟨es, clock, he.trans hb0, F, hs, hD⟩
theorem kept_drew {w w' : World} {S : Nat → Prop} (h : Kept w w' S) : Kept w w'.drew S := h
theorem kept_grown {w w1 w' : World} {S : Nat → Prop} {mb : Nat} (h : Kept w w1 S) (hg : w1.grownBy w' (some mb)) (hs : S mb) : Kept w w' S :=
  ⟨Nat.le_trans h.1 hg.size, fun i hi hn => (hg.block i (Nat.lt_of_lt_of_le hi h.1) (by intro he; injection he with he; exact hn (he ▸ hs))).trans (h.2 i hi hn)⟩
theorem kept_grown2 {w w1 w' : World} {S : Nat → Prop} {row : Option Nat} (h : Kept w w1 S) (hg : w1.grownBy w' row) (hs : ∀ k, row = some k → S k) : Kept w w' S :=
  ⟨Nat.le_trans h.1 hg.size, fun i hi hn => (hg.block i (Nat.lt_of_lt_of_le hi h.1) (fun he => hn (hs i he.symm))).trans (h.2 i hi hn)⟩
theorem Mt.stored {w w1 : World} {mb : Nat} {b : Int} (h : Mt base B m S w vu (.map (some mb))) (hmb : mb ≠ B) (hbm : base ≤ mb) (hown : w1.ownsMap Try.prog 3 (plainElem Try.prog 4) mb (m.bl.length + 1) ((MB m.bl).put (.int .i64 b) (.lit (.bool true)))) (hg : w.grownBy w1 (some mb)) :
    Mt base B ⟨m.last, m.now, m.uses, b :: m.bl⟩ S w1 vu (.map (some mb)) := by
  refine ⟨blk_grown h.box hg (by intro he; injection he with he; exact hmb he.symm), h.hB, ?_, fun _ => ⟨mb, rfl, hmb, hbm, hown⟩, h.foot, fun k h9 => Nat.lt_of_lt_of_le (h.mlt k h9) hg.size⟩
  exact Kd.R_step h.row (fun k hk hlt => hg.block k hlt (by intro he; injection he with he; exact hk.2 (by rw [he])))
theorem foot_ne {w : World} (h : Mt base B m S w vu mv) : some B ≠ vu.ownBlock := fun he => (h.row.1 B he.symm).1 rfl
theorem skip_ {P : Program} {ops : Array Oper} {Q : Exit → Act → World → Prop} {oi : Oper} {N : Option Tmp} {a : Act} {w w1 : World} {K : Act → World → Prop} (hw : Region.wanted oi (yielded ops a.tmps) = true) (hN : oi.dst = N) (hrun : (execOp a.eval oi).run P w = .ok .skip w1)
    (h : K (a.put N undef) w1) : if Region.wanted oi (yielded ops a.tmps) = true then Oper.wp P oi a w K Q else K (a.put N undef) w := by
  rw [if_pos hw]
  subst hN
  unfold Oper.wp
  rw [hrun]
  exact h
set_option maxHeartbeats 4000000 in
theorem use_calls (b : Int) (hb0 : (Lit.int .i64 b).wf = true) (w : World) (h : Mt base B m S w vu mv) (hul : m.uses.length ≤ 1000000) (hbl : m.bl.length ≤ 1000000) :
    Calls Try.prog 19 #[.pointer (some ⟨B, 0, none⟩), .int .i64 b] w fun e w' => e = .returned (.int .i64 (m.use b).2) ∧ After base B (m.use b).1 S w w' := by
  have h1 := h.c1
  have h2 := h.c2
  have h3 := h.c3
  have hf2 := blk_frozen h.box 2
  have HM := Aside0.mk h
  have hkey : keyOf Try.prog 3 (.int .i64 b) = some (.int .i64 b) := keyOf_int_mk Try.underlying3 hb0
  have HK := Aside0.mk hkey
  have hmap := h.map
  clear h hkey
  unfold Meter.use
  by_cases hn : m.now = 0
  · rw [if_pos (.inl hn)]
    rw [hn] at h1
    go_enter Try.func19, Try.ntmps19
    go_wp2
    go_ret
    exact ⟨rfl, After.same HM.out⟩
  · have hnb : (m.now == 0) = false := beq_eq_false_iff_ne.mpr hn
    by_cases hb : b < 0
    · rw [if_pos (.inr hb)]
      have hbb : decide (b < 0) = true := decide_eq_true hb
      clear hb hmap
      go_enter Try.func19, Try.ntmps19
      go_wp2
      go_ret
      exact ⟨rfl, After.same HM.out⟩
    · rw [if_neg (by omega)]
      have hbb : decide (b < 0) = false := decide_eq_false hb
      obtain ⟨mb, rfl, hmb, hbm, hown⟩ := hmap hn
      have hmlt : ∀ {W : World}, Mt base B ⟨m.last, m.now, m.uses, b :: m.bl⟩ S W vu (.map (some mb)) → mb < W.heap.size := fun h9 => by
        obtain ⟨x, hx, _, _, h10⟩ := h9.map hn
        injection hx with hx
        injection hx with hx
        subst hx
        exact h10.lt
      have HO := Aside0.mk hown
      clear hown hn hb
      by_cases hmem : b ∈ m.bl
      · rw [if_pos hmem]
        have HD := Aside0.mk (decide_eq_true hmem)
        clear hmem
        go_enter Try.func19, Try.ntmps19
        go_wp2_with (at_lookup; refine lookup_blocks rfl _ _ rfl mb _ _ rfl HO.out b rfl HK.out ?_; rw [HD.out])
        go_ret
        exact ⟨rfl, After.same HM.out⟩
      · rw [if_neg hmem]
        have HD := Aside0.mk (decide_eq_false hmem)
        clear hmem
        go_enter Try.func19, Try.ntmps19
        go_upto_region 8 with (first
          | (at_lookup; refine lookup_blocks rfl _ _ rfl mb _ _ rfl HO.out b rfl HK.out ?_; rw [HD.out])
          | (at_mapUpdate; refine wpList_mapUpdate_own _ rfl _ _ _ 54 rfl 3 4 law3 Try.underlying54 _ mb _ _ rfl HO.out (by unfold maxLen; omega) _ _ _ rfl rfl HK.out _ [] (plainElem_bool Try.underlying4 true) ?_; intro w1 hown1 hg1; have HM1 := Aside0.mk (HM.out.stored hmb hbm hown1 hg1); have HG1 := Aside0.mk (kept_grown (Kept.refl w S) hg1 (HM.out.foot mb (.inr (.inr rfl)))); have HB1 := Aside0.mk ((Below.refl base w).grown hg1 (Nat.le_trans HM.out.hB (Nat.le_of_lt HM.out.lt)) (fun j hj => by cases hj; exact hbm)); clear hown1 hg1))
        refine start_ (n := 16) (S := fun w' => w'.cell? ⟨B, 2, none⟩ = some vu ∧ w'.cell? ⟨B, 1, none⟩ = some (.int .u32 m.now)) (ds := [12, 15]) #[false, false, false, false, false, false, false, false, false, false, false, false, false, false, false, false] (by kernel_rfl) rfl rfl ⟨HM1.out.c2, HM1.out.c1⟩ (fun hHeld => ?_)
        have HMd := Aside0.mk (HM1.out.below (below_drew1 (Below.refl _ w1)))
        have HGd := Aside0.mk (kept_drew HG1.out)
        have HBd := Aside0.mk (below_drew1 HB1.out)
        clear HM1 HG1 HB1
        generalize w1.drew = wD at hHeld HMd HGd HBd ⊢
        obtain ⟨hh2, hh1⟩ := id hHeld
        refine pure_ (i := 0) (N := some 30) (v := ?_) (a' := ?_) #[true, false, false, false, false, false, false, false, false, false, false, false, false, false, false, false] rfl rfl (by kernel_rfl) (fun _ _ _ h => h) (Or.inl ⟨by rfl, ?_⟩) ?_ ?_
        rotate_left
        · intro w'
          go_simp
          with_reducible rfl
        rotate_left
        · simp only [Act.put, List.setIfInBounds_toArray, List.set_cons_zero, List.set_cons_succ]
          rfl
        refine pure_ (i := 1) (N := some 31) (v := ?_) (a' := ?_) #[true, true, false, false, false, false, false, false, false, false, false, false, false, false, false, false] rfl rfl (by kernel_rfl) (fun _ _ _ h => h) (Or.inl ⟨by rfl, ?_⟩) ?_ ?_
        rotate_left
        · intro w'
          go_simp
          with_reducible rfl
        rotate_left
        · simp only [Act.put, List.setIfInBounds_toArray, List.set_cons_zero, List.set_cons_succ]
          rfl
        refine pure_ (i := 2) (N := some 32) (v := ?_) (a' := ?_) #[true, true, true, false, false, false, false, false, false, false, false, false, false, false, false, false] rfl rfl (by kernel_rfl) (fun _ _ _ h => h) (Or.inl ⟨by rfl, ?_⟩) ?_ ?_
        rotate_left
        · intro w'
          go_simp
          with_reducible rfl
        rotate_left
        · simp only [Act.put, List.setIfInBounds_toArray, List.set_cons_zero, List.set_cons_succ]
          rfl
        refine pure_ (i := 3) (N := some 33) (v := ?_) (a' := ?_) #[true, true, true, true, false, false, false, false, false, false, false, false, false, false, false, false] rfl rfl (by kernel_rfl) (fun _ _ _ h => h) (Or.inl ⟨by rfl, ?_⟩) ?_ ?_
        rotate_left
        · intro w'
          go_simp
          with_reducible rfl
        rotate_left
        · simp only [Act.put, List.setIfInBounds_toArray, List.set_cons_zero, List.set_cons_succ]
          rfl
        refine take_ (i := 4) (N := some 34) (v := ?_) (a' := ?_) #[true, true, true, true, true, false, false, false, false, false, false, false, false, false, false, false] rfl rfl (by kernel_rfl) (fun _ _ _ h => h) (Or.inl ⟨by rfl, ?_⟩) hHeld ?_ ?_
        rotate_left
        · intro w' hw'
          obtain ⟨hw2, hw1⟩ := hw'
          go_simp
          with_reducible rfl
        rotate_left
        · simp only [Act.put, List.setIfInBounds_toArray, List.set_cons_zero, List.set_cons_succ]
          rfl
        refine pure_ (i := 5) (N := some 35) (v := ?_) (a' := ?_) #[true, true, true, true, true, true, false, false, false, false, false, false, false, false, false, false] rfl rfl (by kernel_rfl) (fun _ _ _ h => h) (Or.inl ⟨by rfl, ?_⟩) ?_ ?_
        rotate_left
        · intro w'
          go_simp
          with_reducible rfl
        rotate_left
        · simp only [Act.put, List.setIfInBounds_toArray, List.set_cons_zero, List.set_cons_succ]
          rfl
        refine pure_ (i := 6) (N := some 36) (v := ?_) (a' := ?_) #[true, true, true, true, true, true, true, false, false, false, false, false, false, false, false, false] rfl rfl (by kernel_rfl) (fun _ _ _ h => h) (Or.inl ⟨by rfl, ?_⟩) ?_ ?_
        rotate_left
        · intro w'
          go_simp
          with_reducible rfl
        rotate_left
        · simp only [Act.put, List.setIfInBounds_toArray, List.set_cons_zero, List.set_cons_succ]
          rfl
        refine pure_ (i := 7) (N := some 37) (v := ?_) (a' := ?_) #[true, true, true, true, true, true, true, true, false, false, false, false, false, false, false, false] rfl rfl (by kernel_rfl) (fun _ _ _ h => h) (Or.inl ⟨by rfl, ?_⟩) ?_ ?_
        rotate_left
        · intro w'
          go_simp
          with_reducible rfl
        rotate_left
        · simp only [Act.put, List.setIfInBounds_toArray, List.set_cons_zero, List.set_cons_succ]
          rfl
        refine take_ (i := 8) (N := some 38) (v := ?_) (a' := ?_) #[true, true, true, true, true, true, true, true, true, false, false, false, false, false, false, false] rfl rfl (by kernel_rfl) (fun _ _ _ h => h) (Or.inl ⟨by rfl, ?_⟩) hHeld ?_ ?_
        rotate_left
        · intro w' hw'
          obtain ⟨hw2, hw1⟩ := hw'
          go_simp
          with_reducible rfl
        rotate_left
        · simp only [Act.put, List.setIfInBounds_toArray, List.set_cons_zero, List.set_cons_succ]
          rfl
        refine pure_ (i := 9) (N := some 39) (v := ?_) (a' := ?_) #[true, true, true, true, true, true, true, true, true, true, false, false, false, false, false, false] rfl rfl (by kernel_rfl) (fun _ _ _ h => h) (Or.inl ⟨by rfl, ?_⟩) ?_ ?_
        rotate_left
        · intro w'
          go_simp
          with_reducible rfl
        rotate_left
        · simp only [Act.put, List.setIfInBounds_toArray, List.set_cons_zero, List.set_cons_succ]
          rfl
        refine pure_ (i := 10) (N := some 40) (v := ?_) (a' := ?_) #[true, true, true, true, true, true, true, true, true, true, true, false, false, false, false, false] rfl rfl (by kernel_rfl) (fun _ _ _ h => h) (Or.inl ⟨by rfl, ?_⟩) ?_ ?_
        rotate_left
        · intro w'
          go_simp
          with_reducible rfl
        rotate_left
        · simp only [Act.put, List.setIfInBounds_toArray, List.set_cons_zero, List.set_cons_succ]
          rfl
        refine one_ (i := 11) (N := some 41) #[true, true, true, true, true, true, true, true, true, true, true, true, false, false, false, false] rfl rfl (by kernel_rfl) (by decide) (fun K hK => ?_)
        refine value_ (w1 := ?_) (v := ?_) (by rfl) rfl ?_ ?_
        rotate_left 2
        · go_simp
          constructor
          · rfl
          · rfl
        refine hK.out _ _ ⟨(blk_cell (blk_alloc HMd.out.box _) 2).trans rfl, (blk_cell (blk_alloc HMd.out.box _) 1).trans rfl⟩ (fun hHeld2 => ?_)
        clear hK K
        refine norm_ (a' := ?_) ?_ ?_
        rotate_left
        · show Act.put _ (some 41) _ = _
          simp only [Act.put, List.setIfInBounds_toArray, List.set_cons_zero, List.set_cons_succ]
          rfl
        refine last_ (i := 12) (N := some 42) #[true, true, true, true, true, true, true, true, true, true, true, true, true, false, false, false] rfl rfl (by kernel_rfl) (by decide) (fun K hK => ?_)
        refine Kd.R_append_step kU (w0 := wD) base (by rfl) (.tmp 34) (.tmp 41) 34 37 (.agg #[.int .u32 0, .int .i64 0]) 16 rfl Try.underlying34 info37 rfl (by decide) (by omega) vu m.uses ⟨m.now, b⟩ [.int .u32 m.now, .int .i64 b] (fun k => k ≠ B ∧ Value.map (some mb) ≠ .map (some k)) (fun _ => False) rfl rfl (kU_mkM _ _ _ _) (fun _ hk => hk.elim) ?aF HMd.out.row (Below.refl _ _) ?aS ?aL ?_
        (case aF => (intro k hk; have h5 := HMd.out.lt; have h6 := hmlt HMd.out; exact ⟨by omega, by intro he; injection he with he; injection he with he; omega⟩))
        (case aS => exact Nat.le_trans HMd.out.hB (Nat.le_of_lt HMd.out.lt))
        (case aL => omega)
        intro v4 w4 ho4 hb4 hg4 hat4
        obtain ⟨A4, c4, rfl⟩ := Kd.R_slice ho4
        rw [show (m.uses ++ [(⟨m.now, b⟩ : Use)]).length = m.uses.length + 1 from by simp] at ho4 hat4
        have HO4 := Aside0.mk ho4
        have HG4 := Aside0.mk hg4
        have HA4 := Aside0.mk hat4
        have hfz : w4.frozen? ⟨B, 2, none⟩ = false := blk_frozen (blk_grown HMd.out.box hg4 (foot_ne HMd.out)) 2
        have hcz : w4.cell? ⟨B, 2, none⟩ = some vu := (blk_cell (blk_grown HMd.out.box hg4 (foot_ne HMd.out)) 2).trans rfl
        clear ho4 hb4 hg4 hat4
        refine hK.out _ _ ?_
        clear hK K
        refine norm_ (a' := ?_) ?_ ?_
        rotate_left
        · show Act.put _ (some 42) _ = _
          simp only [Act.put, List.setIfInBounds_toArray, List.set_cons_zero, List.set_cons_succ]
          rfl
        refine pure_ (i := 13) (N := some 43) (v := ?_) (a' := ?_) #[true, true, true, true, true, true, true, true, true, true, true, true, true, true, false, false] rfl rfl (by kernel_rfl) (fun _ _ _ h => h) (Or.inl ⟨by rfl, ?_⟩) ?_ ?_
        rotate_left
        · intro w'
          go_simp
          with_reducible rfl
        rotate_left
        · simp only [Act.put, List.setIfInBounds_toArray, List.set_cons_zero, List.set_cons_succ]
          rfl
        refine pure_ (i := 14) (N := some 44) (v := ?_) (a' := ?_) #[true, true, true, true, true, true, true, true, true, true, true, true, true, true, true, false] rfl rfl (by kernel_rfl) (fun _ _ _ h => h) (Or.inl ⟨by rfl, ?_⟩) ?_ ?_
        rotate_left
        · intro w'
          go_simp
          with_reducible rfl
        rotate_left
        · simp only [Act.put, List.setIfInBounds_toArray, List.set_cons_zero, List.set_cons_succ]
          rfl
        refine last_ (i := 15) (N := none) #[true, true, true, true, true, true, true, true, true, true, true, true, true, true, true, true] rfl rfl (by kernel_rfl) (by decide) (fun K hK => ?_)
        refine skip_ (w1 := ?_) (by rfl) rfl ?_ ?_
        rotate_left 1
        · go_simp
          rfl
        refine hK.out _ _ ?_
        clear hK K
        refine norm_ (a' := ?_) ?_ ?_
        rotate_left
        · rfl
        refine done_ (by kernel_rfl) ?_
        go_wp2
        go_ret
        have hMd := HMd.out
        have hg4 := HG4.out
        have hnb4 := foot_ne hMd
        refine ⟨rfl, fun k => S k ∨ w.heap.size ≤ k, _, .map (some mb), ⟨blk_put (blk_grown hMd.box hg4 hnb4) 2 _ rfl, hMd.hB, Kd.R_far (p := ⟨B, 2, none⟩) HO4.out (fun _ hk => hk.1) _, fun _ => ⟨mb, rfl, hmb, hbm, ?_⟩, ?_, fun k h9 => Nat.lt_of_lt_of_le (hMd.mlt k h9) (by simpa [World.setCell] using hg4.size)⟩, fun _ hk => hk, ?_, ?_⟩
        · obtain ⟨x, hx, _, _, h10⟩ := hMd.map (by intro h0; simp only at h0; rw [h0] at hnb; simp at hnb)
          injection hx with hx
          injection hx with hx
          subst hx
          have hne : some mb ≠ vu.ownBlock := fun he => (hMd.row.1 mb he.symm).2 rfl
          exact own_keep (own_keep h10 (hg4.block mb h10.lt hne)) (Below.heap_setCell w4 ⟨B, 2, none⟩ _ mb hmb)
        · rintro k (rfl | hk | hk)
          · exact .inl (hMd.foot _ (.inl rfl))
          · rcases HA4.out with h8 | ⟨b8, h8, h9⟩
            · exact .inl (hMd.foot k (.inr (.inl (hk.trans h8))))
            · rw [h8] at hk; injection hk with hk; subst hk; exact .inr (Nat.le_trans HGd.out.1 h9)
          · exact .inl (hMd.foot k (.inr (.inr hk)))
        · exact kept_set (kept_grown2 HGd.out hg4 (fun k hk => hMd.foot k (.inr (.inl hk.symm)))) (hMd.foot B (.inl rfl)) _
        · exact (HBd.out.grown hg4 (Nat.le_trans hMd.hB (Nat.le_of_lt hMd.lt)) (fun j hj => ((Kd.R_bound hMd.row).1 j hj).2.1)).setCell (p := ⟨B, 2, none⟩) hMd.hB _
set_option maxHeartbeats 4000000 in
theorem clone_calls (A : Option Addr) (c : Nat) (l : List Use) (w : World) (hr : Kd.C kU w A l.length l) (hl : l.length ≤ 1000000) :
    Calls Try.prog 21 #[.slice A l.length c] w fun e w' => ∃ v, e = .returned v ∧ Kd.R kU 37 w' w.heap.size (fun _ => True) v l ∧ Below w.heap.size w w' := by
  have heq := fun (W : World) => Lib.run_eql_slice_nil (P := Try.prog) W 34 37 A l.length c 0 0 Try.underlying34
  cases A with
  | none =>
    have h0 : l = [] := by
      rcases Nat.eq_zero_or_pos l.length with h0 | h0
      · exact List.eq_nil_of_length_eq_zero h0
      · obtain ⟨ad, _, e, _⟩ := Kd.C_get hr zU 0 (by omega) (by omega)
        cases e
    subst h0
    simp only [Option.isNone_none, List.length_nil] at heq
    go_enter Try.func21, Try.ntmps21
    go_wp2
    go_ret
    exact ⟨_, rfl, Kd.R_nil _ _ _ _ _, Below.refl _ _⟩
  | some ad =>
    simp only [Option.isNone_some] at heq
    have HR : Kd.R kU 37 (w.alloc (.cells #[] 37)) w.heap.size (fun _ => True) (.slice (some ⟨w.heap.size, 0, none⟩) 0 0) [] :=
      ⟨fun _ _ => trivial, OwnRow.lit w w.heap.size (Reps.none _ _) (Nat.le_refl _) (by simp)⟩
    have HCC : Kd.C kU (w.alloc (.cells #[] 37)) (some ad) l.length l := Kd.C_below hr ((Below.refl _ _).alloc (Nat.le_refl _) _)
    go_enter Try.func21, Try.ntmps21
    go_wp2_with (at_builtin; refine Kd.R_append_rows kU (w0 := w) w.heap.size rfl (.tmp 5) (.tmp 6) 34 37 (.agg #[.int .u32 0, .int .i64 0]) 16 rfl Try.underlying34 info37 rfl (by decide) (by omega) _ [] l _ _ _ (fun _ => True) (fun _ => False) rfl rfl HR HCC ?aK (fun _ hk => hk.elim) (fun _ _ => trivial) ((Below.refl _ _).alloc (Nat.le_refl _) _) ?aS ?aL ?_; (case aK => (intro x cs hx; obtain rfl := kU_open hx; exact kU_mkM _ _ _ _)); (case aS => simp); (case aL => (simp only [List.length_nil]; omega)); intro v1 w1 ho hb hg hat)
    go_ret
    exact ⟨_, rfl, by have h2 := ho; rw [List.nil_append] at h2; exact h2, hb⟩
set_option maxHeartbeats 2000000 in
theorem used_calls (w : World) (h : Mt base B m S w vu mv) (hl : m.uses.length ≤ 1000000) :
    Calls Try.prog 10 #[.pointer (some ⟨B, 0, none⟩)] w fun e w' => ∃ v, e = .returned v ∧ Kd.R kU 37 w' w.heap.size (fun _ => True) v m.uses ∧ Below w.heap.size w w' := by
  obtain ⟨A, c, rfl⟩ := Kd.R_slice h.row
  have h2 := h.c2
  have HR := Aside0.mk (Kd.R_reads' h.row).2.2
  clear h
  go_enter Try.func10, Try.ntmps10
  go_wp2_with (go_at_call 21; refine (clone_calls A c m.uses _ HR.out hl).mono ?_; rintro e w1 ⟨v, rfl, ho, hb⟩; have HO := Aside0.mk ho; have HB := Aside0.mk hb; clear ho hb)
  go_ret
  exact ⟨_, rfl, HO.out, HB.out⟩
end
end Go.Proofs.Ytfbfloiflcjdjaa.EM
