/- A write comes: the copy over the blocks. -/
import Derived.Test.YtenbcpjlbfojlaaDD
namespace Go.Proofs.Ytenbcpjlbfojlaa.DA
open Go.RowKit Go.Proofs.YtenbcpjlbfojlaaW.PrintWords Go.Proofs.YtenbcpjlbfojlaaW.PrintLast Go.Proofs.YtenbcpjlbfojlaaW.PrintMore Go.Proofs.Ytenbcpjlbfojlaa.PD
set_option linter.unusedVariables false
set_option linter.unusedSimpArgs false
/-- copy into a row that is known whole: what lies there behind it, and that all else is kept. -/
theorem copy_kept {P : Program} {w : World} {ops : Array Oper} {rest : List Oper} {o : Oper} {a : Act} {Q : Exit → Act → World → Prop} (hgd : o.guard = none) (d s : Operand) (dT sT : TypeId)
    (ho : o.op = .call { callee := .builtin .copy, args := #[d, s], argTypes := #[dT, sT] }) (elem : TypeId) (hu : P.underlying dT = some (.slice elem)) (hsz : (P.info? elem).map (·.size) = some 1)
    (dp sp : Option Addr) (dLen dCap sLen sCap : Nat) (hd : a.eval d = .slice dp dLen dCap) (hs : a.eval s = .slice sp sLen sCap)
    (g off : Nat) (cur : List Value) (t : TypeId) (hg : w.heap[g]? = some (.cells cur.toArray t (0, 0))) (cs : List Value) (hn : cs.length = Nat.min sLen dLen)
    (hpos : 0 < cs.length → dp = some ⟨g, off, none⟩ ∧ ∃ ad, sp = some ad ∧ ∀ j v, cs[j]? = some v → w.cell? (ad.add j) = some v)
    (hfit : off + cs.length ≤ cur.length) (h1 : ∀ v ∈ cs, v.oneCell' = true)
    (h : ∀ w', Aside0 (w'.heap[g]? = some (.cells (splice cur off cs).toArray t (0, 0))) → Aside0 (Kept w w' (fun k => k = g)) → Aside0 (∀ B w0, Below B w0 w → B ≤ g → Below B w0 w') → wpList P ops Q rest (a.put o.dst (goInt cs.length)) w') :
    wpList P ops Q (o :: rest) a w := by
  by_cases h0 : cs.length = 0
  · obtain rfl : cs = [] := List.eq_nil_of_length_eq_zero h0
    refine wpList_copy_nothing hgd d s dT sT ho elem hu hsz dp sp dLen dCap sLen sCap hd hs (by simpa using hn.symm) ?_
    exact h w ⟨by simpa [splice] using hg⟩ ⟨Kept.refl _ _⟩ ⟨fun _ _ hb _ => hb⟩
  · obtain ⟨rfl, ad, rfl, hsrc⟩ := hpos (by omega)
    refine wpList_copy_own hgd d s dT sT ho elem hu hsz g off dLen dCap ad sLen sCap hd hs cur.toArray t hg cs hn hsrc (by simpa using hfit) h1 ?_
    exact h _ ⟨by simpa [splice] using setRow_heap w g _ _ t _ hg⟩ ⟨by simp [World.setRow], fun i hi hne => setRow_other w g i _ hne⟩ ⟨fun B w0 hb hBg => below_setRow hb hBg _⟩
theorem copy_step {P : Program} {w : World} {ops : Array Oper} {o : Oper} {a : Act} {Q : Exit → Act → World → Prop} {Kc : Act → World → Prop} (hw : Region.wanted o (yielded ops a.tmps) = true) (d s : Operand) (dT sT : TypeId)
    (ho : o.op = .call { callee := .builtin .copy, args := #[d, s], argTypes := #[dT, sT] }) (elem : TypeId) (hu : P.underlying dT = some (.slice elem)) (hsz : (P.info? elem).map (·.size) = some 1)
    (dp sp : Option Addr) (dLen dCap sLen sCap : Nat) (hd : a.eval d = .slice dp dLen dCap) (hs : a.eval s = .slice sp sLen sCap)
    (g off : Nat) (cur : List Value) (t : TypeId) (hg : w.heap[g]? = some (.cells cur.toArray t (0, 0))) (cs : List Value) (hn : cs.length = Nat.min sLen dLen)
    (hpos : 0 < cs.length → dp = some ⟨g, off, none⟩ ∧ ∃ ad, sp = some ad ∧ ∀ j v, cs[j]? = some v → w.cell? (ad.add j) = some v)
    (hfit : off + cs.length ≤ cur.length) (h1 : ∀ v ∈ cs, v.oneCell' = true)
    (h : ∀ w', Aside0 (w'.heap[g]? = some (.cells (splice cur off cs).toArray t (0, 0))) → Aside0 (Kept w w' (fun k => k = g)) → Aside0 (∀ B w0, Below B w0 w → B ≤ g → Below B w0 w') → Kc (a.put o.dst (goInt cs.length)) w') :
    if Region.wanted o (yielded ops a.tmps) = true then Oper.wp P o a w Kc Q else Kc (a.put o.dst undef) w := by
  rw [if_pos hw]
  by_cases h0 : cs.length = 0
  · obtain rfl : cs = [] := List.eq_nil_of_length_eq_zero h0
    have hrun := run_copy_none (P := P) w dT sT o.type elem dp sp dLen dCap sLen sCap hu hsz (by simpa using hn.symm)
    unfold Oper.wp
    simp [execOp, ho, resolve, invoke, builtin, hd, hs, hrun, Result.andThen]
    exact h w ⟨by simpa [splice] using hg⟩ ⟨Kept.refl _ _⟩ ⟨fun _ _ hb _ => hb⟩
  · obtain ⟨rfl, ad, rfl, hsrc⟩ := hpos (by omega)
    have hrun := run_copy_row (P := P) w dT sT o.type elem g off dLen dCap ad sLen sCap cur.toArray t cs hu hsz hg hn hsrc (by simpa using hfit) h1
    unfold Oper.wp
    simp [execOp, ho, resolve, invoke, builtin, hd, hs, hrun, Result.andThen]
    exact h _ ⟨by simpa [splice] using setRow_heap w g _ _ t _ hg⟩ ⟨by simp [World.setRow], fun i hi hne => setRow_other w g i _ hne⟩ ⟨fun B w0 hb hBg => below_setRow hb hBg _⟩
theorem take_splice {α : Type} (L V : List α) (i n : Nat) (hi : i + V.length ≤ n) (hn : n ≤ L.length) : (L.take i ++ (V ++ L.drop (i + V.length))).take n = (L.take n).take i ++ (V ++ (L.take n).drop (i + V.length)) := by
  have h1 : (L.take i).length = i := by rw [List.length_take]; omega
  have h2 : (L.take n).take i = L.take i := by rw [List.take_take, Nat.min_eq_left (by omega)]
  rw [h2, List.take_append, h1, List.take_of_length_le (by rw [h1]; omega : (L.take i).length ≤ n), List.take_append, List.take_of_length_le (by omega : V.length ≤ n - i), List.drop_take, show n - i - V.length = n - (i + V.length) from by omega]
/-- A row of the store's, and what is laid over it. -/
theorem row_copy {w : World} {base g n c : Nat} {ok : Nat → Prop} {xs : List Int} (h : Kd.R kb 5 w base ok (.slice (some ⟨g, 0, none⟩) n c) xs) (vs : List Int) (i : Nat) (hi : i + vs.length ≤ xs.length) :
    ∃ cur : List Value, w.heap[g]? = some (.cells cur.toArray 5 (0, 0)) ∧ i + (vs.map (Value.int .u8)).length ≤ cur.length ∧ base ≤ g ∧
      ∀ w' : World, w'.heap[g]? = some (.cells (splice cur i (vs.map (Value.int .u8))).toArray 5 (0, 0)) → Kd.R kb 5 w' base ok (.slice (some ⟨g, 0, none⟩) n c) (splice xs i vs) := by
  obtain ⟨h1, h2⟩ := Kd.own_of_R h
  have h0 := h.1
  rcases h2 with ⟨h2, _⟩ | ⟨g', cap, cur, he, hb, hg, hn, hc, hs, ht⟩
  · cases h2
  · injection he with e1 e2 e3
    injection e1 with e1
    injection e1 with e1 _ _
    subst e1 e3
    have hnl : n = xs.length := (Kd.R_reads' h).1
    refine ⟨cur.toList, by simpa using hg, ?_, hb, fun w' hw' => ?_⟩
    · have : cur.toList.length = cur.size := by simp
      simp only [List.length_map]
      omega
    · have hsl : (splice xs i vs).length = xs.length := length_splice xs i vs hi
      have hcl : (splice cur.toList i (vs.map (Value.int .u8))).length = cur.size := by
        rw [length_splice]
        · simp
        · simp only [List.length_map]
          have : cur.toList.length = cur.size := by simp
          omega
      refine Kd.R_of_own (show w'.ownsRow base 5 1 (.slice (some ⟨g, 0, none⟩) n c) (splice xs i vs).length (encs (Value.int .u8) (splice xs i vs)) from ⟨by rw [encs_length]; omega, .inr ⟨_, _, _, by rw [hsl, hnl], hb, hw', by rw [hsl]; exact hn, hc, by simp only [List.size_toArray]; omega, ?_⟩⟩) h0
      have hct : cur.toList.take xs.length = xs.map (Value.int .u8) := by rw [Nat.mul_one] at ht; exact ht
      rw [hsl, Nat.mul_one]
      unfold splice encs
      rw [List.map_append, List.map_append, List.map_take, List.map_drop, ← hct, show vs.length = (vs.map (Value.int .u8)).length from by rw [List.length_map]]
      exact take_splice cur.toList (vs.map (Value.int .u8)) i xs.length (by rw [List.length_map]; exact hi) (by simp only [Array.length_toList]; omega)
theorem src_cells {w : World} {A : Option Addr} {l : List Int} {n : Nat} (h : Kd.C kb w A n l) (m : Nat) (hm : m ≤ n) (h0 : 0 < ((l.take m).map (Value.int .u8)).length) : ∃ ad, A = some ad ∧ ∀ j v, ((l.take m).map (Value.int .u8))[j]? = some v → w.cell? (ad.add j) = some v := by
  have hln : l.length = n := h.1
  have hlm : ((l.take m).map (Value.int .u8)).length = m := by rw [List.length_map, List.length_take]; omega
  obtain ⟨ad, e, _⟩ := h.2.2 (by omega)
  refine ⟨ad, e, fun j v hv => ?_⟩
  have hj : j < m := by
    have := (List.getElem?_eq_some_iff.1 hv).1
    omega
  have hjl : j < l.length := by omega
  obtain ⟨ad2, e2, hc⟩ := Kd.at_int h (j : Int) (by omega) (by omega)
  have e3 : ad2 = ad := by rw [e] at e2; injection e2 with e2; exact e2.symm
  subst e3
  rw [List.getElem?_map, List.getElem?_take, if_pos hj, List.getElem?_eq_getElem hjl, Option.map_some, Option.some.injEq] at hv
  have e1 : rd l (j : Int) = l[j] := by
    unfold rd
    rw [List.getD_eq_getElem?_getD, show (j : Int).toNat = j from by omega, List.getElem?_eq_getElem hjl]; rfl
  rw [e1, hv, show (j : Int).toNat = j from by omega] at hc
  exact hc
section
variable {α : Type} {base B N : Nat} {d : Dv} {col col' : Nat → Nat} {w w' w1 : World} {vb vw vs vt : Value}
/-- Behind a write over the blocks: all stands where it stood. -/
def Over (base B : Nat) (d : Dv) (l : List Int) (col : Nat → Nat) (w w' : World) (vb vw vs vt : Value) : Prop :=
  Sd base B ⟨l, d.waits, d.shelf, d.trace⟩ col w' vb vw vs vt ∧ Kept w w' (fun k => col k = 2) ∧ Below base w w'
set_option maxHeartbeats 4000000 in
theorem come_calls (q many : Nat) (Ab : Option Addr) (cb : Nat) (b : List Int) (w : World) (h : Sd base B d col w vb vw vs vt) (hN : Of d N) (hq : q < N) (hb : Kd.C kb w Ab 256 b) (hcb : 256 ≤ cb) (hm : many ≤ 256) :
    Calls Try.prog 27 #[.pointer (some ⟨B, 0, none⟩), .agg #[.int .i64 (q : Int), .slice Ab 256 cb], .int .i64 (many : Int)] w fun e w' => e = .returned (.tuple #[]) ∧ Over base B d (splice d.blocks (q * 256) (b.take many)) col w w' vb vw vs vt := by
  obtain ⟨i0, hi0, _, hsz0, _⟩ := info_parts info5
  obtain ⟨hN1, hN2, hN3⟩ := hN
  have hbl : b.length = 256 := hb.1
  obtain ⟨g, c, rfl, hgb, hgl, _⟩ := Kd.R_form h.rb (by omega)
  have hcap := (Kd.R_reads' h.rb).2.1
  obtain ⟨L, hL⟩ : ∃ L, L = d.blocks.length := ⟨_, rfl⟩
  have hg2 : col g = 2 := h.rb.1 g rfl
  have hcut1 := cut_from (P := Try.prog) 35 5 .i64 Try.underlying35 hi0 1 hsz0 (some ⟨g, 0, none⟩) L c ((q : Int) * 256) (by omega) (by omega)
  have hcut2 := cut_to (P := Try.prog) 35 5 .i64 Try.underlying35 hi0 Ab 256 cb (many : Int) (by omega) (by omega) hcb
  rw [show ((q : Int) * 256).toNat = q * 256 by omega, if_neg (by omega)] at hcut1
  simp only [Option.map_some, Nat.mul_one] at hcut1
  have hadr : (Addr.mk g 0 none).add (q * 256) = ⟨g, q * 256, none⟩ := by
    rcases Nat.eq_zero_or_pos q with rfl | hp
    · simp [Addr.add]
    · have : q * 256 ≠ 0 := by omega
      simp [Addr.add, this]
  rw [hadr] at hcut1
  simp only [Int.toNat_natCast] at hcut2
  have hw : IntKind.i64.wrap ((q : Int) * 256) = (q : Int) * 256 := w64 _ (by omega) (by omega)
  have hbx := (h.below ((Below.refl _ _).alloc (Nat.le_refl _) (.cells #[.int .i64 (q : Int), .slice Ab 256 cb] 71)))
  have HX := Aside0.mk hbx
  have h0 := hbx.c0
  rw [← hL] at h0
  have hz0 : (w.alloc (.cells #[.int .i64 (q : Int), .slice Ab 256 cb] 71)).cell? ⟨w.heap.size, 0, none⟩ = some (.int .i64 (q : Int)) := (blk_cell (blk_new w _) 0).trans rfl
  have hz1 : (w.alloc (.cells #[.int .i64 (q : Int), .slice Ab 256 cb] 71)).cell? ⟨w.heap.size, 1, none⟩ = some (.slice Ab 256 cb) := (blk_cell (blk_new w _) 1).trans rfl
  have HBC := Aside0.mk (Kd.C_drew (Kd.C_alloc hb (.cells #[.int .i64 (q : Int), .slice Ab 256 cb] 71)))
  have HBw := Aside0.mk (below_drew1 ((Below.refl base w).alloc (Nat.le_trans h.hB (Nat.le_of_lt h.bl)) (.cells #[.int .i64 (q : Int), .slice Ab 256 cb] 71)))
  have HKw := Aside0.mk (show Kept w (w.alloc (.cells #[.int .i64 (q : Int), .slice Ab 256 cb] 71)).drew (fun k => col k = 2) from ((Kept.refl _ _).alloc _).drew)
  have HG2 := Aside0.mk hg2
  have HGB := Aside0.mk hgb
  have HD := Aside0.mk (And.intro hN1 (And.intro hbl hL))
  have HS := Aside0.mk h
  clear hi0 hsz0 hadr hN1 hbl hL h hbx hb hgl hcap hg2 hgb
  go_enter Try.func27, Try.ntmps27
  go_wp2
  have hLq : q * 256 + 256 ≤ L := by have := HD.out.1; have := HD.out.2.2; omega
  have hbt : (b.take many).length = many := by rw [List.length_take, HD.out.2.1]; omega
  have HBTm := Aside0.mk (show ((b.take many).map (Value.int .u8)).length = many by rw [List.length_map]; exact hbt)
  have HSr := Aside0.mk HX.out.drew
  refine start_ (n := 13) (S := fun w' => w'.cell? ⟨B, 0, none⟩ = some (.slice (some ⟨g, 0, none⟩) L c) ∧ w'.cell? ⟨w.heap.size, 0, none⟩ = some (.int .i64 (q : Int)) ∧ w'.cell? ⟨w.heap.size, 1, none⟩ = some (.slice Ab 256 cb)) (ds := [12]) #[false, false, false, false, false, false, false, false, false, false, false, false, false] (by kernel_rfl) rfl rfl ⟨h0, hz0, hz1⟩ (fun hHeld => ?_)
  generalize (w.alloc (.cells #[.int .i64 (q : Int), .slice Ab 256 cb] 71)).drew = wD at hHeld HSr HBC HBw HKw ⊢
  refine pure_ (i := 0) (N := some 6) (v := ?_) (a' := ?_) #[true, false, false, false, false, false, false, false, false, false, false, false, false] rfl rfl (by kernel_rfl) (fun _ _ _ h => h) (Or.inl ⟨by rfl, ?_⟩) ?_ ?_
  rotate_left
  · intro w'
    go_simp
    with_reducible rfl
  rotate_left
  · simp only [Act.put, List.setIfInBounds_toArray, List.set_cons_zero, List.set_cons_succ, i64_w, i32_w]
    rfl
  refine pure_ (i := 1) (N := some 7) (v := ?_) (a' := ?_) #[true, true, false, false, false, false, false, false, false, false, false, false, false] rfl rfl (by kernel_rfl) (fun _ _ _ h => h) (Or.inl ⟨by rfl, ?_⟩) ?_ ?_
  rotate_left
  · intro w'
    go_simp
    with_reducible rfl
  rotate_left
  · simp only [Act.put, List.setIfInBounds_toArray, List.set_cons_zero, List.set_cons_succ, i64_w, i32_w]
    rfl
  refine pure_ (i := 2) (N := some 8) (v := ?_) (a' := ?_) #[true, true, true, false, false, false, false, false, false, false, false, false, false] rfl rfl (by kernel_rfl) (fun _ _ _ h => h) (Or.inl ⟨by rfl, ?_⟩) ?_ ?_
  rotate_left
  · intro w'
    go_simp
    with_reducible rfl
  rotate_left
  · simp only [Act.put, List.setIfInBounds_toArray, List.set_cons_zero, List.set_cons_succ, i64_w, i32_w]
    rfl
  refine pure_ (i := 4) (N := some 10) (v := ?_) (a' := ?_) #[true, true, true, false, true, false, false, false, false, false, false, false, false] rfl rfl (by kernel_rfl) (fun _ _ _ h => h) (Or.inl ⟨by rfl, ?_⟩) ?_ ?_
  rotate_left
  · intro w'
    go_simp
    with_reducible rfl
  rotate_left
  · simp only [Act.put, List.setIfInBounds_toArray, List.set_cons_zero, List.set_cons_succ, i64_w, i32_w]
    rfl
  refine pure_ (i := 8) (N := some 14) (v := ?_) (a' := ?_) #[true, true, true, false, true, false, false, false, true, false, false, false, false] rfl rfl (by kernel_rfl) (fun _ _ _ h => h) (Or.inl ⟨by rfl, ?_⟩) ?_ ?_
  rotate_left
  · intro w'
    go_simp
    with_reducible rfl
  rotate_left
  · simp only [Act.put, List.setIfInBounds_toArray, List.set_cons_zero, List.set_cons_succ, i64_w, i32_w]
    rfl
  refine pure_ (i := 10) (N := some 16) (v := ?_) (a' := ?_) #[true, true, true, false, true, false, false, false, true, false, true, false, false] rfl rfl (by kernel_rfl) (fun _ _ _ h => h) (Or.inl ⟨by rfl, ?_⟩) ?_ ?_
  rotate_left
  · intro w'
    go_simp
    with_reducible rfl
  rotate_left
  · simp only [Act.put, List.setIfInBounds_toArray, List.set_cons_zero, List.set_cons_succ, i64_w, i32_w]
    rfl
  refine take_ (i := 3) (N := some 9) (v := ?_) (a' := ?_) #[true, true, true, true, true, false, false, false, true, false, true, false, false] rfl rfl (by kernel_rfl) (fun _ _ _ h => h) (Or.inl ⟨by rfl, ?_⟩) hHeld ?_ ?_
  rotate_left
  · rintro w' ⟨s0, s1, s2⟩
    go_simp
    with_reducible rfl
  rotate_left
  · simp only [Act.put, List.setIfInBounds_toArray, List.set_cons_zero, List.set_cons_succ, i64_w, i32_w]
    rfl
  refine take_ (i := 5) (N := some 11) (v := ?_) (a' := ?_) #[true, true, true, true, true, true, false, false, true, false, true, false, false] rfl rfl (by kernel_rfl) (fun _ _ _ h => h) (Or.inl ⟨by rfl, ?_⟩) hHeld ?_ ?_
  rotate_left
  · rintro w' ⟨s0, s1, s2⟩
    go_simp
    with_reducible rfl
  rotate_left
  · simp only [Act.put, List.setIfInBounds_toArray, List.set_cons_zero, List.set_cons_succ, i64_w, i32_w]
    rfl
  refine pure_ (i := 6) (N := some 12) (v := ?_) (a' := ?_) #[true, true, true, true, true, true, true, false, true, false, true, false, false] rfl rfl (by kernel_rfl) (fun _ _ _ h => h) (Or.inl ⟨by rfl, ?_⟩) ?_ ?_
  rotate_left
  · intro w'
    go_simp
    with_reducible rfl
  rotate_left
  · simp only [Act.put, List.setIfInBounds_toArray, List.set_cons_zero, List.set_cons_succ, i64_w, i32_w]
    rfl
  refine pure_ (i := 7) (N := some 13) (v := ?_) (a' := ?_) #[true, true, true, true, true, true, true, true, true, false, true, false, false] rfl rfl (by kernel_rfl) (fun _ _ _ h => h) (Or.inl ⟨by rfl, ?_⟩) ?_ ?_
  rotate_left
  · intro w'
    go_simp
    with_reducible rfl
  rotate_left
  · simp only [Act.put, List.setIfInBounds_toArray, List.set_cons_zero, List.set_cons_succ, i64_w, i32_w]
    rfl
  refine take_ (i := 9) (N := some 15) (v := ?_) (a' := ?_) #[true, true, true, true, true, true, true, true, true, true, true, false, false] rfl rfl (by kernel_rfl) (fun _ _ _ h => h) (Or.inl ⟨by rfl, ?_⟩) hHeld ?_ ?_
  rotate_left
  · rintro w' ⟨s0, s1, s2⟩
    go_simp
    with_reducible rfl
  rotate_left
  · simp only [Act.put, List.setIfInBounds_toArray, List.set_cons_zero, List.set_cons_succ, i64_w, i32_w]
    rfl
  refine pure_ (i := 11) (N := some 17) (v := ?_) (a' := ?_) #[true, true, true, true, true, true, true, true, true, true, true, true, false] rfl rfl (by kernel_rfl) (fun _ _ _ h => h) (Or.inl ⟨by rfl, ?_⟩) ?_ ?_
  rotate_left
  · intro w'
    go_simp
    with_reducible rfl
  rotate_left
  · simp only [Act.put, List.setIfInBounds_toArray, List.set_cons_zero, List.set_cons_succ, i64_w, i32_w]
    rfl
  refine last_ (i := 12) (N := some 18) #[true, true, true, true, true, true, true, true, true, true, true, true, true] rfl rfl (by kernel_rfl) (by decide) (fun K hK => ?_)
  obtain ⟨cur, hg, hfit, hBg, hput⟩ := row_copy (w := wD) HSr.out.rb (b.take many) (q * 256) (by rw [hbt, ← HD.out.2.2]; omega)
  have HP := Aside0.mk hput
  clear hput hbt
  refine copy_step (by rfl) (.tmp 13) (.tmp 17) 35 35 rfl 5 Try.underlying35 (by kernel_rfl) (some ⟨g, q * 256, none⟩) Ab (L - q * 256) (c - q * 256) many cb rfl rfl g (q * 256) cur 5 hg ((b.take many).map (.int .u8)) (by rw [HBTm.out]; show many = min many (L - q * 256); omega) (fun h0 => ⟨rfl, src_cells HBC.out many (by omega) h0⟩) hfit (fun v hv => by obtain ⟨x, _, rfl⟩ := List.mem_map.1 hv; rfl) ?_
  intro w3 HG HK HB3
  refine hK.out _ _ ?_
  clear hK K
  refine norm_ (a' := ?_) ?_ ?_
  rotate_left
  · show Act.put _ (some 18) _ = _
    simp only [Act.put, List.setIfInBounds_toArray, List.set_cons_zero, List.set_cons_succ, i64_w, i32_w]
    rfl
  refine done_ (by kernel_rfl) ?_
  go_wp2
  go_end0
  have hS := HSr.out
  refine ⟨rfl, hS.over (HP.out _ HG.out) HK.out HG2.out, (show Kept w w3 (fun k => col k = 2) from ?_), HB3.out _ _ HBw.out HGB.out⟩
  refine Kept.then_ HKw.out HK.out (fun k hk => .inl ?_)
  rw [hk]; exact HG2.out
end
end Go.Proofs.Ytenbcpjlbfojlaa.DA
