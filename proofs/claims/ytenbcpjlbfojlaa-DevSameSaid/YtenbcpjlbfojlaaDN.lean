/- Read. -/
import Derived.Test.YtenbcpjlbfojlaaDM
namespace Go.Proofs.Ytenbcpjlbfojlaa.DA
open Go.RowKit Go.Shelf Go.Proofs.YtenbcpjlbfojlaaW.PrintWords Go.Proofs.YtenbcpjlbfojlaaW.PrintLast Go.Proofs.YtenbcpjlbfojlaaW.PrintMore Go.Proofs.Ytenbcpjlbfojlaa.PD
attribute [local go_sem] Oper.semAt_some
set_option linter.unusedVariables false
set_option linter.unusedSimpArgs false
/-- What is read: the last write of the block that waits, or the block. -/
def got (d : Dv) (n : Int) : List Int := match d.waits.reverse.find? (fun x => x.n == n) with | some x => x.b | none => (d.blocks.drop (n.toNat * 256)).take 256
def Dv.read (d : Dv) (N : Nat) (n : Int) : List Int × Int := if askE N n ≠ 0 then ([], askE N n) else (got d n, 0)
/-- Behind a read: bytes that may be read. -/
def Told (l : List Int) (er : Int) (w : World) (e : Ending) (w' : World) : Prop := ∃ A c, e = .returned (.tuple #[.slice A l.length c, .int .i64 er]) ∧ l.length ≤ c ∧ Kd.C kb w' A l.length l ∧ Below w.heap.size w w' ∧ ∀ ad, A = some ad → w.heap.size ≤ ad.block
section
variable {α : Type} {base B N : Nat} {d : Dv} {col col' : Nat → Nat} {w w' w1 : World} {vb vw vs vt : Value}
set_option maxHeartbeats 8000000 in
theorem read_bad (n : Int) (w : World) (h : Sd base B d col w vb vw vs vt) (hN : Of d N) (hq : n < 0 ∨ (N : Int) ≤ n) :
    Calls Try.prog 13 #[.pointer (some ⟨B, 0, none⟩), .int .i64 n] w (Told [] 1 w) := by
  have hb := (((Below.refl w.heap.size w).alloc (Nat.le_refl _) (.cells #[.int .i64 n] 3)).alloc (by simp) (.cells #[.slice none 0 0] 35)).alloc (by simp; omega) (.cells #[.int .i64 0] 24)
  have hA := ask_calls n _ (h.below hb) hN
  rw [ask_ne hq] at hA
  have HA := Aside0.mk hA
  have HB := Aside0.mk hb
  clear hA h hN hq hb
  go_enter Try.func13, Try.ntmps13
  go_wp2_with (go_at_call 29; refine HA.out.mono ?_; rintro e w2 ⟨rfl, rfl⟩)
  refine bodyPost_ret (v := .tuple #[.slice none 0 0, .int .i64 1]) (by simp [results, Try.f13, go_sem]) rfl ⟨none, 0, rfl, Nat.le_refl _, ⟨rfl, by decide, fun h => absurd h (by decide)⟩, ?_, fun _ h => by cases h⟩
  exact (((Below.refl w.heap.size w).alloc (Nat.le_refl _) (.cells #[.int .i64 n] 3)).alloc (by simp) (.cells #[.slice none 0 0] 35)).alloc (by simp; omega) (.cells #[.int .i64 1] 24)
/-- What waits, told by place. -/
theorem rows_W {w : World} {A : Option Addr} {n : Nat} {xs : List Wr} (h : Kd.C kW w A n xs) : ∃ (ad : Addr) (Af : Nat → Option Addr) (cf : Nat → Nat), (0 < n → A = some ad) ∧
    (∀ j, j < n → w.cell? (ad.add (j * 2)) = some (.int .i64 (wAt xs j).n) ∧ w.cell? ⟨(ad.add (j * 2)).block, (ad.add (j * 2)).off + 1, none⟩ = some (.slice (Af j) (wAt xs j).b.length (cf j))) ∧
    ∀ j, (wAt xs j).b.length ≤ cf j ∧ Kd.C kb w (Af j) (wAt xs j).b.length (wAt xs j).b := by
  obtain ⟨ad, had⟩ : ∃ ad : Addr, 0 < n → A = some ad := by
    by_cases h0 : 0 < n
    · obtain ⟨ad, _, _, e, _⟩ := at_W h 0 h0
      exact ⟨ad, fun _ => e⟩
    · exact ⟨⟨0, 0, none⟩, fun h1 => absurd h1 h0⟩
  have hx : ∀ j, ∃ p : Option Addr × Nat, (j < n → w.cell? (ad.add (j * 2)) = some (.int .i64 (wAt xs j).n) ∧ w.cell? ⟨(ad.add (j * 2)).block, (ad.add (j * 2)).off + 1, none⟩ = some (.slice p.1 (wAt xs j).b.length p.2)) ∧ (wAt xs j).b.length ≤ p.2 ∧ Kd.C kb w p.1 (wAt xs j).b.length (wAt xs j).b := by
    intro j
    by_cases hj : j < n
    · obtain ⟨ad2, Ab, cb, e, h1, h2, h3, h4⟩ := at_W h j hj
      have e2 : ad2 = ad := by have := had (by omega); rw [this] at e; injection e with e; exact e.symm
      subst e2
      exact ⟨(Ab, cb), fun _ => ⟨h1, h2⟩, h3, h4⟩
    · have hz : wAt xs j = zW := by
        unfold wAt
        rw [List.getD_eq_getElem?_getD, List.getElem?_eq_none (by rw [h.1]; omega)]
        rfl
      refine ⟨(none, 0), fun h1 => absurd h1 hj, ?_, ?_⟩
      · rw [hz]; exact Nat.le_refl _
      · rw [hz]; exact ⟨rfl, by decide, fun h => absurd h (by decide)⟩
  exact ⟨ad, fun j => (Classical.choose (hx j)).1, fun j => (Classical.choose (hx j)).2, had, fun j hj => (Classical.choose_spec (hx j)).1 hj, fun j => (Classical.choose_spec (hx j)).2⟩
theorem cell_low {W W' : World} (hb : Below W.heap.size W W') {a : Addr} {v : Value} (h : W.cell? a = some v) : W'.cell? a = some v := (hb.cell (World.block_lt_of_cell? W a h)).trans h
/-- The results' cells hold bytes that may be read, and no error. -/
structure RetOk (w W : World) (l : List Int) : Prop where
  ex : ∃ A c, W.heap[w.heap.size + 1]? = some (.cells #[.slice A l.length c] 35 (0, 0)) ∧ l.length ≤ c ∧ Kd.C kb W A l.length l ∧ ∀ ad, A = some ad → w.heap.size ≤ ad.block
  er : W.heap[w.heap.size + 1 + 1]? = some (.cells #[.int .i64 0] 24 (0, 0))
theorem blk_own {W W' : World} {row : Option Nat} {g : Nat} {cs : Array Value} {t : TypeId} (h : W.heap[g]? = some (.cells cs t (0, 0))) (hg : W.grownBy W' row) (hr : ∀ r, row = some r → ∃ o : Obj, W.heap[r]? = some o ∧ o.isCells = false) : W'.heap[g]? = some (.cells cs t (0, 0)) :=
  blk_grown h hg (fun he => by obtain ⟨o, ho, hc⟩ := hr g he.symm; rw [h] at ho; cases ho; cases hc)
theorem C_own {W W' : World} {row : Option Nat} {A : Option Addr} {n : Nat} {l : List Int} (h : Kd.C kb W A n l) (hg : W.grownBy W' row) (hr : ∀ r, row = some r → ∃ o : Obj, W.heap[r]? = some o ∧ o.isCells = false) : Kd.C kb W' A n l :=
  ⟨h.1, h.2.1, fun h0 => by
    obtain ⟨ad, e, hc⟩ := h.2.2 h0
    refine ⟨ad, e, fun j p hj => ?_⟩
    obtain ⟨c, h1, h2, h3⟩ := hc j p hj
    exact ⟨c, h1, h2, fun i u hu => Go.cell_kept (h3 i u hu) hg hr⟩⟩
theorem RetOk.own {w W W' : World} {l : List Int} {row : Option Nat} (h : RetOk w W l) (hg : W.grownBy W' row) (hr : ∀ r, row = some r → ∃ o : Obj, W.heap[r]? = some o ∧ o.isCells = false) : RetOk w W' l := by
  obtain ⟨⟨A, c, h1, h2, h3, h5⟩, h4⟩ := h
  exact ⟨⟨A, c, blk_own h1 hg hr, h2, C_own h3 hg hr, h5⟩, blk_own h4 hg hr⟩
/-- The region does not panic. -/
def NoPanic (Q : Exit → Act → World → Prop) : Exit → Act → World → Prop := fun e a w => (∀ c, e ≠ .panic c) ∧ Q e a w
theorem rev_down (ws : List Wr) : ws.reverse = (down ws.length ws.length).map (wAt ws) := by
  apply List.ext_getElem
  · simp [down]
  · intro i h1 h2
    rw [List.length_reverse] at h1
    rw [List.getElem_reverse, List.getElem_map]
    simp only [down, List.getElem_map, List.getElem_range, wAt]
    rw [List.getD_eq_getElem?_getD, List.getElem?_eq_getElem (by omega)]
    rfl
theorem down_split {len k : Nat} (hk : k ≤ len) : ∃ r, down len len = down len k ++ r := by
  refine ⟨((List.range len).drop k).map (fun j => len - 1 - j), ?_⟩
  unfold down
  rw [← List.map_append, ← List.take_append_drop k (List.range len), List.take_range, Nat.min_eq_left hk]
  simp
theorem find_first (ws : List Wr) (q : Int) (ini r : List Nat) (last : Nat) (h1 : ∀ i ∈ ini, (wAt ws i).n ≠ q) (h2 : (wAt ws last).n = q) : (((ini ++ [last]) ++ r).map (wAt ws)).find? (fun x => x.n == q) = some (wAt ws last) := by
  induction ini with
  | nil => simp [h2]
  | cons i ini ih =>
    have h3 : ((wAt ws i).n == q) = false := beq_eq_false_iff_ne.mpr (h1 i List.mem_cons_self)
    simp only [List.cons_append, List.map_cons, List.find?_cons, h3]
    exact ih (fun j hj => h1 j (List.mem_cons_of_mem _ hj))
theorem got_some {d : Dv} {q : Int} {k : Nat} {ini : List Nat} {last : Nat} (hk : k ≤ d.waits.length) (e1 : down d.waits.length k = ini ++ [last]) (h1 : ∀ i ∈ ini, (wAt d.waits i).n ≠ q) (h2 : (wAt d.waits last).n = q) : got d q = (wAt d.waits last).b := by
  obtain ⟨r, hr⟩ := down_split hk
  unfold got
  rw [rev_down, hr, e1, find_first d.waits q ini r last h1 h2]
theorem got_none {d : Dv} {q : Int} (h1 : ∀ i ∈ down d.waits.length d.waits.length, (wAt d.waits i).n ≠ q) : got d q = (d.blocks.drop (q.toNat * 256)).take 256 := by
  unfold got
  rw [rev_down, List.find?_eq_none.2]
  intro x hx
  obtain ⟨i, hi, rfl⟩ := List.mem_map.1 hx
  simpa using h1 i hi
theorem keeps_below {W W' : World} (hb : Below W.heap.size W W') (B : Nat) : KeepsFrom B W W' := ⟨hb.size, fun k o _ hk _ => by
  exact (hb.block k (Array.getElem?_eq_some_iff.1 hk).1).trans hk⟩
theorem RetOk.mk' {w W w9 : World} {l : List Int} {A9 : Option Addr} {c9 n9 : Nat} (h4 : W.heap[w.heap.size + 1]? = some (.cells #[.slice none 0 0] 35 (0, 0))) (h5 : W.heap[w.heap.size + 1 + 1]? = some (.cells #[.int .i64 0] 24 (0, 0)))
    (ho : Kd.R kb 5 w9 W.heap.size (fun _ => True) (.slice A9 n9 c9) l) (hb : Below W.heap.size W w9) :
    RetOk w ((w9.setCell ⟨w.heap.size + 1, 0, none⟩ (.slice A9 n9 c9)).setCell ⟨w.heap.size + 1 + 1, 0, none⟩ (.int .i64 0)) l := by
  have hl4 := blk_lt h4
  have hl5 := blk_lt h5
  have hr := Kd.R_reads' ho
  obtain ⟨rfl, hcap, _⟩ := hr
  have h6 := Kd.R_far (p := ⟨w.heap.size + 1 + 1, 0, none⟩) (Kd.R_far (p := ⟨w.heap.size + 1, 0, none⟩) (Kd.R_mono (Kd.R_bound ho) (fun k hk => (hk.2.1 : W.heap.size ≤ k))) (fun k hk => by show k ≠ w.heap.size + 1; omega) (.slice A9 l.length c9)) (fun k hk => by show k ≠ w.heap.size + 1 + 1; omega) (.int .i64 0)
  refine ⟨⟨A9, c9, blk_far (blk_put (blk_below h4 hb) 0 _ rfl) (by show w.heap.size + 1 ≠ w.heap.size + 1 + 1; omega) _, hcap, (Kd.R_reads' h6).2.2, fun ad he => by have h7 := ((Kd.R_bound ho).1 ad.block (by rw [he]; rfl)).2.1; omega⟩, blk_put (blk_far (blk_below h5 hb) (by show w.heap.size + 1 + 1 ≠ w.heap.size + 1; omega) _) 0 _ rfl⟩
theorem wAt_len {ws : List Wr} (h : ∀ y ∈ ws, y.b.length = 256) (x : Nat) : (wAt ws x).b.length ≤ 1000000000 := by
  by_cases hx : x < ws.length
  · rw [h _ (wAt_mem hx)]; decide
  · unfold wAt
    rw [List.getD_eq_getElem?_getD, List.getElem?_eq_none (by omega)]
    decide
set_option maxRecDepth 100000 in
set_option maxHeartbeats 8000000 in
theorem read_good (q : Nat) (w : World) (h : Sd base B d col w vb vw vs vt) (hN : Of d N) (hq : q < N) (hwl : d.waits.length ≤ 100000) (hw2 : ∀ y ∈ d.waits, y.b.length = 256) :
    Calls Try.prog 13 #[.pointer (some ⟨B, 0, none⟩), .int .i64 (q : Int)] w (Told (got d q) 0 w) := by
  have HW256 := Aside0.mk hw2
  clear hw2
  obtain ⟨Aw, cw, rfl⟩ := Kd.R_slice h.rw
  obtain ⟨W1, hW1⟩ : ∃ W1, W1 = ((w.alloc (.cells #[.int .i64 (q : Int)] 3)).alloc (.cells #[.slice none 0 0] 35)).alloc (.cells #[.int .i64 0] 24) := ⟨_, rfl⟩
  have hb1 : Below w.heap.size w W1 := hW1 ▸ (((Below.refl w.heap.size w).alloc (Nat.le_refl _) (.cells #[.int .i64 (q : Int)] 3)).alloc (by simp) (.cells #[.slice none 0 0] 35)).alloc (by simp; omega) (.cells #[.int .i64 0] 24)
  have hsz1 : W1.heap.size = w.heap.size + 3 := by rw [hW1]; simp
  have hA := ask_calls (q : Int) _ (h.below hb1) hN
  rw [ask_in (by omega)] at hA
  have HA := Aside0.mk hA
  have h1 := (h.below hb1).c1
  have hn : W1.cell? ⟨w.heap.size, 0, none⟩ = some (.int .i64 (q : Int)) := by
    rw [hW1]
    exact (blk_cell (blk_alloc (blk_alloc (blk_new w (.cells #[.int .i64 (q : Int)] 3)) _) _) 0).trans rfl
  rw [hW1] at HA h1 hn
  have HS := Aside0.mk (And.intro h (And.intro hN (And.intro hq hwl)))
  have HB1 := Aside0.mk hb1
  have HW1 := Aside0.mk hW1
  have HSZ := Aside0.mk hsz1
  clear hA h hN hq hwl hb1 hW1 hsz1
  refine (callsIn_wide (n := 3)).1 ?_
  refine callsIn_of_wp_marks Try.func13 rfl trivial ?_ rfl
  simp only [Try.ntmps13, List.size_toArray, List.length_cons, List.length_nil, Nat.reduceAdd, Nat.reduceSub, Array.replicate_succ, Array.replicate_zero, List.push_toArray, List.append_toArray, List.nil_append, List.cons_append]
  gi_wp2_with (first
    | (refine ⟨trivial, ?_⟩; gi_at_call 29; refine (callsIn_wide.2 HA.out).mono ?_; rintro e w2 ⟨rfl, rfl⟩)
    | (refine ⟨trivial, ?_⟩; gi_at_call 31; refine (backward_in Fence.wide (3 - 1) trivial rfl _ _ _ _).mono ?_; rintro e w2 ⟨rfl, rfl⟩))
  rw [← HW1.out] at h1 hn ⊢
  have hsz1 := HSZ.out
  obtain ⟨ad, Af, cf, hAd, hcs, hrd⟩ := rows_W (Kd.R_reads' (HS.out.1.below HB1.out).rw).2.2
  obtain ⟨W4, hW4⟩ : ∃ W4, W4 = W1.alloc (.cells #[.slice Aw d.waits.length cw] 60) := ⟨_, rfl⟩
  have hb4 : Below W1.heap.size W1 W4 := hW4 ▸ (Below.refl _ _).alloc (Nat.le_refl _) _
  have hsz4 : W4.heap.size = w.heap.size + 4 := by rw [hW4]; simp; omega
  have hbw4 : Below w.heap.size w W4 := below_step HB1.out hb4
  have hbx : W4.cell? ⟨w.heap.size + 1 + 1 + 1, 0, none⟩ = some (.slice Aw d.waits.length cw) := by rw [show w.heap.size + 1 + 1 + 1 = W1.heap.size from hsz1.symm, hW4]; exact (blk_cell (blk_new _ _) 0).trans rfl
  have hn4 : W4.cell? ⟨w.heap.size, 0, none⟩ = some (.int .i64 (q : Int)) := (hb4.cell (p := ⟨w.heap.size, 0, none⟩) (by show w.heap.size < W1.heap.size; omega)).trans hn
  have hr4 : W4.heap[w.heap.size + 1]? = some (.cells #[.slice none 0 0] 35 (0, 0)) := by
    rw [hb4.block _ (by omega), HW1.out]
    have := blk_alloc (blk_new (w.alloc (.cells #[.int .i64 (q : Int)] 3)) (.cells #[.slice none 0 0] 35)) (.cells #[.int .i64 0] 24)
    simpa using this
  have hr5 : W4.heap[w.heap.size + 1 + 1]? = some (.cells #[.int .i64 0] 24 (0, 0)) := by
    rw [hb4.block _ (by omega), HW1.out]
    have := blk_new ((w.alloc (.cells #[.int .i64 (q : Int)] 3)).alloc (.cells #[.slice none 0 0] 35)) (.cells #[.int .i64 0] 24)
    simpa using this
  rw [← hW4]
  have hAlt : 0 < d.waits.length → Aw = some ad ∧ ad.block < W4.heap.size := fun h0 => ⟨hAd h0, by
    have h9 := World.block_lt_of_cell? _ _ (hcs 0 h0).1
    rw [add_block] at h9
    exact Nat.lt_of_lt_of_le h9 hb4.size⟩
  refine wpIn_rangeFunc_ownH (F := Fence.wide) rfl (by decide) (gf := 42) (lb := #[.pointer (some ⟨w.heap.size + 1 + 1 + 1, 0, none⟩)]) rfl trivial (enters_of Try.func42 (by kernel_rfl) rfl)
    (back_stops Fence.wide (3 - 1) trivial rfl (by decide) (w.heap.size + 1 + 1 + 1) W4.heap.size d.waits.length cw Aw ad (fun j => (wAt d.waits j).n) (fun j => .slice (Af j) (wAt d.waits j).b.length (cf j)) HS.out.2.2.2 hAlt W4 (by omega) (Nat.le_refl _) hbx (fun _ => rfl)
      (fun j hj => ⟨cell_low hb4 (hcs j hj).1, cell_low hb4 (hcs j hj).2⟩)) belowK_t (belowK_b (Nat.le_refl _)) (Below.refl _ _) (fun _ => rfl)
    (fun pre W => (∀ i ∈ pre, (wAt d.waits i).n ≠ (q : Int)) ∧ Below W4.heap.size W4 W)
    (fun c pre W => (c = .ret ∧ ∃ ini last, pre = ini ++ [last] ∧ (∀ i ∈ ini, (wAt d.waits i).n ≠ (q : Int)) ∧ (wAt d.waits last).n = (q : Int) ∧ RetOk w W (wAt d.waits last).b) ∧ Below w.heap.size w W)
    (OwnFrom.and (ownFrom_pure _ _) (ownFrom_below (Nat.le_refl _) (Nat.le_refl _)))
    (fun c => OwnFrom.and (Own.from (fun s A B row hs hg hr => by obtain ⟨hc, ini, last, e1, e2, e3, e4⟩ := hs; exact ⟨hc, ini, last, e1, e2, e3, e4.own hg hr⟩) _) (ownFrom_below (by omega) (by omega)))
    ⟨by simp, Below.refl _ _⟩
    (fun x a' W => ∃ Bx, W.heap[Bx]? = some (.cells #[.int .i64 (wAt d.waits x).n, .slice (Af x) (wAt d.waits x).b.length (cf x)] 71 (0, 0)) ∧ a' = { tmps := #[.pointer (some ⟨B, 0, none⟩), .int .i64 (q : Int), undef, .pointer (some ⟨w.heap.size, 0, none⟩), .pointer (some ⟨w.heap.size + 1, 0, none⟩), .pointer (some ⟨w.heap.size + 1 + 1, 0, none⟩), .int .i64 0, undef, .pointer (some ⟨Bx, 0, none⟩), .pointer (some ⟨B, 0, none⟩), .int .i64 (q : Int), .int .i64 0, .int .i64 0, .bool false, undef, .pointer (some ⟨B, 0, none⟩), .pointer (some ⟨B, 0, none⟩), .pointer (some ⟨B, 1, none⟩), .slice Aw d.waits.length cw, .func (.func 42) #[] #[.pointer (some ⟨w.heap.size + 1 + 1 + 1, 0, none⟩)], .int .i64 (x : Int), .agg #[.int .i64 (wAt d.waits x).n, .slice (Af x) (wAt d.waits x).b.length (cf x)], undef, undef, undef, undef, undef, undef, undef, undef, undef, undef, undef, undef, undef, undef, undef, undef, undef, undef], defers := [] })
    ?hAx ?assign ?body ?done ?stop
  case hAx => exact fun x a' => Own.from (fun s A B row hs hg hr => by obtain ⟨Bx, h1, h2⟩ := hs; exact ⟨Bx, blk_own h1 hg hr, h2⟩) _
  case assign =>
    rintro l pre x W K ⟨hi, hB⟩ hK
    unfold enW
    gi_wp2
    have hb := (Below.refl W.heap.size W).alloc (Nat.le_refl _) (.cells #[.int .i64 (wAt d.waits x).n, .slice (Af x) (wAt d.waits x).b.length (cf x)] 71)
    exact hK _ _ ((KeepsOthers.alloc _ _).from _) (hb.mono hB.size) ⟨hi, hB.trans (hb.mono hB.size)⟩ ⟨W.heap.size, blk_new _ _, rfl⟩
  case body =>
    rintro l pre x a' W hl hrr ⟨hni, hB⟩ ⟨Bx, hbk, rfl⟩ hlt
    have hx0 := (blk_cell hbk 0).trans rfl
    have hx1 := (blk_cell hbk 1).trans rfl
    have hnW : W.cell? ⟨w.heap.size, 0, none⟩ = some (.int .i64 (q : Int)) := (hB.cell (p := ⟨w.heap.size, 0, none⟩) (by show w.heap.size < W4.heap.size; omega)).trans hn4
    have HR4 := Aside0.mk ((hB.block _ (by omega)).trans hr4)
    have HR5 := Aside0.mk ((hB.block _ (by omega)).trans hr5)
    have HBx := Aside0.mk hB
    have HNI := Aside0.mk hni
    have HCl := Aside0.mk (And.intro (hrd x).1 (Kd.C_below (Kd.C_below (hrd x).2 hb4) hB))
    have HBW := Aside0.mk (hbw4.trans (hB.mono hbw4.size))
    have HL9 := Aside0.mk (show ∀ y ∈ d.waits, y.b.length = 256 from HW256.out)
    clear hB hni hlt hrr hbk hr4 hr5 hn4 hbx hb4 hbw4 hsz1 hsz4 hrd hcs hAlt hAd
    by_cases hx : (wAt d.waits x).n = (q : Int)
    · have hb1 : ((wAt d.waits x).n == (q : Int)) = true := beq_iff_eq.mpr hx
      have HX := Aside0.mk hx
      have HBL := Aside0.mk (wAt_len HL9.out x)
      clear hx
      obtain ⟨L, hL⟩ : ∃ L, L = (wAt d.waits x).b.length := ⟨_, rfl⟩
      have HLE := Aside0.mk hL
      rw [← hL] at hx1
      have HCC : Aside0 (Calls Try.prog 30 #[.slice (Af x) L (cf x)] W fun e w' => ∃ v, e = .returned v ∧ Kd.R kb 5 w' W.heap.size (fun _ => True) v (wAt d.waits x).b ∧ Below W.heap.size W w') := ⟨hL ▸ clone_calls (Af x) (cf x) (wAt d.waits x).b W HCl.out.2 HBL.out⟩
      clear hL
      gi_wp2_with (refine ⟨trivial, ?_⟩; gi_at_call 30; refine (CallsIn.inRound l (callsIn_wide.2 HCC.out)).mono ?_; rintro e w9 ⟨v9, rfl, ho9, hb9⟩; obtain ⟨A9, c9, rfl⟩ := Kd.R_slice ho9; have hz4 := blk_cell (blk_below HR4.out hb9) 0; have hf4 := blk_frozen (blk_below HR4.out hb9) 0; have hz5 := blk_cell (blk_below HR5.out hb9) 0; have hf5 := blk_frozen (blk_below HR5.out hb9) 0; have HO9 := Aside0.mk ho9; have HB9 := Aside0.mk hb9; clear ho9 hb9)
      exact ⟨((keeps_below HB9.out _).trans ((KeepsOthers.setCell _ _ _).from _)).trans ((KeepsOthers.setCell _ _ _).from _), ⟨rfl, pre, x, rfl, HNI.out, HX.out, RetOk.mk' HR4.out HR5.out HO9.out HB9.out⟩, ((HBW.out.trans (HB9.out.mono HBW.out.size)).setCell (p := ⟨w.heap.size + 1, 0, none⟩) (by show w.heap.size ≤ w.heap.size + 1; omega) _).setCell (p := ⟨w.heap.size + 1 + 1, 0, none⟩) (by show w.heap.size ≤ w.heap.size + 1 + 1; omega) _⟩
    · have hb1 : ((wAt d.waits x).n == (q : Int)) = false := beq_eq_false_iff_ne.mpr hx
      gi_wp2
      exact ⟨KeepsFrom.refl _ _, Below.refl _ _, fun i hi => (List.mem_append.1 hi).elim (HNI.out i) (fun e => by simp at e; subst e; exact hx), HBx.out⟩
  case done =>
    rintro D ys W hD rfl ⟨hni, hB⟩ hK
    gi_wp2
    obtain ⟨vbx, hvb⟩ : ∃ v, v = vb := ⟨_, rfl⟩
    obtain ⟨hS0, hNof, hqN, _⟩ := HS.out
    have hBw : Below w.heap.size w W := hbw4.trans (hB.mono hbw4.size)
    have hSW := hS0.below hBw
    obtain ⟨hN1, hN2, hN3⟩ := hNof
    obtain ⟨Ab, cb, rfl⟩ := Kd.R_slice hSW.rb
    have h0 := hSW.c0
    have hcap := (Kd.R_reads' hSW.rb).2.1
    have hCB := (Kd.R_reads' hSW.rb).2.2
    obtain ⟨i0, hi0, _, hsz0, _⟩ := info_parts info5
    have hcut := cut_mid (P := Try.prog) 35 5 .i64 .i64 Try.underlying35 hi0 1 hsz0 Ab d.blocks.length cb ((q : Int) * 256) (((q : Int) + 1) * 256) (by omega) (by omega) (by omega) hcap
    rw [show ((q : Int) * 256).toNat = q * 256 by omega, show (((q : Int) + 1) * 256).toNat - q * 256 = 256 by omega] at hcut
    have hdl : ((d.blocks.drop (q * 256)).take 256).length = 256 := by rw [List.length_take, List.length_drop]; omega
    have hC2 := Kd.C_take (m := 256) (Kd.C_drop (m := q * 256) hCB (by omega) hcap) (by rw [List.length_drop]; omega)
    have hC3 : Kd.C kb W (if cb = q * 256 then Ab else Ab.map (·.add (q * 256 * 1))) ((d.blocks.drop (q * 256)).take 256).length ((d.blocks.drop (q * 256)).take 256) := hC2
    have hg := got_none (d := d) (q := (q : Int)) hni
    rw [Int.toNat_natCast] at hg
    rw [← hg] at hdl hC3
    generalize (if cb = q * 256 then Ab else Ab.map (·.add (q * 256 * 1))) = A' at hcut hC3
    have hcl : Calls Try.prog 30 #[.slice A' 256 (cb - q * 256)] W.drew fun e w' => ∃ v, e = .returned v ∧ Kd.R kb 5 w' W.heap.size (fun _ => True) v (got d q) ∧ Below W.heap.size W.drew w' := by
      have h9 := clone_calls A' (cb - q * 256) (got d q) W.drew (Kd.C_drew hC3) (by rw [hdl]; decide)
      rw [hdl] at h9
      exact h9
    have hw1 : IntKind.i64.wrap ((q : Int) * 256) = (q : Int) * 256 := w64 _ (by omega) (by omega)
    have hw2 : IntKind.i64.wrap ((q : Int) + 1) = (q : Int) + 1 := w64 _ (by omega) (by omega)
    have hw3 : IntKind.i64.wrap (((q : Int) + 1) * 256) = ((q : Int) + 1) * 256 := w64 _ (by omega) (by omega)
    have hnW : W.cell? ⟨w.heap.size, 0, none⟩ = some (.int .i64 (q : Int)) := (hB.cell (p := ⟨w.heap.size, 0, none⟩) (by show w.heap.size < W4.heap.size; omega)).trans hn4
    have HR4 := Aside0.mk ((hB.block _ (by omega)).trans hr4)
    have HR5 := Aside0.mk ((hB.block _ (by omega)).trans hr5)
    have HCL := Aside0.mk hcl
    have HBW := Aside0.mk hBw
    have HDL := Aside0.mk hdl
    have HDD := Aside0.mk (And.intro hD (And.intro hK hsz4))
    obtain ⟨LB, hLB⟩ : ∃ LB, LB = d.blocks.length := ⟨_, rfl⟩
    rw [← hLB] at h0 hcut
    clear hK hD hdl hcl hC3 hC2 hg hCB hcap hi0 hsz0 hN1 hN2 hN3 hqN hS0 hSW hBw hB hni hr4 hr5 hn4 hbx hb4 hbw4 hsz1 hsz4 hrd hcs hAlt hAd h1 hn hLB hvb
    refine wpIn_wide.2 ?_
    refine wp_mono (Q := NoPanic _) ?_ (fun _ _ _ h => h.2)
    refine start_ (n := 13) (S := fun w' => w'.cell? ⟨B, 0, none⟩ = some (.slice Ab LB cb) ∧ w'.cell? ⟨w.heap.size, 0, none⟩ = some (.int .i64 (q : Int))) (ds := [10, 11, 12]) #[false, false, false, false, false, false, false, false, false, false, false, false, false] (by kernel_rfl) rfl rfl ⟨h0, hnW⟩ (fun hHeld => ?_)
    refine pure_ (i := 0) (N := some 29) (v := ?_) (a' := ?_) #[true, false, false, false, false, false, false, false, false, false, false, false, false] rfl rfl (by kernel_rfl) (fun _ _ _ h => absurd rfl (h.1 _)) (Or.inl ⟨by rfl, ?_⟩) ?_ ?_
    rotate_left
    · intro w'
      go_simp
      with_reducible rfl
    rotate_left
    · simp only [Act.put, List.setIfInBounds_toArray, List.set_cons_zero, List.set_cons_succ, i64_w, i32_w]
      rfl
    refine pure_ (i := 1) (N := some 30) (v := ?_) (a' := ?_) #[true, true, false, false, false, false, false, false, false, false, false, false, false] rfl rfl (by kernel_rfl) (fun _ _ _ h => absurd rfl (h.1 _)) (Or.inl ⟨by rfl, ?_⟩) ?_ ?_
    rotate_left
    · intro w'
      go_simp
      with_reducible rfl
    rotate_left
    · simp only [Act.put, List.setIfInBounds_toArray, List.set_cons_zero, List.set_cons_succ, i64_w, i32_w]
      rfl
    refine pure_ (i := 2) (N := some 31) (v := ?_) (a' := ?_) #[true, true, true, false, false, false, false, false, false, false, false, false, false] rfl rfl (by kernel_rfl) (fun _ _ _ h => absurd rfl (h.1 _)) (Or.inl ⟨by rfl, ?_⟩) ?_ ?_
    rotate_left
    · intro w'
      go_simp
      with_reducible rfl
    rotate_left
    · simp only [Act.put, List.setIfInBounds_toArray, List.set_cons_zero, List.set_cons_succ, i64_w, i32_w]
      rfl
    refine take_ (i := 3) (N := some 32) (v := ?_) (a' := ?_) #[true, true, true, true, false, false, false, false, false, false, false, false, false] rfl rfl (by kernel_rfl) (fun _ _ _ h => absurd rfl (h.1 _)) (Or.inl ⟨by rfl, ?_⟩) hHeld ?_ ?_
    rotate_left
    · rintro w' ⟨s0, s1⟩
      go_simp
      with_reducible rfl
    rotate_left
    · simp only [Act.put, List.setIfInBounds_toArray, List.set_cons_zero, List.set_cons_succ, i64_w, i32_w]
      rfl
    refine take_ (i := 4) (N := some 33) (v := ?_) (a' := ?_) #[true, true, true, true, true, false, false, false, false, false, false, false, false] rfl rfl (by kernel_rfl) (fun _ _ _ h => absurd rfl (h.1 _)) (Or.inl ⟨by rfl, ?_⟩) hHeld ?_ ?_
    rotate_left
    · rintro w' ⟨s0, s1⟩
      go_simp
      with_reducible rfl
    rotate_left
    · simp only [Act.put, List.setIfInBounds_toArray, List.set_cons_zero, List.set_cons_succ, i64_w, i32_w]
      rfl
    refine pure_ (i := 5) (N := some 34) (v := ?_) (a' := ?_) #[true, true, true, true, true, true, false, false, false, false, false, false, false] rfl rfl (by kernel_rfl) (fun _ _ _ h => absurd rfl (h.1 _)) (Or.inl ⟨by rfl, ?_⟩) ?_ ?_
    rotate_left
    · intro w'
      go_simp
      with_reducible rfl
    rotate_left
    · simp only [Act.put, List.setIfInBounds_toArray, List.set_cons_zero, List.set_cons_succ, i64_w, i32_w]
      rfl
    refine take_ (i := 6) (N := some 35) (v := ?_) (a' := ?_) #[true, true, true, true, true, true, true, false, false, false, false, false, false] rfl rfl (by kernel_rfl) (fun _ _ _ h => absurd rfl (h.1 _)) (Or.inl ⟨by rfl, ?_⟩) hHeld ?_ ?_
    rotate_left
    · rintro w' ⟨s0, s1⟩
      go_simp
      with_reducible rfl
    rotate_left
    · simp only [Act.put, List.setIfInBounds_toArray, List.set_cons_zero, List.set_cons_succ, i64_w, i32_w]
      rfl
    refine pure_ (i := 7) (N := some 36) (v := ?_) (a' := ?_) #[true, true, true, true, true, true, true, true, false, false, false, false, false] rfl rfl (by kernel_rfl) (fun _ _ _ h => absurd rfl (h.1 _)) (Or.inl ⟨by rfl, ?_⟩) ?_ ?_
    rotate_left
    · intro w'
      go_simp
      with_reducible rfl
    rotate_left
    · simp only [Act.put, List.setIfInBounds_toArray, List.set_cons_zero, List.set_cons_succ, i64_w, i32_w]
      rfl
    refine pure_ (i := 8) (N := some 37) (v := ?_) (a' := ?_) #[true, true, true, true, true, true, true, true, true, false, false, false, false] rfl rfl (by kernel_rfl) (fun _ _ _ h => absurd rfl (h.1 _)) (Or.inl ⟨by rfl, ?_⟩) ?_ ?_
    rotate_left
    · intro w'
      go_simp
      with_reducible rfl
    rotate_left
    · simp only [Act.put, List.setIfInBounds_toArray, List.set_cons_zero, List.set_cons_succ, i64_w, i32_w]
      rfl
    refine pure_ (i := 9) (N := some 38) (v := ?_) (a' := ?_) #[true, true, true, true, true, true, true, true, true, true, false, false, false] rfl rfl (by kernel_rfl) (fun _ _ _ h => absurd rfl (h.1 _)) (Or.inl ⟨by rfl, ?_⟩) ?_ ?_
    rotate_left
    · intro w'
      go_simp
      with_reducible rfl
    rotate_left
    · simp only [Act.put, List.setIfInBounds_toArray, List.set_cons_zero, List.set_cons_succ, i64_w, i32_w]
      rfl
    refine last_ (i := 10) (N := some 39) #[true, true, true, true, true, true, true, true, true, true, true, false, false] rfl rfl (by kernel_rfl) (by decide) (fun K hK => ?_)
    refine goes_ Try.func30 (by kernel_rfl) rfl #[.slice A' 256 (cb - q * 256)] (by rfl) rfl rfl (by (try simp only [List.map_toArray, List.map_cons, List.map_nil]); first | done | rfl) ?_
    refine (HCL.out).mono ?_
    rintro e w9 ⟨v9, rfl, ho9, hb9⟩
    obtain ⟨A9, c9, rfl⟩ := Kd.R_slice ho9
    rw [HDL.out] at ho9 ⊢
    have hz4 := blk_cell (blk_below (w := W) HR4.out (show Below W.heap.size W w9 from (below_drew1 (Below.refl W.heap.size W)).trans hb9)) 0
    have hf4 := blk_frozen (blk_below (w := W) HR4.out (show Below W.heap.size W w9 from (below_drew1 (Below.refl W.heap.size W)).trans hb9)) 0
    have hz5 := blk_cell (blk_below (w := W) HR5.out (show Below W.heap.size W w9 from (below_drew1 (Below.refl W.heap.size W)).trans hb9)) 0
    have hf5 := blk_frozen (blk_below (w := W) HR5.out (show Below W.heap.size W w9 from (below_drew1 (Below.refl W.heap.size W)).trans hb9)) 0
    have HO9 := Aside0.mk ho9
    have HB9 := Aside0.mk hb9
    clear ho9 hb9
    refine ⟨_, rfl, ?_⟩
    refine hK.out _ _ ?_
    clear hK K
    refine norm_ (a' := ?_) ?_ ?_
    rotate_left
    · show Act.put _ (some 39) _ = _
      simp only [Act.put, List.setIfInBounds_toArray, List.set_cons_zero, List.set_cons_succ, i64_w, i32_w]
      rfl
    refine last_ (i := 11) (N := none) #[true, true, true, true, true, true, true, true, true, true, true, true, false] rfl rfl (by kernel_rfl) (by decide) (fun K hK => ?_)
    refine Go.Proofs.YtenbcpjlbfojlaaW.PrintLast.skip_ (w1 := ?_) (by rfl) rfl ?_ ?_
    rotate_left
    · go_simp
      rfl
    refine hK.out _ _ ?_
    clear hK K
    refine last_ (i := 12) (N := none) #[true, true, true, true, true, true, true, true, true, true, true, true, true] rfl rfl (by kernel_rfl) (by decide) (fun K hK => ?_)
    refine Go.Proofs.YtenbcpjlbfojlaaW.PrintLast.skip_ (w1 := ?_) (by rfl) rfl ?_ ?_
    rotate_left
    · go_simp
      rfl
    refine hK.out _ _ ?_
    clear hK K
    refine done_ (by kernel_rfl) ⟨(fun _ h => nomatch h), ?_⟩
    gi_wp2
    have hK9 : ((w9.setCell ⟨w.heap.size + 1, 0, none⟩ (.slice A9 256 c9)).setCell ⟨w.heap.size + 1 + 1, 0, none⟩ (.int .i64 0)).heap[D]? = some (.deferred (some [])) := by
      have := HDD.out.1
      have := HDD.out.2.2
      rw [Below.heap_setCell _ _ _ _ (by show D ≠ w.heap.size + 1 + 1; omega), Below.heap_setCell _ _ _ _ (by show D ≠ w.heap.size + 1; omega)]
      exact (HB9.out.block D (Array.getElem?_eq_some_iff.1 HDD.out.2.1).1).trans HDD.out.2.1
    refine ⟨by simp, .inl ⟨_, _, rfl, run_takeDeferred hK9, ?_⟩⟩
    have hR := RetOk.mk' HR4.out HR5.out HO9.out (show Below W.heap.size W w9 from (below_drew1 (Below.refl W.heap.size W)).trans HB9.out)
    have hR2 := hR.own (grownBy_putObj' _ D (.deferred none)) (fun r e => by cases e; exact ⟨_, hK9, rfl⟩)
    obtain ⟨⟨A, c, hx4, hlc, hC, hfr⟩, hx5⟩ := hR2
    have hc4 := (blk_cell hx4 0).trans rfl
    have hc5 := (blk_cell hx5 0).trans rfl
    refine ⟨.tuple #[.slice A (got d q).length c, .int .i64 0], ?_, ?_⟩
    · simp [results, Try.f13, go_sem, hc4, hc5]
    · have := HDD.out.1
      have := HDD.out.2.2
      exact ⟨A, c, rfl, hlc, hC, ((((HBW.out.trans ((below_drew1 (Below.refl W.heap.size W)).mono HBW.out.size)).trans (HB9.out.mono HBW.out.size)).setCell (p := ⟨w.heap.size + 1, 0, none⟩) (by show w.heap.size ≤ w.heap.size + 1; omega) _).setCell (p := ⟨w.heap.size + 1 + 1, 0, none⟩) (by show w.heap.size ≤ w.heap.size + 1 + 1; omega) _).trans (belowK_b (w := w) (Nat.le_refl _) _ D _ _ (by omega) hK9 rfl rfl), hfr⟩
  case stop =>
    rintro D c pre W hD ⟨k, hk, rfl⟩ ⟨⟨rfl, ini, last, e1, e2, e3, hR⟩, hB⟩ hK
    gi_wp2
    refine ⟨by simp, .inl ⟨_, _, rfl, run_takeDeferred hK, ?_⟩⟩
    have hg : got d (q : Int) = (wAt d.waits last).b := got_some hk e1 e2 e3
    have hR2 := hR.own (grownBy_putObj' W D (.deferred none)) (fun r e => by cases e; exact ⟨_, hK, rfl⟩)
    obtain ⟨⟨A, c, hx4, hlc, hC, hfr⟩, hx5⟩ := hR2
    have hc4 := (blk_cell hx4 0).trans rfl
    have hc5 := (blk_cell hx5 0).trans rfl
    refine ⟨.tuple #[.slice A (wAt d.waits last).b.length c, .int .i64 0], ?_, ?_⟩
    · simp [results, Try.f13, go_sem, hc4, hc5]
    · rw [hg]
      exact ⟨A, c, rfl, hlc, hC, hB.trans (belowK_b (w := w) (Nat.le_refl _) W D _ _ (by omega) hK rfl rfl), hfr⟩
end
end Go.Proofs.Ytenbcpjlbfojlaa.DA
