/- The law SpanParts: what the code comes to, by hand (arrays are handed in), over the answers of what it calls. -/
import Derived.Test.YtffpfneiaknfeaaSP
namespace Go.Proofs.Ytffpfneiaknfeaa.SQ
open Go.Proofs.Ytffpfneiaknfeaa.SP Go.Proofs.Ytffpfneiaknfeaa.PZ Go.RowKit Go.Proofs.YtffpfneiaknfeaaW.PrintWords Go.Proofs.YtffpfneiaknfeaaW.PrintLast Go.Proofs.YtffpfneiaknfeaaW.PrintMore
theorem info32 : (Try.prog.info? 32).map (·.size) = some 32 := by kernel_rfl
theorem yields_pages {S : World → Prop} {ops : Array Oper} {o : Oper} {a : Act} (PB : Nat) (pgc : Array Value) (hpg : pgc.size = 32) (hS : ∀ w : World, S w → w.heap[PB]? = some (.cells pgc 32 (0, 0))) (hw : Region.wanted o (yielded ops a.tmps) = true) (x : Operand) (ho : o.op = .load 32 x) (hx : a.eval x = .pointer (some ⟨PB, 0, none⟩)) : YieldsIf Try.prog ops S o (.agg pgc) a := by
  refine .inl ⟨hw, fun w h => ?_⟩
  unfold execOp
  simp only [ho, hx, Instr.loadAt, Instr.sureAddr, Sem.run_bind, Sem.run_pure, Result.andThen_ok, run_loadVar_row w PB 32 32 pgc (0, 0) _ (hS w h) Try.underlying32 rfl (by rw [info32, hpg])]
set_option maxHeartbeats 8000000 in
set_option maxRecDepth 100000 in
theorem law_calls (k : Nat) (n0 n1 n2 : Int) (pg : List Int) (hpg : pg.length = 32) (l1 : List S28) (l2 : List S52) (e c : Int)
    (hp1 : span_Parts.f n0 n1 = some (l1, e)) (hp2 : carlingref26_Parts.f k n0 n1 = some (l2, e)) (heq : eqL l1 l2 = true) (hl : l2.length ≤ 1000)
    (hpage : ∀ i : Nat, i < l2.length → 0 ≤ (l2.getD i z52).f0 ∧ (l2.getD i z52).f0 < 32) (hm : missR pg l2 = missF pg n0 n1) (hml : (missF pg n0 n1).length ≤ 1000)
    (hm1 : span_May.f k n0 n1 = some e) (hm2 : carlingref26_May.f k n0 n1 = some e) (hc1 : span_Cut.f k n0 n1 n2 = some c) (hc2 : carlingref26_Cut.f k n0 n1 n2 = some c) (hal : carlinglaw26_alive.f = some true) (w : World) :
    Calls Try.prog 4 #[.agg #[.int .i64 n0, .int .i64 n1, .int .i64 n2], .agg (pg.map (Value.int .u8)).toArray] w fun e w' => e = .returned (.bool true) ∧ Below w.heap.size w w' := by
  have H6 := Aside0.mk (fun W => span_Parts.calls n0 n1 l1 e W hp1)
  have H9 := Aside0.mk (fun W => carlingref26_Parts.calls k n0 n1 l2 e W hp2)
  have H10 := Aside0.mk (fun W => missing_calls n0 n1 pg hpg W)
  have H11 := Aside0.mk (fun W => refmissing_calls k n0 n1 l2 e hp2 hpage hl pg hpg W)
  have H13 := Aside0.mk (fun W => span_May.calls k n0 n1 e W hm1)
  have H14 := Aside0.mk (fun W => carlingref26_May.calls k n0 n1 e W hm2)
  have H15 := Aside0.mk (fun W => span_Cut.calls k n0 n1 n2 c W hc1)
  have H16 := Aside0.mk (fun W => carlingref26_Cut.calls k n0 n1 n2 c W hc2)
  have H7 := Aside0.mk (fun W => carlinglaw26_alive.calls true W hal)
  have HEQ := Aside0.mk heq
  have HL := Aside0.mk hl
  have LP := Aside0.mk hpg
  rw [hm] at H11
  obtain ⟨m, hmm⟩ : ∃ m, m = missF pg n0 n1 := ⟨_, rfl⟩
  rw [← hmm] at H10 H11 hml
  clear hp1 hp2 heq hl hpage hm hm1 hm2 hc1 hc2 hal hpg hmm
  obtain ⟨pgc, hpgc⟩ : ∃ pgc, pgc = (pg.map (Value.int .u8)).toArray := ⟨_, rfl⟩
  have hpgs : pgc.size = 32 := by rw [hpgc]; simp [LP.out]
  rw [← hpgc] at H10 H11 ⊢
  have PS := Aside0.mk hpgs
  clear hpgc hpgs
  have BK0 := Aside0.mk (blk_alloc (blk_new w (.cells #[.int .i64 n0, .int .i64 n1, .int .i64 n2] 31)) (.cells pgc 32))
  go_enter Try.func4, Try.ntmps4
  go_wp2
  go_quiet (fail)
  have PK1 := Aside0.mk (show ((((w.alloc (.cells #[.int .i64 n0, .int .i64 n1, .int .i64 n2] 31)).alloc (.cells pgc 32)).drewN nq).heap[w.heap.size + 1]? = some (.cells pgc 32 (0, 0))) from by
    have := blk_new (w.alloc (.cells #[.int .i64 n0, .int .i64 n1, .int .i64 n2] 31)) (.cells pgc 32)
    rwa [show (w.alloc (.cells #[.int .i64 n0, .int .i64 n1, .int .i64 n2] 31)).heap.size = w.heap.size + 1 from by simp] at this)
  have HB1 := Aside0.mk (show Below w.heap.size w (((w.alloc (.cells #[.int .i64 n0, .int .i64 n1, .int .i64 n2] 31)).alloc (.cells pgc 32)).drewN nq) from pw_below_drewN (((Below.refl _ _).alloc (Nat.le_refl _) _).alloc (by simp) _) _)
  clear BK0
  generalize (((w.alloc (.cells #[.int .i64 n0, .int .i64 n1, .int .i64 n2] 31)).alloc (.cells pgc 32)).drewN nq) = wA at PK1 HB1 ⊢
  go_upto_region 4 with (first | (go_at_call 6; refine (H6.out _).mono ?_; rintro e1 wB ⟨v, rfl, ho, hb⟩; obtain ⟨A6, c6, rfl⟩ := Kd.R_slice ho; have C6 := Aside0.mk (Kd.R_reads' ho).2; have PK2 := Aside0.mk (blk_below PK1.out hb); have HB2 := Aside0.mk (below_step HB1.out hb); clear ho hb PK1 HB1) | (go_at_call 9; refine (H9.out _).mono ?_; rintro e1 wC ⟨v, rfl, ho, hb⟩; obtain ⟨A9, c9, rfl⟩ := Kd.R_slice ho; have C9 := Aside0.mk (Kd.R_reads' ho).2; have C62 := Aside0.mk (⟨C6.out.1, Kd.C_below C6.out.2 hb⟩ : l1.length ≤ c6 ∧ Kd.C k28 wC A6 l1.length l1); have PK3 := Aside0.mk (blk_below PK2.out hb); have HB3 := Aside0.mk (below_step HB2.out hb); clear ho hb PK2 HB2 C6))
  refine start_ (n := 10) (S := fun w' => w'.heap[w.heap.size + 1]? = some (.cells pgc 32 (0, 0))) (ds := []) #[false, false, false, false, false, false, false, false, false, false] (by kernel_rfl) rfl rfl PK3.out (fun hHeld => ?_)
  have C63 := Aside0.mk (Kd.C_drew C62.out.2)
  have C93 := Aside0.mk (Kd.C_drew C9.out.2)
  have HB4 := Aside0.mk (below_drew1 HB3.out)
  generalize wC.drew = wD at hHeld C63 C93 HB4 ⊢
  refine take_ (i := 0) (N := some 33) (v := .agg pgc) (a' := ?_) #[true, false, false, false, false, false, false, false, false, false] rfl rfl (by kernel_rfl) (fun _ _ _ h => h) (yields_pages (w.heap.size + 1) pgc PS.out (fun _ h => h) (by rfl) (.tmp 3) rfl rfl) hHeld ?_ ?_
  rotate_left
  · simp only [Act.put, List.setIfInBounds_toArray, List.set_cons_zero, List.set_cons_succ]
    rfl
  refine pure_ (i := 1) (N := some 34) (v := ?_) (a' := ?_) #[true, true, false, false, false, false, false, false, false, false] rfl rfl (by kernel_rfl) (fun _ _ _ h => h) (Or.inl ⟨by rfl, ?_⟩) ?_ ?_
  rotate_left
  · intro w'
    go_simp
    with_reducible rfl
  rotate_left
  · simp only [Act.put, List.setIfInBounds_toArray, List.set_cons_zero, List.set_cons_succ]
    rfl
  refine pure_ (i := 2) (N := some 35) (v := ?_) (a' := ?_) #[true, true, true, false, false, false, false, false, false, false] rfl rfl (by kernel_rfl) (fun _ _ _ h => h) (Or.inl ⟨by rfl, ?_⟩) ?_ ?_
  rotate_left
  · intro w'
    go_simp
    with_reducible rfl
  rotate_left
  · simp only [Act.put, List.setIfInBounds_toArray, List.set_cons_zero, List.set_cons_succ]
    rfl
  refine take_ (i := 4) (N := some 37) (v := .agg pgc) (a' := ?_) #[true, true, true, false, true, false, false, false, false, false] rfl rfl (by kernel_rfl) (fun _ _ _ h => h) (yields_pages (w.heap.size + 1) pgc PS.out (fun _ h => h) (by rfl) (.tmp 3) rfl rfl) hHeld ?_ ?_
  rotate_left
  · simp only [Act.put, List.setIfInBounds_toArray, List.set_cons_zero, List.set_cons_succ]
    rfl
  refine pure_ (i := 5) (N := some 38) (v := ?_) (a' := ?_) #[true, true, true, false, true, true, false, false, false, false] rfl rfl (by kernel_rfl) (fun _ _ _ h => h) (Or.inl ⟨by rfl, ?_⟩) ?_ ?_
  rotate_left
  · intro w'
    go_simp
    with_reducible rfl
  rotate_left
  · simp only [Act.put, List.setIfInBounds_toArray, List.set_cons_zero, List.set_cons_succ]
    rfl
  refine pure_ (i := 6) (N := some 39) (v := ?_) (a' := ?_) #[true, true, true, false, true, true, true, false, false, false] rfl rfl (by kernel_rfl) (fun _ _ _ h => h) (Or.inl ⟨by rfl, ?_⟩) ?_ ?_
  rotate_left
  · intro w'
    go_simp
    with_reducible rfl
  rotate_left
  · simp only [Act.put, List.setIfInBounds_toArray, List.set_cons_zero, List.set_cons_succ]
    rfl
  refine one_ (i := 3) (N := some 36) #[true, true, true, true, true, true, true, false, false, false] rfl rfl (by kernel_rfl) (by decide) (fun K hK => ?_)
  refine goes_ Try.func10 (by kernel_rfl) rfl #[.agg pgc, .int .i64 n0, .int .i64 n1] (by rfl) rfl rfl (by (try simp only [List.map_toArray, List.map_cons, List.map_nil]); first | done | rfl) ?_
  refine (H10.out _).mono ?_
  rintro e1 wE ⟨v, rfl, ho, hb⟩
  obtain ⟨A10, c10, rfl⟩ := Kd.R_slice ho
  have C10 := Aside0.mk (Kd.R_reads' ho).2
  have C64 := Aside0.mk (Kd.C_below C63.out hb)
  have C94 := Aside0.mk (Kd.C_below C93.out hb)
  have HB5 := Aside0.mk (below_step HB4.out hb)
  refine ⟨_, rfl, ?_⟩
  refine hK.out _ _ (blk_below hHeld hb) (fun hHeld => ?_)
  clear hK K
  refine norm_ (a' := ?_) ?_ ?_
  rotate_left
  · show Act.put _ (some 36) _ = _
    simp only [Act.put, List.setIfInBounds_toArray, List.set_cons_zero, List.set_cons_succ]
    rfl
  refine one_ (i := 7) (N := some 40) #[true, true, true, true, true, true, true, true, false, false] rfl rfl (by kernel_rfl) (by decide) (fun K hK => ?_)
  refine goes_ Try.func11 (by kernel_rfl) rfl #[.agg pgc, .int .i64 n0, .int .i64 n1] (by rfl) rfl rfl (by (try simp only [List.map_toArray, List.map_cons, List.map_nil]); first | done | rfl) ?_
  refine (H11.out _).mono ?_
  rintro e1 wF ⟨v, rfl, ho2, hb2⟩
  obtain ⟨A11, c11, rfl⟩ := Kd.R_slice ho2
  have C11 := Aside0.mk (Kd.R_reads' ho2).2
  have C102 := Aside0.mk (Kd.C_below C10.out.2 hb2)
  have C65 := Aside0.mk (Kd.C_below C64.out hb2)
  have C95 := Aside0.mk (Kd.C_below C94.out hb2)
  have HB6 := Aside0.mk (below_step HB5.out hb2)
  refine ⟨_, rfl, ?_⟩
  refine hK.out _ _ (blk_below hHeld hb2) (fun hHeld => ?_)
  clear hK K
  refine norm_ (a' := ?_) ?_ ?_
  rotate_left
  · show Act.put _ (some 40) _ = _
    simp only [Act.put, List.setIfInBounds_toArray, List.set_cons_zero, List.set_cons_succ]
    rfl
  refine pure_ (i := 8) (N := some 12) (v := ?_) (a' := ?_) #[true, true, true, true, true, true, true, true, true, false] rfl rfl (by kernel_rfl) (fun _ _ _ h => h) (Or.inl ⟨by rfl, ?_⟩) ?_ ?_
  rotate_left
  · intro w'
    go_simp
    with_reducible rfl
  rotate_left
  · simp only [Act.put, List.setIfInBounds_toArray, List.set_cons_zero, List.set_cons_succ]
    rfl
  refine pure_ (i := 9) (N := some 13) (v := ?_) (a' := ?_) #[true, true, true, true, true, true, true, true, true, true] rfl rfl (by kernel_rfl) (fun _ _ _ h => h) (Or.inl ⟨by rfl, ?_⟩) ?_ ?_
  rotate_left
  · intro w'
    go_simp
    with_reducible rfl
  rotate_left
  · simp only [Act.put, List.setIfInBounds_toArray, List.set_cons_zero, List.set_cons_succ]
    rfl
  refine done_ (by kernel_rfl) ?_
  have C622 := Aside0.mk C62.out.1
  have C922 := Aside0.mk C9.out.1
  clear hHeld PK3 C62 C9 HB3 C63 C93 HB4 C64 C94 HB5
  have hb5 : ((m.length : Int) != (m.length : Int)) = false := by simp
  go_wp2
  go_loopg [48] m.length (fun kq v48 w' => ∃ (i : Nat), v48 = .int .i64 (i : Int) ∧ Aside0 (i + kq = m.length) ∧ Drawn0 wF w')
  case atStart => exact ⟨0, rfl, ⟨by omega⟩, by repeat (first | exact Drawn0.refl _ | apply Drawn0.step)⟩
  case round =>
    obtain ⟨i, rfl, HI, ⟨m1, rfl⟩⟩ := hrel
    by_cases hlt : (i : Int) < (m.length : Int)
    · have hi0 : decide ((i : Int) < (m.length : Int)) = true := decide_eq_true hlt
      have hia : 0 ≤ (i : Int) := by omega
      obtain ⟨ad0, e0, hx0⟩ := Kd.at_int C102.out (i : Int) hia hlt
      cases e0
      obtain ⟨ad1, e0, hx1⟩ := Kd.at_int C11.out.2 (i : Int) hia hlt
      cases e0
      simp only [Int.toNat_natCast] at hx0 hx1
      obtain ⟨gk, rfl⟩ : ∃ m, gk = m + 1 := ⟨gk - 1, by have := HI.out; omega⟩
      go_wp2
      go_quiet (fail)
      go_wp2
      go_roundg gk
      case measure => omega
      case rel => exact ⟨i + 1, by first | rfl | simp, ⟨by have := HI.out; omega⟩, by repeat (first | exact Drawn0.refl _ | apply Drawn0.step)⟩
    · have hi0 : decide ((i : Int) < (m.length : Int)) = false := decide_eq_false hlt
      go_wp2_with (first | (go_at_call 12; refine (carlinglaw26_same.calls A6 c6 l1 A9 c9 l2 true _ ?s1 ?s2 ?s3 ?s4 ?s5).mono ?_; (case s1 => exact Kd.C_drewN C65.out _); (case s2 => exact C622.out); (case s3 => exact Kd.C_drewN C95.out _); (case s4 => exact C922.out); (case s5 => (unfold carlinglaw26_same.f; rw [if_pos ⟨HEQ.out, by have := eqL_len _ _ HEQ.out; have := HL.out; omega⟩])); rintro e1 w' ⟨rfl, ⟨m2, rfl⟩⟩) | (go_at_call 13; refine (H13.out _).mono ?_; rintro e1 w' ⟨rfl, ⟨m3, rfl⟩⟩) | (go_at_call 14; refine (H14.out _).mono ?_; rintro e1 w' ⟨rfl, ⟨m4, rfl⟩⟩) | (go_at_call 15; refine (H15.out _).mono ?_; rintro e1 wG ⟨rfl, hb⟩; have HB8 := Aside0.mk (below_step (by repeat (first | exact HB6.out | apply pw_below_drewN | apply below_drew1) : Below w.heap.size w _) hb); clear hb) | (go_at_call 16; refine (H16.out _).mono ?_; rintro e1 w' ⟨rfl, ⟨m5, rfl⟩⟩) | (go_at_call 7; refine (H7.out _).mono ?_; rintro e1 wH ⟨rfl, hb⟩; have HB9 := Aside0.mk (below_step (by repeat (first | exact HB8.out | apply pw_below_drewN | apply below_drew1) : Below w.heap.size w _) hb); clear hb))
      go_ret
      exact ⟨rfl, HB9.out⟩
end Go.Proofs.Ytffpfneiaknfeaa.SQ
