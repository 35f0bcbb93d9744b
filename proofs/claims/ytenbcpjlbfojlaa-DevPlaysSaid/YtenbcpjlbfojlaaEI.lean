/- A store answers every call as the document says: the walk over the steps. -/
import Derived.Test.YtenbcpjlbfojlaaEH
namespace Go.Proofs.Ytenbcpjlbfojlaa.DA
open Go.RowKit Go.Proofs.YtenbcpjlbfojlaaW.PrintWords Go.Proofs.YtenbcpjlbfojlaaW.PrintLast Go.Proofs.YtenbcpjlbfojlaaW.PrintMore Go.Proofs.Ytenbcpjlbfojlaa.PD
set_option linter.unusedVariables false
set_option linter.unusedSimpArgs false
theorem rd_nums (ws : List Wr) (k : Nat) : rd (numsW ws) (k : Int) = (wAt ws k).n := by
  unfold rd numsW wAt
  rw [Int.toNat_natCast, List.getD_eq_getElem?_getD, List.getD_eq_getElem?_getD, List.getElem?_map]
  cases ws[k]? <;> rfl
set_option maxHeartbeats 16000000 in
set_option maxRecDepth 100000 in
theorem plays_main (n : Nat) (h1 : 1 ≤ n) (h2 : n ≤ 20) (A : Option Addr) (len c : Nat) (l : List S31) (w : World) (hC : Kd.C k31 w A len l) (hnc : len ≤ c) (hc : c ≤ 9223372036854775807) (hs : Steps l) :
    Calls Try.prog 5 #[.int .i64 (n : Int), .slice A len c] w fun e w' => e = .returned (.bool true) ∧ Below w.heap.size w w' := by
  have R7 := Aside0.mk (new_calls n h1 (by omega) w)
  have R17 := Aside0.mk (fun W => rnew_good n h1 (by omega) W)
  obtain ⟨M, hM⟩ : ∃ M, M = min len 60 := ⟨_, rfl⟩
  have R8 := Aside0.mk (fun W => (show Calls Try.prog 8 #[.slice A len c] W fun e w' => e = .returned (.slice A M c) ∧ w' = W from hM ▸ short_calls A len c hnc hc W))
  have hln : l.length = len := hC.1
  have HN := Aside0.mk (show (M ≤ 60 ∧ M ≤ len) ∧ l.length = len from ⟨by omega, hln⟩)
  have HC := Aside0.mk hC
  have HS := Aside0.mk hs
  have HN20 := Aside0.mk (And.intro h1 h2)
  have b1 : decide ((n : Int) > 20) = false := decide_eq_false (by omega)
  have b2 : decide (n > 20) = false := decide_eq_false (by omega)
  have b3 : decide (20 < n) = false := decide_eq_false (by omega)
  clear h1 h2 hC hs hM hln
  go_enter Try.func5, Try.ntmps5
  go_wp2_with (first
    | (go_at_call 7; (with_reducible refine Calls.mono R7.out ?_); rintro e w1 ⟨B, col, vb, vw, vs, vt, rfl, hS, _, hb1⟩; have HS1 := Aside0.mk hS; have HB1 := Aside0.mk hb1; clear hb1 hS)
    | (go_at_call 17; (with_reducible refine Calls.mono (R17.out _) ?_); rintro e w2 ⟨ub, uw, us, ut, rfl, rb, rw9, rs, rt, hb⟩; have H2 := Aside0.mk (Two.make HS1.out HB1.out HN20.out.1 (by have := HN20.out.2; omega) hb rb rw9 rs rt); obtain ⟨A1, c1, e1⟩ := Kd.R_slice rb; obtain ⟨A2, c2, e2⟩ := Kd.R_slice rw9; obtain ⟨A3, c3, e3⟩ := Kd.R_slice rs; obtain ⟨A4, c4, e4⟩ := Kd.R_slice rt; rw [List.length_replicate] at e1; rw [List.length_nil] at e2 e3 e4; clear rb rw9 rs rt hb; subst e1 e2 e3 e4)
    | (go_at_call 8; refine (R8.out _).mono ?_; rintro e w3 ⟨rfl, rfl⟩))
  have H3 := Aside0.mk (show ∃ d OS, Two w B w2.heap.size n d d OS _ ∧ d.waits.length ≤ 0 ∧ d.trace.length ≤ 0 from ⟨_, _, H2.out, Nat.le_refl _, Nat.le_refl _⟩)
  generalize hRB : w2.heap.size = RB at H3 ⊢
  clear hRB H2 HS1 HB1
  go_loopg [54] M (fun gk v54 w' => ∃ i : Nat, v54 = .int .i64 (i : Int) ∧ i + gk = M ∧ Aside0 (∃ d OS, Two w B RB n d d OS w' ∧ d.waits.length ≤ i ∧ d.trace.length ≤ i))
  case atStart => exact ⟨0, rfl, by omega, H3⟩
  case round =>
    clear H3
    obtain ⟨i, rfl, hig, HR⟩ := hrel
    obtain ⟨d, OS, h, hdw, hdt⟩ := HR.out
    have hM60 := HN.out.1.1
    by_cases hlt : i < M
    · have hin : i < len := by have := HN.out.1.2; omega
      obtain ⟨ad, rfl, hx0, hx1, hx2, hx3, hx4⟩ := at_S (Kd.C_below HC.out h.bel) i hin
      have HOK0 := HS.out.at (i := i) (by rw [HN.out.2]; exact hin)
      obtain ⟨⟨sk, sn, sa, sx, sp⟩, hst⟩ : ∃ s, s = sAt l i := ⟨_, rfl⟩
      rw [← hst] at hx0 hx1 hx2 hx3 hx4 HOK0
      simp only at hx0 hx1 hx2 hx3 hx4
      have HOK := Aside0.mk HOK0
      clear hst HOK0
      have hlt2 : decide ((i : Int) < (M : Int)) = true := decide_eq_true (by omega)
      have hi0 : (0 : Int) ≤ (i : Int) := by omega
      have hi1 : (i : Int) < (M : Int) := by omega
      have hi2 : (i : Int) ≤ 60 := by omega
      have HL := Aside0.mk (show d.waits.length ≤ 1000 ∧ d.trace.length ≤ 1000 by omega)
      have HST := Aside0.mk (step_sizes d n ⟨sk, sn, sa, sx, sp⟩)
      have hb := (Below.refl wr.heap.size wr).alloc (Nat.le_refl _) (.cells #[.int .u8 sk, .int .i64 sn, .int .i64 sa, .int .u8 sx, .int .u64 sp] 31)
      have HX := Aside0.mk (h.below hb)
      have HBX := Aside0.mk hb
      have HXO := Aside0.mk (blk_new wr (.cells #[.int .u8 sk, .int .i64 sn, .int .i64 sa, .int .u8 sx, .int .u64 sp] 31))
      have HNO := Aside0.mk (show ¬ OS wr.heap.size from fun h9 => Nat.lt_irrefl _ (h.lt _ h9))
      have HDI := Aside0.mk (And.intro hdw hdt)
      obtain ⟨gk0, hgk0⟩ : ∃ g, g = gk := ⟨_, rfl⟩
      clear h hb hdw hdt HR
      go_upto_region 8 with fail
      generalize wr.alloc (.cells #[.int .u8 sk, .int .i64 sn, .int .i64 sa, .int .u8 sx, .int .u64 sp] 31) = wA at HX HBX HXO ⊢
      generalize hXB : wr.heap.size = XB at HXO HNO ⊢
      clear hXB
      refine start_ (n := 35) (S := fun w' => w'.cell? ⟨XB, 0, none⟩ = some (.int .u8 sk) ∧ w'.cell? ⟨XB, 1, none⟩ = some (.int .i64 sn) ∧ w'.cell? ⟨XB, 2, none⟩ = some (.int .i64 sa) ∧ w'.cell? ⟨XB, 3, none⟩ = some (.int .u8 sx) ∧ w'.cell? ⟨XB, 4, none⟩ = some (.int .u64 sp)) (ds := []) #[false, false, false, false, false, false, false, false, false, false, false, false, false, false, false, false, false, false, false, false, false, false, false, false, false, false, false, false, false, false, false, false, false, false, false] (by kernel_rfl) rfl rfl ⟨((blk_cell HXO.out 0).trans rfl), ((blk_cell HXO.out 1).trans rfl), ((blk_cell HXO.out 2).trans rfl), ((blk_cell HXO.out 3).trans rfl), ((blk_cell HXO.out 4).trans rfl)⟩ (fun hHeld => ?_)
      have HXd := Aside0.mk (HX.out.below (below_drew1 (Below.refl _ _)))
      have HBd := Aside0.mk (below_drew1 HBX.out)
      have HOd := Aside0.mk (blk_drew HXO.out)
      clear HX HBX HXO
      have HX := HXd
      have HBX := HBd
      have HXO := HOd
      clear HXd HBd HOd
      generalize wA.drew = wD at hHeld HX HBX HXO ⊢
      refine pure_ (i := 0) (N := some 58) (v := ?_) (a' := ?_) #[true, false, false, false, false, false, false, false, false, false, false, false, false, false, false, false, false, false, false, false, false, false, false, false, false, false, false, false, false, false, false, false, false, false, false] rfl rfl (by kernel_rfl) (fun _ _ _ h => h) (Or.inl ⟨by rfl, ?_⟩) ?_ ?_
      rotate_left
      · intro w'
        go_simp
        with_reducible rfl
      rotate_left
      · simp only [Act.put, List.setIfInBounds_toArray, List.set_cons_zero, List.set_cons_succ, i64_w, i32_w]
        rfl
      refine take_ (i := 1) (N := some 59) (v := ?_) (a' := ?_) #[true, true, false, false, false, false, false, false, false, false, false, false, false, false, false, false, false, false, false, false, false, false, false, false, false, false, false, false, false, false, false, false, false, false, false] rfl rfl (by kernel_rfl) (fun _ _ _ h => h) (Or.inl ⟨by rfl, ?_⟩) hHeld ?_ ?_
      rotate_left
      · rintro w' ⟨s0, s1, s2, s3, s4⟩
        go_simp
        with_reducible rfl
      rotate_left
      · simp only [Act.put, List.setIfInBounds_toArray, List.set_cons_zero, List.set_cons_succ, i64_w, i32_w]
        rfl
      refine one_ (i := 2) (N := some 60) #[true, true, true, false, false, false, false, false, false, false, false, false, false, false, false, false, false, false, false, false, false, false, false, false, false, false, false, false, false, false, false, false, false, false, false] rfl rfl (by kernel_rfl) (by decide) (fun K hK => ?_)
      refine goes_ Try.func18 (by kernel_rfl) rfl #[.pointer (some ⟨B, 0, none⟩), .pointer (some ⟨RB, 0, none⟩), .agg #[.int .u8 sk, .int .i64 sn, .int .i64 sa, .int .u8 sx, .int .u64 sp]] (by rfl) rfl rfl (by (try simp only [List.map_toArray, List.map_cons, List.map_nil]); first | done | rfl) ?_
      refine (do_two sk sn sa sx sp HOK.out HX.out HL.out.1 HL.out.2).mono ?_
      rintro e w2 ⟨rfl, OS2, h2, hc2, hk2⟩
      have HC2 := Aside0.mk (And.intro hc2 hk2)
      have HXO2 := Aside0.mk (blk_kept HXO.out hk2 HNO.out)
      generalize d.step n ⟨sk, sn, sa, sx, sp⟩ = d2 at h2 HST
      have HT2 := Aside0.mk h2
      obtain ⟨Ab, At, Aw, cb, ct, cw, hF⟩ := h2.fields
      have HF2 := Aside0.mk hF
      have HB2 := Aside0.mk (Below.refl w2.heap.size w2)
      obtain ⟨LB, hLB⟩ : ∃ LB, LB = d2.blocks.length := ⟨_, rfl⟩
      obtain ⟨LT, hLT⟩ : ∃ LT, LT = d2.trace.length := ⟨_, rfl⟩
      obtain ⟨LW, hLW⟩ : ∃ LW, LW = d2.waits.length := ⟨_, rfl⟩
      have HLB := Aside0.mk hLB
      have HLT := Aside0.mk hLT
      have HLW := Aside0.mk hLW
      have HLS := Aside0.mk (show LB ≤ 1000000000 from by have := h2.wd.of.1; have := h2.wd.of.2.2; omega)
      have HTS := Aside0.mk (show d2.trace.length ≤ 1000000000 from by have := HST.out.2; have := HL.out.2; omega)
      have HWS := Aside0.mk (show d2.waits.length ≤ 100000 from by have := HST.out.1; have := HL.out.1; omega)
      clear h2 hc2 hk2 hF hLB hLT hLW HX
      refine ⟨_, rfl, ?_⟩
      refine hK.out _ _ ⟨((blk_cell HXO2.out 0).trans rfl), ((blk_cell HXO2.out 1).trans rfl), ((blk_cell HXO2.out 2).trans rfl), ((blk_cell HXO2.out 3).trans rfl), ((blk_cell HXO2.out 4).trans rfl)⟩ (fun hHeld => ?_)
      clear hK K
      refine norm_ (a' := ?_) ?_ ?_
      rotate_left
      · show Act.put _ (some 60) _ = _
        simp only [Act.put, List.setIfInBounds_toArray, List.set_cons_zero, List.set_cons_succ, i64_w, i32_w]
        rfl
      refine pure_ (i := 3) (N := some 61) (v := ?_) (a' := ?_) #[true, true, true, true, false, false, false, false, false, false, false, false, false, false, false, false, false, false, false, false, false, false, false, false, false, false, false, false, false, false, false, false, false, false, false] rfl rfl (by kernel_rfl) (fun _ _ _ h => h) (Or.inl ⟨by rfl, ?_⟩) ?_ ?_
      rotate_left
      · intro w'
        go_simp
        with_reducible rfl
      rotate_left
      · simp only [Act.put, List.setIfInBounds_toArray, List.set_cons_zero, List.set_cons_succ, i64_w, i32_w]
        rfl
      refine pure_ (i := 4) (N := some 62) (v := ?_) (a' := ?_) #[true, true, true, true, true, false, false, false, false, false, false, false, false, false, false, false, false, false, false, false, false, false, false, false, false, false, false, false, false, false, false, false, false, false, false] rfl rfl (by kernel_rfl) (fun _ _ _ h => h) (Or.inl ⟨by rfl, ?_⟩) ?_ ?_
      rotate_left
      · intro w'
        go_simp
        with_reducible rfl
      rotate_left
      · simp only [Act.put, List.setIfInBounds_toArray, List.set_cons_zero, List.set_cons_succ, i64_w, i32_w]
        rfl
      refine pure_ (i := 5) (N := some 63) (v := ?_) (a' := ?_) #[true, true, true, true, true, true, false, false, false, false, false, false, false, false, false, false, false, false, false, false, false, false, false, false, false, false, false, false, false, false, false, false, false, false, false] rfl rfl (by kernel_rfl) (fun _ _ _ h => h) (Or.inl ⟨by rfl, ?_⟩) ?_ ?_
      rotate_left
      · intro w'
        go_simp
        with_reducible rfl
      rotate_left
      · simp only [Act.put, List.setIfInBounds_toArray, List.set_cons_zero, List.set_cons_succ, i64_w, i32_w]
        rfl
      refine pure_ (i := 7) (N := some 65) (v := ?_) (a' := ?_) #[true, true, true, true, true, true, false, true, false, false, false, false, false, false, false, false, false, false, false, false, false, false, false, false, false, false, false, false, false, false, false, false, false, false, false] rfl rfl (by kernel_rfl) (fun _ _ _ h => h) (Or.inl ⟨by rfl, ?_⟩) ?_ ?_
      rotate_left
      · intro w'
        go_simp
        with_reducible rfl
      rotate_left
      · simp only [Act.put, List.setIfInBounds_toArray, List.set_cons_zero, List.set_cons_succ, i64_w, i32_w]
        rfl
      refine one_ (i := 6) (N := some 64) #[true, true, true, true, true, true, true, true, false, false, false, false, false, false, false, false, false, false, false, false, false, false, false, false, false, false, false, false, false, false, false, false, false, false, false] rfl rfl (by kernel_rfl) (by decide) (fun K hK => ?_)
      refine goes_ Try.func19 (by kernel_rfl) rfl #[.pointer (some ⟨B, 0, none⟩)] (by rfl) rfl rfl (by (try simp only [List.map_toArray, List.map_cons, List.map_nil]); first | done | rfl) ?_
      refine (two_len HT2.out).mono ?_
      rintro e w3 ⟨rfl, rfl⟩
      have HT3 := HT2
      have HF3 := HF2
      have HB3 := HB2
      have HXO3 := HXO2
      refine ⟨_, rfl, ?_⟩
      refine hK.out _ _ ⟨((blk_cell HXO2.out 0).trans rfl), ((blk_cell HXO2.out 1).trans rfl), ((blk_cell HXO2.out 2).trans rfl), ((blk_cell HXO2.out 3).trans rfl), ((blk_cell HXO2.out 4).trans rfl)⟩ (fun hHeld => ?_)
      clear hK K
      refine norm_ (a' := ?_) ?_ ?_
      rotate_left
      · show Act.put _ (some 64) _ = _
        simp only [Act.put, List.setIfInBounds_toArray, List.set_cons_zero, List.set_cons_succ, i64_w, i32_w]
        rfl
      refine pure_ (i := 8) (N := some 66) (v := ?_) (a' := ?_) #[true, true, true, true, true, true, true, true, true, false, false, false, false, false, false, false, false, false, false, false, false, false, false, false, false, false, false, false, false, false, false, false, false, false, false] rfl rfl (by kernel_rfl) (fun _ _ _ h => h) (Or.inl ⟨by rfl, ?_⟩) ?_ ?_
      rotate_left
      · intro w'
        go_simp
        with_reducible rfl
      rotate_left
      · simp only [Act.put, List.setIfInBounds_toArray, List.set_cons_zero, List.set_cons_succ, i64_w, i32_w]
        rfl
      refine pure_ (i := 9) (N := some 67) (v := ?_) (a' := ?_) #[true, true, true, true, true, true, true, true, true, true, false, false, false, false, false, false, false, false, false, false, false, false, false, false, false, false, false, false, false, false, false, false, false, false, false] rfl rfl (by kernel_rfl) (fun _ _ _ h => h) (Or.inl ⟨by rfl, ?_⟩) ?_ ?_
      rotate_left
      · intro w'
        go_simp
        with_reducible rfl
      rotate_left
      · simp only [Act.put, List.setIfInBounds_toArray, List.set_cons_zero, List.set_cons_succ, i64_w, i32_w]
        rfl
      refine pure_ (i := 10) (N := some 68) (v := ?_) (a' := ?_) #[true, true, true, true, true, true, true, true, true, true, true, false, false, false, false, false, false, false, false, false, false, false, false, false, false, false, false, false, false, false, false, false, false, false, false] rfl rfl (by kernel_rfl) (fun _ _ _ h => h) (Or.inl ⟨by rfl, ?_⟩) ?_ ?_
      rotate_left
      · intro w'
        go_simp
        with_reducible rfl
      rotate_left
      · simp only [Act.put, List.setIfInBounds_toArray, List.set_cons_zero, List.set_cons_succ, i64_w, i32_w]
        rfl
      refine pure_ (i := 11) (N := some 69) (v := ?_) (a' := ?_) #[true, true, true, true, true, true, true, true, true, true, true, true, false, false, false, false, false, false, false, false, false, false, false, false, false, false, false, false, false, false, false, false, false, false, false] rfl rfl (by kernel_rfl) (fun _ _ _ h => h) (Or.inl ⟨by rfl, ?_⟩) ?_ ?_
      rotate_left
      · intro w'
        go_simp
        with_reducible rfl
      rotate_left
      · simp only [Act.put, List.setIfInBounds_toArray, List.set_cons_zero, List.set_cons_succ, i64_w, i32_w]
        rfl
      refine pure_ (i := 13) (N := some 71) (v := ?_) (a' := ?_) #[true, true, true, true, true, true, true, true, true, true, true, true, false, true, false, false, false, false, false, false, false, false, false, false, false, false, false, false, false, false, false, false, false, false, false] rfl rfl (by kernel_rfl) (fun _ _ _ h => h) (Or.inl ⟨by rfl, ?_⟩) ?_ ?_
      rotate_left
      · intro w'
        go_simp
        with_reducible rfl
      rotate_left
      · simp only [Act.put, List.setIfInBounds_toArray, List.set_cons_zero, List.set_cons_succ, i64_w, i32_w]
        rfl
      refine join_ (σ := Option Addr × Nat) 20 #[true, true, true, true, true, true, true, true, true, true, true, true, true, true, true, false, false, false, false, false, false, false, false, false, false, false, false, false, false, false, false, false, false, false, false] (fun s => [(70, .slice s.1 LB s.2), (72, .slice Ab LB cb)]) (fun s w' => Two w B RB n d2 d2 OS2 w' ∧ Fields RB d2 w' Ab At Aw cb ct cw ∧ Below w2.heap.size w2 w' ∧ w'.heap[XB]? = some (.cells #[.int .u8 sk, .int .i64 sn, .int .i64 sa, .int .u8 sx, .int .u64 sp] 31 (0, 0)) ∧ Kd.C kb w' s.1 LB (d2.blocks) ∧ LB ≤ s.2) ?_ ?_
      rotate_left
      · intro hCont
        refine two_ (i := 12) (j := 14) (Ni := some 70) (Nj := some 72) #[true, true, true, true, true, true, true, true, true, true, true, true, true, true, false, false, false, false, false, false, false, false, false, false, false, false, false, false, false, false, false, false, false, false, false] #[true, true, true, true, true, true, true, true, true, true, true, true, false, true, true, false, false, false, false, false, false, false, false, false, false, false, false, false, false, false, false, false, false, false, false] rfl rfl rfl rfl (by kernel_rfl) (by decide) (by decide) (fun K hK => ?_) (fun K hK => ?_)
        · skip
          refine goes_ Try.func20 (by kernel_rfl) rfl #[.pointer (some ⟨B, 0, none⟩)] (by rfl) rfl rfl (by (try simp only [List.map_toArray, List.map_cons, List.map_nil]); first | done | rfl) ?_
          refine (two_bytes HT3.out).mono ?_
          rintro e w4 ⟨A9, c9, rfl, hc9, hC9, hb9⟩
          have HT4 := Aside0.mk (HT3.out.below hb9)
          have HF4 := Aside0.mk (HF3.out.below hb9)
          have HB4 := Aside0.mk (below_step HB3.out hb9)
          have HXO4 := Aside0.mk (blk_below HXO3.out hb9)
          rw [← HLB.out] at hc9 hC9 ⊢
          have HC9 := Aside0.mk (And.intro hC9 hc9)
          have hq4 : w4.cell? ⟨RB, 1, none⟩ = some (.slice Ab LB cb) := HLB.out ▸ HF4.out.b
          clear hb9 hc9 hC9
          refine ⟨_, rfl, ?_⟩
          refine hK.out _ _ ⟨((blk_cell HXO4.out 0).trans rfl), ((blk_cell HXO4.out 1).trans rfl), ((blk_cell HXO4.out 2).trans rfl), ((blk_cell HXO4.out 3).trans rfl), ((blk_cell HXO4.out 4).trans rfl)⟩ (fun hHeld => ?_)
          clear hK K
          refine norm_ (a' := ?_) ?_ ?_
          rotate_left
          · show Act.put _ (some 70) _ = _
            simp only [Act.put, List.setIfInBounds_toArray, List.set_cons_zero, List.set_cons_succ, i64_w, i32_w]
            rfl
          refine one_ (i := 14) (N := some 72) #[true, true, true, true, true, true, true, true, true, true, true, true, true, true, true, false, false, false, false, false, false, false, false, false, false, false, false, false, false, false, false, false, false, false, false] rfl rfl (by kernel_rfl) (by decide) (fun K hK => ?_)
          refine value_ (w1 := ?_) (v := ?_) (by rfl) rfl ?_ ?_
          rotate_left 2
          · go_simp
            constructor
            · rfl
            · rfl
          refine hK.out _ _ ⟨((blk_cell HXO4.out 0).trans rfl), ((blk_cell HXO4.out 1).trans rfl), ((blk_cell HXO4.out 2).trans rfl), ((blk_cell HXO4.out 3).trans rfl), ((blk_cell HXO4.out 4).trans rfl)⟩ (fun hHeld => ?_)
          clear hK K
          refine norm_ (a' := ?_) ?_ ?_
          rotate_left
          · show Act.put _ (some 72) _ = _
            simp only [Act.put, List.setIfInBounds_toArray, List.set_cons_zero, List.set_cons_succ, i64_w, i32_w]
            rfl
          exact norm_ (by simp only [putAll, Act.put, List.setIfInBounds_toArray, List.set_cons_zero, List.set_cons_succ]) (hCont (A9, c9) _ ⟨HT4.out, HF4.out, HB4.out, HXO4.out, HC9.out.1, HC9.out.2⟩)
        · skip
          have hql : w2.cell? ⟨RB, 1, none⟩ = some (.slice Ab LB cb) := HLB.out ▸ HF3.out.b
          refine value_ (w1 := ?_) (v := ?_) (by rfl) rfl ?_ ?_
          rotate_left 2
          · go_simp
            constructor
            · rfl
            · rfl
          refine hK.out _ _ ⟨((blk_cell HXO3.out 0).trans rfl), ((blk_cell HXO3.out 1).trans rfl), ((blk_cell HXO3.out 2).trans rfl), ((blk_cell HXO3.out 3).trans rfl), ((blk_cell HXO3.out 4).trans rfl)⟩ (fun hHeld => ?_)
          clear hK K
          refine norm_ (a' := ?_) ?_ ?_
          rotate_left
          · show Act.put _ (some 72) _ = _
            simp only [Act.put, List.setIfInBounds_toArray, List.set_cons_zero, List.set_cons_succ, i64_w, i32_w]
            rfl
          refine one_ (i := 12) (N := some 70) #[true, true, true, true, true, true, true, true, true, true, true, true, true, true, true, false, false, false, false, false, false, false, false, false, false, false, false, false, false, false, false, false, false, false, false] rfl rfl (by kernel_rfl) (by decide) (fun K hK => ?_)
          refine goes_ Try.func20 (by kernel_rfl) rfl #[.pointer (some ⟨B, 0, none⟩)] (by rfl) rfl rfl (by (try simp only [List.map_toArray, List.map_cons, List.map_nil]); first | done | rfl) ?_
          refine (two_bytes HT3.out).mono ?_
          rintro e w4 ⟨A9, c9, rfl, hc9, hC9, hb9⟩
          have HT4 := Aside0.mk (HT3.out.below hb9)
          have HF4 := Aside0.mk (HF3.out.below hb9)
          have HB4 := Aside0.mk (below_step HB3.out hb9)
          have HXO4 := Aside0.mk (blk_below HXO3.out hb9)
          rw [← HLB.out] at hc9 hC9 ⊢
          have HC9 := Aside0.mk (And.intro hC9 hc9)
          have hq4 : w4.cell? ⟨RB, 1, none⟩ = some (.slice Ab LB cb) := HLB.out ▸ HF4.out.b
          clear hb9 hc9 hC9
          refine ⟨_, rfl, ?_⟩
          refine hK.out _ _ ⟨((blk_cell HXO4.out 0).trans rfl), ((blk_cell HXO4.out 1).trans rfl), ((blk_cell HXO4.out 2).trans rfl), ((blk_cell HXO4.out 3).trans rfl), ((blk_cell HXO4.out 4).trans rfl)⟩ (fun hHeld => ?_)
          clear hK K
          refine norm_ (a' := ?_) ?_ ?_
          rotate_left
          · show Act.put _ (some 70) _ = _
            simp only [Act.put, List.setIfInBounds_toArray, List.set_cons_zero, List.set_cons_succ, i64_w, i32_w]
            rfl
          exact norm_ (by simp only [putAll, Act.put, List.setIfInBounds_toArray, List.set_cons_zero, List.set_cons_succ]) (hCont (A9, c9) _ ⟨HT4.out, HF4.out, HB4.out, HXO4.out, HC9.out.1, HC9.out.2⟩)
      rintro ⟨A4, c4⟩ w4 ⟨ht9, hf9, hb9, hx9, hC9, hc9⟩
      have HT4 := Aside0.mk ht9
      have HF4 := Aside0.mk hf9
      have HB4 := Aside0.mk hb9
      have HXO4 := Aside0.mk hx9
      have HC4 := Aside0.mk (And.intro hC9 hc9)
      have hHeld := (show _ ∧ _ ∧ _ ∧ _ ∧ _ from ⟨((blk_cell HXO4.out 0).trans rfl), ((blk_cell HXO4.out 1).trans rfl), ((blk_cell HXO4.out 2).trans rfl), ((blk_cell HXO4.out 3).trans rfl), ((blk_cell HXO4.out 4).trans rfl)⟩)
      clear ht9 hf9 hb9 hx9 hC9 hc9
      refine norm_ (a' := ?_) ?_ ?_
      rotate_left
      · simp only [putAll, Act.put, List.setIfInBounds_toArray, List.set_cons_zero, List.set_cons_succ]
        rfl
      refine one_ (i := 15) (N := some 73) #[true, true, true, true, true, true, true, true, true, true, true, true, true, true, true, true, false, false, false, false, false, false, false, false, false, false, false, false, false, false, false, false, false, false, false] rfl rfl (by kernel_rfl) (by decide) (fun K hK => ?_)
      refine goes_ Try.func14 (by kernel_rfl) rfl #[.slice A4 LB c4, .slice Ab LB cb] (by rfl) rfl rfl (by (try simp only [List.map_toArray, List.map_cons, List.map_nil]); first | done | rfl) ?_
      refine (same_self HLB.out HC4.out.1 HC4.out.2 (HLB.out ▸ HF4.out.bC) (HLB.out ▸ HF4.out.bl) HLS.out).mono ?_
      rintro e w5 ⟨rfl, hb5⟩
      have HT5 := Aside0.mk (HT4.out.below hb5)
      have HF5 := Aside0.mk (HF4.out.below hb5)
      have HB5 := Aside0.mk (below_step HB4.out hb5)
      have HXO5 := Aside0.mk (blk_below HXO4.out hb5)
      clear hb5
      refine ⟨_, rfl, ?_⟩
      refine hK.out _ _ ⟨((blk_cell HXO5.out 0).trans rfl), ((blk_cell HXO5.out 1).trans rfl), ((blk_cell HXO5.out 2).trans rfl), ((blk_cell HXO5.out 3).trans rfl), ((blk_cell HXO5.out 4).trans rfl)⟩ (fun hHeld => ?_)
      clear hK K
      refine norm_ (a' := ?_) ?_ ?_
      rotate_left
      · show Act.put _ (some 73) _ = _
        simp only [Act.put, List.setIfInBounds_toArray, List.set_cons_zero, List.set_cons_succ, i64_w, i32_w]
        rfl
      refine pure_ (i := 16) (N := some 74) (v := ?_) (a' := ?_) #[true, true, true, true, true, true, true, true, true, true, true, true, true, true, true, true, true, false, false, false, false, false, false, false, false, false, false, false, false, false, false, false, false, false, false] rfl rfl (by kernel_rfl) (fun _ _ _ h => h) (Or.inl ⟨by rfl, ?_⟩) ?_ ?_
      rotate_left
      · intro w'
        go_simp
        with_reducible rfl
      rotate_left
      · simp only [Act.put, List.setIfInBounds_toArray, List.set_cons_zero, List.set_cons_succ, i64_w, i32_w]
        rfl
      refine pure_ (i := 17) (N := some 75) (v := ?_) (a' := ?_) #[true, true, true, true, true, true, true, true, true, true, true, true, true, true, true, true, true, true, false, false, false, false, false, false, false, false, false, false, false, false, false, false, false, false, false] rfl rfl (by kernel_rfl) (fun _ _ _ h => h) (Or.inl ⟨by rfl, ?_⟩) ?_ ?_
      rotate_left
      · intro w'
        go_simp
        with_reducible rfl
      rotate_left
      · simp only [Act.put, List.setIfInBounds_toArray, List.set_cons_zero, List.set_cons_succ, i64_w, i32_w]
        rfl
      refine pure_ (i := 18) (N := some 76) (v := ?_) (a' := ?_) #[true, true, true, true, true, true, true, true, true, true, true, true, true, true, true, true, true, true, true, false, false, false, false, false, false, false, false, false, false, false, false, false, false, false, false] rfl rfl (by kernel_rfl) (fun _ _ _ h => h) (Or.inl ⟨by rfl, ?_⟩) ?_ ?_
      rotate_left
      · intro w'
        go_simp
        with_reducible rfl
      rotate_left
      · simp only [Act.put, List.setIfInBounds_toArray, List.set_cons_zero, List.set_cons_succ, i64_w, i32_w]
        rfl
      refine pure_ (i := 19) (N := some 77) (v := ?_) (a' := ?_) #[true, true, true, true, true, true, true, true, true, true, true, true, true, true, true, true, true, true, true, true, false, false, false, false, false, false, false, false, false, false, false, false, false, false, false] rfl rfl (by kernel_rfl) (fun _ _ _ h => h) (Or.inl ⟨by rfl, ?_⟩) ?_ ?_
      rotate_left
      · intro w'
        go_simp
        with_reducible rfl
      rotate_left
      · simp only [Act.put, List.setIfInBounds_toArray, List.set_cons_zero, List.set_cons_succ, i64_w, i32_w]
        rfl
      refine pure_ (i := 21) (N := some 79) (v := ?_) (a' := ?_) #[true, true, true, true, true, true, true, true, true, true, true, true, true, true, true, true, true, true, true, true, false, true, false, false, false, false, false, false, false, false, false, false, false, false, false] rfl rfl (by kernel_rfl) (fun _ _ _ h => h) (Or.inl ⟨by rfl, ?_⟩) ?_ ?_
      rotate_left
      · intro w'
        go_simp
        with_reducible rfl
      rotate_left
      · simp only [Act.put, List.setIfInBounds_toArray, List.set_cons_zero, List.set_cons_succ, i64_w, i32_w]
        rfl
      refine join_ (σ := Option Addr × Nat) 12 #[true, true, true, true, true, true, true, true, true, true, true, true, true, true, true, true, true, true, true, true, true, true, true, false, false, false, false, false, false, false, false, false, false, false, false] (fun s => [(78, .slice s.1 LT s.2), (80, .slice At LT ct)]) (fun s w' => Two w B RB n d2 d2 OS2 w' ∧ Fields RB d2 w' Ab At Aw cb ct cw ∧ Below w2.heap.size w2 w' ∧ w'.heap[XB]? = some (.cells #[.int .u8 sk, .int .i64 sn, .int .i64 sa, .int .u8 sx, .int .u64 sp] 31 (0, 0)) ∧ Kd.C ki w' s.1 LT (d2.trace) ∧ LT ≤ s.2) ?_ ?_
      rotate_left
      · intro hCont
        refine two_ (i := 20) (j := 22) (Ni := some 78) (Nj := some 80) #[true, true, true, true, true, true, true, true, true, true, true, true, true, true, true, true, true, true, true, true, true, true, false, false, false, false, false, false, false, false, false, false, false, false, false] #[true, true, true, true, true, true, true, true, true, true, true, true, true, true, true, true, true, true, true, true, false, true, true, false, false, false, false, false, false, false, false, false, false, false, false] rfl rfl rfl rfl (by kernel_rfl) (by decide) (by decide) (fun K hK => ?_) (fun K hK => ?_)
        · skip
          refine goes_ Try.func22 (by kernel_rfl) rfl #[.pointer (some ⟨B, 0, none⟩)] (by rfl) rfl rfl (by (try simp only [List.map_toArray, List.map_cons, List.map_nil]); first | done | rfl) ?_
          refine (two_trace HT5.out HTS.out).mono ?_
          rintro e w6 ⟨A9, c9, rfl, hc9, hC9, hb9⟩
          have HT6 := Aside0.mk (HT5.out.below hb9)
          have HF6 := Aside0.mk (HF5.out.below hb9)
          have HB6 := Aside0.mk (below_step HB5.out hb9)
          have HXO6 := Aside0.mk (blk_below HXO5.out hb9)
          rw [← HLT.out] at hc9 hC9 ⊢
          have HC9 := Aside0.mk (And.intro hC9 hc9)
          have hq6 : w6.cell? ⟨RB, 4, none⟩ = some (.slice At LT ct) := HLT.out ▸ HF6.out.t
          clear hb9 hc9 hC9
          refine ⟨_, rfl, ?_⟩
          refine hK.out _ _ ⟨((blk_cell HXO6.out 0).trans rfl), ((blk_cell HXO6.out 1).trans rfl), ((blk_cell HXO6.out 2).trans rfl), ((blk_cell HXO6.out 3).trans rfl), ((blk_cell HXO6.out 4).trans rfl)⟩ (fun hHeld => ?_)
          clear hK K
          refine norm_ (a' := ?_) ?_ ?_
          rotate_left
          · show Act.put _ (some 78) _ = _
            simp only [Act.put, List.setIfInBounds_toArray, List.set_cons_zero, List.set_cons_succ, i64_w, i32_w]
            rfl
          refine one_ (i := 22) (N := some 80) #[true, true, true, true, true, true, true, true, true, true, true, true, true, true, true, true, true, true, true, true, true, true, true, false, false, false, false, false, false, false, false, false, false, false, false] rfl rfl (by kernel_rfl) (by decide) (fun K hK => ?_)
          refine value_ (w1 := ?_) (v := ?_) (by rfl) rfl ?_ ?_
          rotate_left 2
          · go_simp
            constructor
            · rfl
            · rfl
          refine hK.out _ _ ⟨((blk_cell HXO6.out 0).trans rfl), ((blk_cell HXO6.out 1).trans rfl), ((blk_cell HXO6.out 2).trans rfl), ((blk_cell HXO6.out 3).trans rfl), ((blk_cell HXO6.out 4).trans rfl)⟩ (fun hHeld => ?_)
          clear hK K
          refine norm_ (a' := ?_) ?_ ?_
          rotate_left
          · show Act.put _ (some 80) _ = _
            simp only [Act.put, List.setIfInBounds_toArray, List.set_cons_zero, List.set_cons_succ, i64_w, i32_w]
            rfl
          exact norm_ (by simp only [putAll, Act.put, List.setIfInBounds_toArray, List.set_cons_zero, List.set_cons_succ]) (hCont (A9, c9) _ ⟨HT6.out, HF6.out, HB6.out, HXO6.out, HC9.out.1, HC9.out.2⟩)
        · skip
          have hql : w5.cell? ⟨RB, 4, none⟩ = some (.slice At LT ct) := HLT.out ▸ HF5.out.t
          refine value_ (w1 := ?_) (v := ?_) (by rfl) rfl ?_ ?_
          rotate_left 2
          · go_simp
            constructor
            · rfl
            · rfl
          refine hK.out _ _ ⟨((blk_cell HXO5.out 0).trans rfl), ((blk_cell HXO5.out 1).trans rfl), ((blk_cell HXO5.out 2).trans rfl), ((blk_cell HXO5.out 3).trans rfl), ((blk_cell HXO5.out 4).trans rfl)⟩ (fun hHeld => ?_)
          clear hK K
          refine norm_ (a' := ?_) ?_ ?_
          rotate_left
          · show Act.put _ (some 80) _ = _
            simp only [Act.put, List.setIfInBounds_toArray, List.set_cons_zero, List.set_cons_succ, i64_w, i32_w]
            rfl
          refine one_ (i := 20) (N := some 78) #[true, true, true, true, true, true, true, true, true, true, true, true, true, true, true, true, true, true, true, true, true, true, true, false, false, false, false, false, false, false, false, false, false, false, false] rfl rfl (by kernel_rfl) (by decide) (fun K hK => ?_)
          refine goes_ Try.func22 (by kernel_rfl) rfl #[.pointer (some ⟨B, 0, none⟩)] (by rfl) rfl rfl (by (try simp only [List.map_toArray, List.map_cons, List.map_nil]); first | done | rfl) ?_
          refine (two_trace HT5.out HTS.out).mono ?_
          rintro e w6 ⟨A9, c9, rfl, hc9, hC9, hb9⟩
          have HT6 := Aside0.mk (HT5.out.below hb9)
          have HF6 := Aside0.mk (HF5.out.below hb9)
          have HB6 := Aside0.mk (below_step HB5.out hb9)
          have HXO6 := Aside0.mk (blk_below HXO5.out hb9)
          rw [← HLT.out] at hc9 hC9 ⊢
          have HC9 := Aside0.mk (And.intro hC9 hc9)
          have hq6 : w6.cell? ⟨RB, 4, none⟩ = some (.slice At LT ct) := HLT.out ▸ HF6.out.t
          clear hb9 hc9 hC9
          refine ⟨_, rfl, ?_⟩
          refine hK.out _ _ ⟨((blk_cell HXO6.out 0).trans rfl), ((blk_cell HXO6.out 1).trans rfl), ((blk_cell HXO6.out 2).trans rfl), ((blk_cell HXO6.out 3).trans rfl), ((blk_cell HXO6.out 4).trans rfl)⟩ (fun hHeld => ?_)
          clear hK K
          refine norm_ (a' := ?_) ?_ ?_
          rotate_left
          · show Act.put _ (some 78) _ = _
            simp only [Act.put, List.setIfInBounds_toArray, List.set_cons_zero, List.set_cons_succ, i64_w, i32_w]
            rfl
          exact norm_ (by simp only [putAll, Act.put, List.setIfInBounds_toArray, List.set_cons_zero, List.set_cons_succ]) (hCont (A9, c9) _ ⟨HT6.out, HF6.out, HB6.out, HXO6.out, HC9.out.1, HC9.out.2⟩)
      rintro ⟨A6, c6⟩ w6 ⟨ht9, hf9, hb9, hx9, hC9, hc9⟩
      have HT6 := Aside0.mk ht9
      have HF6 := Aside0.mk hf9
      have HB6 := Aside0.mk hb9
      have HXO6 := Aside0.mk hx9
      have HC6 := Aside0.mk (And.intro hC9 hc9)
      have hHeld := (show _ ∧ _ ∧ _ ∧ _ ∧ _ from ⟨((blk_cell HXO6.out 0).trans rfl), ((blk_cell HXO6.out 1).trans rfl), ((blk_cell HXO6.out 2).trans rfl), ((blk_cell HXO6.out 3).trans rfl), ((blk_cell HXO6.out 4).trans rfl)⟩)
      clear ht9 hf9 hb9 hx9 hC9 hc9
      refine norm_ (a' := ?_) ?_ ?_
      rotate_left
      · simp only [putAll, Act.put, List.setIfInBounds_toArray, List.set_cons_zero, List.set_cons_succ]
        rfl
      refine one_ (i := 23) (N := some 81) #[true, true, true, true, true, true, true, true, true, true, true, true, true, true, true, true, true, true, true, true, true, true, true, true, false, false, false, false, false, false, false, false, false, false, false] rfl rfl (by kernel_rfl) (by decide) (fun K hK => ?_)
      refine goes_ Try.func21 (by kernel_rfl) rfl #[.slice A6 LT c6, .slice At LT ct] (by rfl) rfl rfl (by (try simp only [List.map_toArray, List.map_cons, List.map_nil]); first | done | rfl) ?_
      refine (isame_self HLT.out HC6.out.1 HC6.out.2 (HLT.out ▸ HF6.out.tC) (HLT.out ▸ HF6.out.tl) HTS.out).mono ?_
      rintro e w7 ⟨rfl, hb7⟩
      have HT7 := Aside0.mk (HT6.out.below hb7)
      have HF7 := Aside0.mk (HF6.out.below hb7)
      have HB7 := Aside0.mk (below_step HB6.out hb7)
      have HXO7 := Aside0.mk (blk_below HXO6.out hb7)
      clear hb7
      refine ⟨_, rfl, ?_⟩
      refine hK.out _ _ ⟨((blk_cell HXO7.out 0).trans rfl), ((blk_cell HXO7.out 1).trans rfl), ((blk_cell HXO7.out 2).trans rfl), ((blk_cell HXO7.out 3).trans rfl), ((blk_cell HXO7.out 4).trans rfl)⟩ (fun hHeld => ?_)
      clear hK K
      refine norm_ (a' := ?_) ?_ ?_
      rotate_left
      · show Act.put _ (some 81) _ = _
        simp only [Act.put, List.setIfInBounds_toArray, List.set_cons_zero, List.set_cons_succ, i64_w, i32_w]
        rfl
      refine pure_ (i := 24) (N := some 82) (v := ?_) (a' := ?_) #[true, true, true, true, true, true, true, true, true, true, true, true, true, true, true, true, true, true, true, true, true, true, true, true, true, false, false, false, false, false, false, false, false, false, false] rfl rfl (by kernel_rfl) (fun _ _ _ h => h) (Or.inl ⟨by rfl, ?_⟩) ?_ ?_
      rotate_left
      · intro w'
        go_simp
        with_reducible rfl
      rotate_left
      · simp only [Act.put, List.setIfInBounds_toArray, List.set_cons_zero, List.set_cons_succ, i64_w, i32_w]
        rfl
      refine pure_ (i := 25) (N := some 83) (v := ?_) (a' := ?_) #[true, true, true, true, true, true, true, true, true, true, true, true, true, true, true, true, true, true, true, true, true, true, true, true, true, true, false, false, false, false, false, false, false, false, false] rfl rfl (by kernel_rfl) (fun _ _ _ h => h) (Or.inl ⟨by rfl, ?_⟩) ?_ ?_
      rotate_left
      · intro w'
        go_simp
        with_reducible rfl
      rotate_left
      · simp only [Act.put, List.setIfInBounds_toArray, List.set_cons_zero, List.set_cons_succ, i64_w, i32_w]
        rfl
      refine pure_ (i := 26) (N := some 84) (v := ?_) (a' := ?_) #[true, true, true, true, true, true, true, true, true, true, true, true, true, true, true, true, true, true, true, true, true, true, true, true, true, true, true, false, false, false, false, false, false, false, false] rfl rfl (by kernel_rfl) (fun _ _ _ h => h) (Or.inl ⟨by rfl, ?_⟩) ?_ ?_
      rotate_left
      · intro w'
        go_simp
        with_reducible rfl
      rotate_left
      · simp only [Act.put, List.setIfInBounds_toArray, List.set_cons_zero, List.set_cons_succ, i64_w, i32_w]
        rfl
      refine pure_ (i := 27) (N := some 85) (v := ?_) (a' := ?_) #[true, true, true, true, true, true, true, true, true, true, true, true, true, true, true, true, true, true, true, true, true, true, true, true, true, true, true, true, false, false, false, false, false, false, false] rfl rfl (by kernel_rfl) (fun _ _ _ h => h) (Or.inl ⟨by rfl, ?_⟩) ?_ ?_
      rotate_left
      · intro w'
        go_simp
        with_reducible rfl
      rotate_left
      · simp only [Act.put, List.setIfInBounds_toArray, List.set_cons_zero, List.set_cons_succ, i64_w, i32_w]
        rfl
      refine pure_ (i := 30) (N := some 88) (v := ?_) (a' := ?_) #[true, true, true, true, true, true, true, true, true, true, true, true, true, true, true, true, true, true, true, true, true, true, true, true, true, true, true, true, false, false, true, false, false, false, false] rfl rfl (by kernel_rfl) (fun _ _ _ h => h) (Or.inl ⟨by rfl, ?_⟩) ?_ ?_
      rotate_left
      · intro w'
        go_simp
        with_reducible rfl
      rotate_left
      · simp only [Act.put, List.setIfInBounds_toArray, List.set_cons_zero, List.set_cons_succ, i64_w, i32_w]
        rfl
      refine join_ (σ := Option Addr × Nat) 2 #[true, true, true, true, true, true, true, true, true, true, true, true, true, true, true, true, true, true, true, true, true, true, true, true, true, true, true, true, true, true, true, true, true, false, false] (fun s => [(86, .slice s.1 LW s.2), (89, .slice Aw LW cw), (87, .int .i64 (LW : Int)), (90, .int .i64 (LW : Int))]) (fun s w' => Two w B RB n d2 d2 OS2 w' ∧ Fields RB d2 w' Ab At Aw cb ct cw ∧ Below w2.heap.size w2 w' ∧ w'.heap[XB]? = some (.cells #[.int .u8 sk, .int .i64 sn, .int .i64 sa, .int .u8 sx, .int .u64 sp] 31 (0, 0)) ∧ Kd.C ki w' s.1 LW (numsW d2.waits) ∧ LW ≤ s.2) ?_ ?_
      rotate_left
      · intro hCont
        refine two_ (i := 28) (j := 31) (Ni := some 86) (Nj := some 89) #[true, true, true, true, true, true, true, true, true, true, true, true, true, true, true, true, true, true, true, true, true, true, true, true, true, true, true, true, true, false, true, false, false, false, false] #[true, true, true, true, true, true, true, true, true, true, true, true, true, true, true, true, true, true, true, true, true, true, true, true, true, true, true, true, false, false, true, true, false, false, false] rfl rfl rfl rfl (by kernel_rfl) (by decide) (by decide) (fun K hK => ?_) (fun K hK => ?_)
        · skip
          refine goes_ Try.func16 (by kernel_rfl) rfl #[.pointer (some ⟨B, 0, none⟩)] (by rfl) rfl rfl (by (try simp only [List.map_toArray, List.map_cons, List.map_nil]); first | done | rfl) ?_
          refine (two_waiting HT7.out HWS.out).mono ?_
          rintro e w8 ⟨A9, c9, rfl, hc9, hC9, hb9⟩
          have HT8 := Aside0.mk (HT7.out.below hb9)
          have HF8 := Aside0.mk (HF7.out.below hb9)
          have HB8 := Aside0.mk (below_step HB7.out hb9)
          have HXO8 := Aside0.mk (blk_below HXO7.out hb9)
          rw [← HLW.out] at hc9 hC9 ⊢
          have HC9 := Aside0.mk (And.intro hC9 hc9)
          have hq8 : w8.cell? ⟨RB, 2, none⟩ = some (.slice Aw LW cw) := HLW.out ▸ HF8.out.ww
          clear hb9 hc9 hC9
          refine ⟨_, rfl, ?_⟩
          refine hK.out _ _ ⟨((blk_cell HXO8.out 0).trans rfl), ((blk_cell HXO8.out 1).trans rfl), ((blk_cell HXO8.out 2).trans rfl), ((blk_cell HXO8.out 3).trans rfl), ((blk_cell HXO8.out 4).trans rfl)⟩ (fun hHeld => ?_)
          clear hK K
          refine norm_ (a' := ?_) ?_ ?_
          rotate_left
          · show Act.put _ (some 86) _ = _
            simp only [Act.put, List.setIfInBounds_toArray, List.set_cons_zero, List.set_cons_succ, i64_w, i32_w]
            rfl
          refine pure_ (i := 29) (N := some 87) (v := ?_) (a' := ?_) #[true, true, true, true, true, true, true, true, true, true, true, true, true, true, true, true, true, true, true, true, true, true, true, true, true, true, true, true, true, true, true, false, false, false, false] rfl rfl (by kernel_rfl) (fun _ _ _ h => h) (Or.inl ⟨by rfl, ?_⟩) ?_ ?_
          rotate_left
          · intro w'
            go_simp
            with_reducible rfl
          rotate_left
          · simp only [Act.put, List.setIfInBounds_toArray, List.set_cons_zero, List.set_cons_succ, i64_w, i32_w]
            rfl
          refine one_ (i := 31) (N := some 89) #[true, true, true, true, true, true, true, true, true, true, true, true, true, true, true, true, true, true, true, true, true, true, true, true, true, true, true, true, true, true, true, true, false, false, false] rfl rfl (by kernel_rfl) (by decide) (fun K hK => ?_)
          refine value_ (w1 := ?_) (v := ?_) (by rfl) rfl ?_ ?_
          rotate_left 2
          · go_simp
            constructor
            · rfl
            · rfl
          refine hK.out _ _ ⟨((blk_cell HXO8.out 0).trans rfl), ((blk_cell HXO8.out 1).trans rfl), ((blk_cell HXO8.out 2).trans rfl), ((blk_cell HXO8.out 3).trans rfl), ((blk_cell HXO8.out 4).trans rfl)⟩ (fun hHeld => ?_)
          clear hK K
          refine norm_ (a' := ?_) ?_ ?_
          rotate_left
          · show Act.put _ (some 89) _ = _
            simp only [Act.put, List.setIfInBounds_toArray, List.set_cons_zero, List.set_cons_succ, i64_w, i32_w]
            rfl
          refine pure_ (i := 32) (N := some 90) (v := ?_) (a' := ?_) #[true, true, true, true, true, true, true, true, true, true, true, true, true, true, true, true, true, true, true, true, true, true, true, true, true, true, true, true, true, true, true, true, true, false, false] rfl rfl (by kernel_rfl) (fun _ _ _ h => h) (Or.inl ⟨by rfl, ?_⟩) ?_ ?_
          rotate_left
          · intro w'
            go_simp
            with_reducible rfl
          rotate_left
          · simp only [Act.put, List.setIfInBounds_toArray, List.set_cons_zero, List.set_cons_succ, i64_w, i32_w]
            rfl
          exact norm_ (by simp only [putAll, Act.put, List.setIfInBounds_toArray, List.set_cons_zero, List.set_cons_succ]) (hCont (A9, c9) _ ⟨HT8.out, HF8.out, HB8.out, HXO8.out, HC9.out.1, HC9.out.2⟩)
        · skip
          have hql : w7.cell? ⟨RB, 2, none⟩ = some (.slice Aw LW cw) := HLW.out ▸ HF7.out.ww
          refine value_ (w1 := ?_) (v := ?_) (by rfl) rfl ?_ ?_
          rotate_left 2
          · go_simp
            constructor
            · rfl
            · rfl
          refine hK.out _ _ ⟨((blk_cell HXO7.out 0).trans rfl), ((blk_cell HXO7.out 1).trans rfl), ((blk_cell HXO7.out 2).trans rfl), ((blk_cell HXO7.out 3).trans rfl), ((blk_cell HXO7.out 4).trans rfl)⟩ (fun hHeld => ?_)
          clear hK K
          refine norm_ (a' := ?_) ?_ ?_
          rotate_left
          · show Act.put _ (some 89) _ = _
            simp only [Act.put, List.setIfInBounds_toArray, List.set_cons_zero, List.set_cons_succ, i64_w, i32_w]
            rfl
          refine pure_ (i := 32) (N := some 90) (v := ?_) (a' := ?_) #[true, true, true, true, true, true, true, true, true, true, true, true, true, true, true, true, true, true, true, true, true, true, true, true, true, true, true, true, false, false, true, true, true, false, false] rfl rfl (by kernel_rfl) (fun _ _ _ h => h) (Or.inl ⟨by rfl, ?_⟩) ?_ ?_
          rotate_left
          · intro w'
            go_simp
            with_reducible rfl
          rotate_left
          · simp only [Act.put, List.setIfInBounds_toArray, List.set_cons_zero, List.set_cons_succ, i64_w, i32_w]
            rfl
          refine one_ (i := 28) (N := some 86) #[true, true, true, true, true, true, true, true, true, true, true, true, true, true, true, true, true, true, true, true, true, true, true, true, true, true, true, true, true, false, true, true, true, false, false] rfl rfl (by kernel_rfl) (by decide) (fun K hK => ?_)
          refine goes_ Try.func16 (by kernel_rfl) rfl #[.pointer (some ⟨B, 0, none⟩)] (by rfl) rfl rfl (by (try simp only [List.map_toArray, List.map_cons, List.map_nil]); first | done | rfl) ?_
          refine (two_waiting HT7.out HWS.out).mono ?_
          rintro e w8 ⟨A9, c9, rfl, hc9, hC9, hb9⟩
          have HT8 := Aside0.mk (HT7.out.below hb9)
          have HF8 := Aside0.mk (HF7.out.below hb9)
          have HB8 := Aside0.mk (below_step HB7.out hb9)
          have HXO8 := Aside0.mk (blk_below HXO7.out hb9)
          rw [← HLW.out] at hc9 hC9 ⊢
          have HC9 := Aside0.mk (And.intro hC9 hc9)
          have hq8 : w8.cell? ⟨RB, 2, none⟩ = some (.slice Aw LW cw) := HLW.out ▸ HF8.out.ww
          clear hb9 hc9 hC9
          refine ⟨_, rfl, ?_⟩
          refine hK.out _ _ ⟨((blk_cell HXO8.out 0).trans rfl), ((blk_cell HXO8.out 1).trans rfl), ((blk_cell HXO8.out 2).trans rfl), ((blk_cell HXO8.out 3).trans rfl), ((blk_cell HXO8.out 4).trans rfl)⟩ (fun hHeld => ?_)
          clear hK K
          refine norm_ (a' := ?_) ?_ ?_
          rotate_left
          · show Act.put _ (some 86) _ = _
            simp only [Act.put, List.setIfInBounds_toArray, List.set_cons_zero, List.set_cons_succ, i64_w, i32_w]
            rfl
          refine pure_ (i := 29) (N := some 87) (v := ?_) (a' := ?_) #[true, true, true, true, true, true, true, true, true, true, true, true, true, true, true, true, true, true, true, true, true, true, true, true, true, true, true, true, true, true, true, true, true, false, false] rfl rfl (by kernel_rfl) (fun _ _ _ h => h) (Or.inl ⟨by rfl, ?_⟩) ?_ ?_
          rotate_left
          · intro w'
            go_simp
            with_reducible rfl
          rotate_left
          · simp only [Act.put, List.setIfInBounds_toArray, List.set_cons_zero, List.set_cons_succ, i64_w, i32_w]
            rfl
          exact norm_ (by simp only [putAll, Act.put, List.setIfInBounds_toArray, List.set_cons_zero, List.set_cons_succ]) (hCont (A9, c9) _ ⟨HT8.out, HF8.out, HB8.out, HXO8.out, HC9.out.1, HC9.out.2⟩)
      rintro ⟨A8, c8⟩ w8 ⟨ht9, hf9, hb9, hx9, hC9, hc9⟩
      have HT8 := Aside0.mk ht9
      have HF8 := Aside0.mk hf9
      have HB8 := Aside0.mk hb9
      have HXO8 := Aside0.mk hx9
      have HC8 := Aside0.mk (And.intro hC9 hc9)
      have hHeld := (show _ ∧ _ ∧ _ ∧ _ ∧ _ from ⟨((blk_cell HXO8.out 0).trans rfl), ((blk_cell HXO8.out 1).trans rfl), ((blk_cell HXO8.out 2).trans rfl), ((blk_cell HXO8.out 3).trans rfl), ((blk_cell HXO8.out 4).trans rfl)⟩)
      clear ht9 hf9 hb9 hx9 hC9 hc9
      refine norm_ (a' := ?_) ?_ ?_
      rotate_left
      · simp only [putAll, Act.put, List.setIfInBounds_toArray, List.set_cons_zero, List.set_cons_succ]
        rfl
      refine pure_ (i := 33) (N := some 91) (v := ?_) (a' := ?_) #[true, true, true, true, true, true, true, true, true, true, true, true, true, true, true, true, true, true, true, true, true, true, true, true, true, true, true, true, true, true, true, true, true, true, false] rfl rfl (by kernel_rfl) (fun _ _ _ h => h) (Or.inl ⟨by rfl, ?_⟩) ?_ ?_
      rotate_left
      · intro w'
        go_simp
        with_reducible rfl
      rotate_left
      · simp only [Act.put, List.setIfInBounds_toArray, List.set_cons_zero, List.set_cons_succ, i64_w, i32_w]
        rfl
      refine pure_ (i := 34) (N := some 92) (v := ?_) (a' := ?_) #[true, true, true, true, true, true, true, true, true, true, true, true, true, true, true, true, true, true, true, true, true, true, true, true, true, true, true, true, true, true, true, true, true, true, true] rfl rfl (by kernel_rfl) (fun _ _ _ h => h) (Or.inl ⟨by rfl, ?_⟩) ?_ ?_
      rotate_left
      · intro w'
        go_simp
        with_reducible rfl
      rotate_left
      · simp only [Act.put, List.setIfInBounds_toArray, List.set_cons_zero, List.set_cons_succ, i64_w, i32_w]
        rfl
      refine done_ (by kernel_rfl) ?_
      go_wp2_with (go_at_call 16; (with_reducible refine Calls.mono (two_waiting HT8.out HWS.out) ?_); rintro e w10 ⟨A9, c9, rfl, hc9, hC9, hb9⟩; have HT9 := Aside0.mk (HT8.out.below hb9); have HF9 := Aside0.mk (HF8.out.below hb9); rw [← HLW.out] at hc9 hC9 ⊢; have HC9 := Aside0.mk hC9; clear hb9 hc9 hC9)
      have hw3 : w10.cell? ⟨RB, 2, none⟩ = some (.slice Aw LW cw) := HLW.out ▸ HF9.out.ww
      go_loopg [96] LW (fun gk v96 w' => ∃ k : Nat, v96 = .int .i64 (k : Int) ∧ k + gk = LW ∧ w10 = w')
      case atStart => exact ⟨0, rfl, by omega, rfl⟩
      case round =>
        obtain ⟨k, rfl, hkg, rfl⟩ := hrel
        by_cases hk : k < LW
        · have hk0 : (0 : Int) ≤ (k : Int) := by omega
          have hk1 : (k : Int) < (LW : Int) := by omega
          have hk5 : (k : Int) ≤ 100000 := by have := HWS.out; have := HLW.out; omega
          have hk2 : decide ((k : Int) < (LW : Int)) = true := decide_eq_true hk1
          obtain ⟨a9, rfl, hy9⟩ := Kd.at_int HC9.out (k : Int) hk0 hk1
          rw [Int.toNat_natCast, rd_nums] at hy9
          obtain ⟨aw, Ax, cx, rfl, hy0, _, _, _⟩ := at_W HF9.out.wC k (by have := HLW.out; omega)
          generalize (wAt d2.waits k).n = m at hy9 hy0
          have hmm : (m != m) = false := by simp
          go_wp2
          go_roundg (gk - 1)
          case measure => omega
          case rel => exact ⟨k + 1, by go_num, by omega, rfl⟩
        · obtain rfl : k = LW := by omega
          have hge2 : decide ((k : Int) < (k : Int)) = false := decide_eq_false (by omega)
          go_wp2
          go_roundg (gk0 - 1)
          case measure => omega
          case rel => exact ⟨i + 1, by go_num, by omega, ⟨d2, OS2, HT9.out, by have := HST.out.1; have := HDI.out.1; omega, by have := HST.out.2; have := HDI.out.2; omega⟩⟩
    · obtain rfl : i = M := by omega
      have hge : decide ((i : Int) < (i : Int)) = false := decide_eq_false (by omega)
      have HBB := Aside0.mk h.bel
      clear h HR
      go_wp2_with (go_at_call 15; refine (alive_calls _).mono ?_; rintro e w7 ⟨rfl, hb⟩; have HB7 := Aside0.mk (below_step HBB.out hb); clear hb)
      go_ret
      exact ⟨rfl, HB7.out⟩
end Go.Proofs.Ytenbcpjlbfojlaa.DA
