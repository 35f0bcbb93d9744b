/- No epoch is reserved twice: the walk. -/
import Derived.Test.YtfbfloiflcjdjaaES
namespace Go.Proofs.Ytfbfloiflcjdjaa.EO
open Go.RowKit Go.Maps Go.Proofs.YtfbfloiflcjdjaaW.PrintWords Go.Proofs.YtfbfloiflcjdjaaW.PrintLast Go.Proofs.YtfbfloiflcjdjaaW.PrintMore Go.Proofs.Ytfbfloiflcjdjaa.PE Go.Proofs.Ytfbfloiflcjdjaa.EM Go.Proofs.Ytfbfloiflcjdjaa.EN
set_option linter.unusedVariables false
set_option linter.unusedSimpArgs false
set_option maxHeartbeats 16000000 in
set_option maxRecDepth 100000 in
theorem once_law (last : Int) (hl : 0 ≤ last ∧ last ≤ 4294967295) (A : Option Addr) (n c : Nat) (l : List S29) (w : World) (hC : Kd.C k29 w A n l) (hnc : n ≤ c) (hc : c ≤ 9223372036854775807) (hs : Steps l) :
    Calls Try.prog 3 #[.int .u32 last, .slice A n c] w fun e w' => e = .returned (.bool true) ∧ Below w.heap.size w w' := by
  obtain ⟨N, hN⟩ : ∃ N, N = min n 200 := ⟨_, rfl⟩
  have R8 := Aside0.mk (fun W => (show Calls Try.prog 8 #[.slice A n c] W fun e w' => e = .returned (.slice A N c) ∧ w' = W from hN ▸ short_calls A n c hnc hc W))
  have hln : l.length = n := hC.1
  have hN2 : N ≤ 200 ∧ N ≤ n := by omega
  have HC := Aside0.mk hC
  have HS := Aside0.mk hs
  have hl0 := hl.1
  have hl1 := hl.2
  have HN := Aside0.mk (And.intro hN2 hln)
  have hmm := @run_makeMap Try.prog
  have hw64 : IntKind.u64.wrap last = last := by simp [IntKind.wrap, IntKind.signed, IntKind.bits]; omega
  clear hC hs hl hN2 hln hN
  go_enter Try.func3, Try.ntmps3
  go_wp2_with (first
    | (go_at_call 7; refine (new_calls last _).mono ?_; rintro e w1 ⟨vu, mv, rfl, hM, hb⟩; have H1 := Aside0.mk (Ms.new (w0 := w) (Below.refl _ _) hM hb); clear hM hb)
    | (go_at_call 8; refine (R8.out _).mono ?_; rintro e w2 ⟨rfl, rfl⟩))
  generalize hBB : w.heap.size = B at H1 ⊢
  have HBB := Aside0.mk hBB
  clear hBB
  go_loopg [6, 21] N (fun gk v6 v21 w' => ∃ (i : Nat) (m : Meter), v6 = .int .u64 m.last ∧ v21 = .int .i64 (i : Int) ∧ i + gk = N ∧ Aside0 (Ms w B m w' ∧ Inv last m ∧ UW m ∧ m.uses.length ≤ i ∧ m.bl.length ≤ i))
  case atStart => exact ⟨0, Meter.new last, rfl, rfl, by omega, H1.out, Inv.new hl0 hl1, fun u hu => absurd hu (by simp [Meter.new]), by simp [Meter.new], by simp [Meter.new]⟩
  case round =>
    clear H1
    obtain ⟨i, m, rfl, rfl, hig, HR⟩ := hrel
    have hN200 := HN.out.1.1
    by_cases hlt : i < N
    · have hin : i < n := by have := HN.out.1.2; omega
      obtain ⟨ad, rfl, hk0, hk1⟩ := at_S (Kd.C_below HC.out HR.out.1.bel) i hin
      obtain ⟨⟨hs1, hs2⟩, hs3⟩ := HS.out.at (i := i) (by rw [HN.out.2]; exact hin)
      generalize (sAt l i).f0 = k at hk0 hs1 hs2
      generalize (sAt l i).f1 = b at hk1 hs3
      have hlt2 : decide ((i : Int) < (N : Int)) = true := decide_eq_true (by omega)
      have hi0 : (0 : Int) ≤ (i : Int) := by omega
      have hi1 : (i : Int) < (N : Int) := by omega
      have hi2 : (i : Int) ≤ 200 := by omega
      have hlm : 0 ≤ m.last ∧ m.last ≤ 4294967295 := ⟨Int.le_trans HR.out.2.1.l00 HR.out.2.1.lo, HR.out.2.1.hi⟩
      have hul : m.uses.length ≤ 1000000 := by have := HR.out.2.2.2.1; omega
      have hbl : m.bl.length ≤ 1000000 := by have := HR.out.2.2.2.2; omega
      have hi1' := HR.out.2.1.step k b
      have hls := len_step m k b
      have RP := Aside0.mk (fun W kb o (h : Mk w B kb o m W) => play_mk h k b ⟨hs1, hs2⟩ hs3 hlm hul hbl)
      have HI := Aside0.mk (show Inv last (Meter.step m k b).1 ∧ UW (Meter.step m k b).1 ∧ (Meter.step m k b).1.uses.length ≤ i + 1 ∧ (Meter.step m k b).1.bl.length ≤ i + 1 from ⟨hi1', HR.out.2.2.1.step hs3, by have := HR.out.2.2.2.1; omega, by have := HR.out.2.2.2.2; omega⟩)
      have ht : Int.tmod k 4 = k % 4 := Int.tmod_eq_emod_of_nonneg hs1
      have HT := Aside0.mk (step_last HR.out.2.1 k b)
      have HJ0 := Aside0.mk HR.out.1
      have HLM := Aside0.mk hlm
      clear hlm hul hbl hi1' hls HR hs1 hs2 hs3
      generalize hM1 : (Meter.step m k b).1 = m1 at RP HI HT
      generalize hM2 : (Meter.step m k b).2.1 = ra at RP HT
      generalize hM3 : (Meter.step m k b).2.2 = re at RP HT
      clear hM1 hM2 hM3
      obtain ⟨q, hq⟩ : ∃ q, q = k % 4 := ⟨_, rfl⟩
      have hq4 : 0 ≤ q ∧ q < 4 := by omega
      rw [← hq] at ht HT
      clear hq
      have hw8 : IntKind.u8.wrap q = q := by simp [IntKind.wrap, IntKind.signed, IntKind.bits]; omega
      by_cases hc : q = 0 ∧ re = 0
      · obtain ⟨hra, hla⟩ := HT.out.1 hc
        have hb0 : (q == 0) = true := beq_iff_eq.mpr hc.1
        have hb1 : (re == 0) = true := beq_iff_eq.mpr hc.2
        have hlm1 := HI.out.1.hi
        have hlm0 := HLM.out
        have hb2 : decide (m1.last ≤ m.last) = false := decide_eq_false (by omega)
        have hw6 : IntKind.u64.wrap m1.last = m1.last := by simp [IntKind.wrap, IntKind.signed, IntKind.bits]; omega
        have HRA : ra = m1.last := by omega
        subst HRA
        clear hc hra hla HT hlm1 hlm0
        go_wp2_with (go_at_call 9; refine (RP.out _ _ _ (Ms.mk' HJ0.out #[.int .u8 k, .int .i64 b] 29)).mono ?_; rintro e w3 ⟨rfl, hj⟩; have hs0 : w3.cell? ⟨wr.heap.size, 0, none⟩ = some (.int .u8 k) := (blk_cell hj.blk 0).trans rfl; have H3 := Aside0.mk hj.ms; clear hj)
        go_roundg (gk - 1)
        case measure => omega
        case rel => exact ⟨i + 1, m1, rfl, by go_num, by omega, H3.out, HI.out⟩
      · have hla := HT.out.2 hc
        have hb0 : (q == 0 && re == 0) = false := by
          rw [Bool.and_eq_false_iff]
          by_cases h9 : q = 0
          · exact .inr (beq_eq_false_iff_ne.mpr (fun h8 => hc ⟨h9, h8⟩))
          · exact .inl (beq_eq_false_iff_ne.mpr h9)
        have HLA := Aside0.mk hla
        have HCC := Aside0.mk hc
        clear hc hla HT
        by_cases h9 : q = 0
        · have hb1 : (q == 0) = true := beq_iff_eq.mpr h9
          have hb2 : (re == 0) = false := beq_eq_false_iff_ne.mpr (fun h8 => HCC.out ⟨h9, h8⟩)
          clear h9 hb0
          go_wp2_with (go_at_call 9; refine (RP.out _ _ _ (Ms.mk' HJ0.out #[.int .u8 k, .int .i64 b] 29)).mono ?_; rintro e w3 ⟨rfl, hj⟩; have hs0 : w3.cell? ⟨wr.heap.size, 0, none⟩ = some (.int .u8 k) := (blk_cell hj.blk 0).trans rfl; have H3 := Aside0.mk hj.ms; clear hj)
          go_roundg (gk - 1)
          case measure => omega
          case rel => exact ⟨i + 1, m1, by rw [HLA.out], by go_num, by omega, H3.out, HI.out⟩
        · have hb1 : (q == 0) = false := beq_eq_false_iff_ne.mpr h9
          clear h9 hb0
          go_wp2_with (go_at_call 9; refine (RP.out _ _ _ (Ms.mk' HJ0.out #[.int .u8 k, .int .i64 b] 29)).mono ?_; rintro e w3 ⟨rfl, hj⟩; have hs0 : w3.cell? ⟨wr.heap.size, 0, none⟩ = some (.int .u8 k) := (blk_cell hj.blk 0).trans rfl; have H3 := Aside0.mk hj.ms; clear hj)
          go_roundg (gk - 1)
          case measure => omega
          case rel => exact ⟨i + 1, m1, by rw [HLA.out], by go_num, by omega, H3.out, HI.out⟩
    · obtain rfl : i = N := by omega
      have hge : decide ((i : Int) < (i : Int)) = false := decide_eq_false (by omega)
      have hmu : m.uses.length ≤ 1000000 := by have := HR.out.2.2.2.1; omega
      have HJ0 := Aside0.mk (And.intro HR.out.1 hmu)
      have HW := Aside0.mk (HR.out.2.2.1.wf HR.out.2.1)
      have HI := Aside0.mk HR.out.2.1
      clear HR hmu
      go_wp2_with (first
        | (go_at_call 10; refine (used_ms (HJ0.out.1.below ((Below.refl _ _).alloc (Nat.le_refl _) (.map #[] 0))) HJ0.out.2).mono ?_; rintro e w3 ⟨v, rfl, ho, hb, hj⟩; obtain ⟨Au, cu, rfl⟩ := Kd.R_slice ho; have HU := Aside0.mk (Kd.R_mono (Kd.R_lower (Kd.R_bound ho) (by have := HJ0.out.1.bel.size; rw [HBB.out] at this; simp; omega : B ≤ (wr.alloc (.map #[] 0)).heap.size)) (fun k hk => show k ≠ wr.heap.size from by have h9 := hk.2.1; simp at h9; omega)); have HMB := Aside0.mk (show B ≤ wr.heap.size from by have := HJ0.out.1.bel.size; rw [HBB.out] at this; exact this); have H3 := Aside0.mk hj; have HO := Aside0.mk (own_keepU (World.ownsMap_made (H := Unit) wr Try.prog 37 (plainElem Try.prog 4)) (hb.block _ (by simp))); clear ho hb hj))
      generalize wr.heap.size = MB at HO HU HMB ⊢
      generalize hMM : m.uses.length = M at HU HJ0 ⊢
      have hM6 : M ≤ 1000000 := HJ0.out.2
      have HMM := Aside0.mk hMM
      clear HJ0 hMM
      have HB3 := Aside0.mk H3.out.bel
      have HND := Aside0.mk HI.out.nd
      have HES := Aside0.mk HI.out.es
      have hlm1 : m.last ≤ 4294967295 := HI.out.hi
      clear H3 HI
      go_loopg [50] M (fun gk v50 w' => ∃ j : Nat, v50 = .int .i64 (j : Int) ∧ j + gk = M ∧ Aside0 (Below B w w' ∧ w'.ownsMap Try.prog 37 (plainElem Try.prog 4) MB j (MU (m.uses.take j).reverse) ∧ Kd.R kU 37 w' B (fun k => k ≠ MB) (.slice Au M cu) m.uses ∧ B ≤ w'.heap.size))
      case atStart => exact ⟨0, rfl, by omega, ⟨HBB.out ▸ HB3.out, HO.out, HU.out, by have := HB3.out.size; rw [HBB.out] at this; exact this⟩⟩
      case round =>
        clear HO HU
        obtain ⟨j, rfl, hjg, HB⟩ := hrel
        by_cases hlt : j < M
        · have hj0 : (0 : Int) ≤ (j : Int) := by omega
          have hj1 : (j : Int) < (M : Int) := by omega
          have hj2 : decide ((j : Int) < (M : Int)) = true := decide_eq_true hj1
          obtain ⟨au, rfl, hu0, hu1⟩ := at_U (show Kd.C kU wr Au M m.uses from HMM.out ▸ (Kd.R_reads' HB.out.2.2.1).2.2) j hlt
          have hjl : j < m.uses.length := by rw [HMM.out]; exact hlt
          have hmem := uAt_mem hjl
          have HTK := Aside0.mk (uAt_take hjl)
          have HNI := Aside0.mk (uAt_new HND.out hjl)
          have HWU := Aside0.mk (HW.out _ hmem)
          have HWT := Aside0.mk (show ∀ x ∈ (m.uses.take j).reverse, uWf x from fun x hx => HW.out x (List.mem_of_mem_take (List.mem_reverse.1 hx)))
          obtain ⟨he1, he2⟩ := HES.out _ hmem
          have hd1 : decide ((uAt m.uses j).e ≤ last) = false := decide_eq_false (by omega)
          have hd2 : decide ((uAt m.uses j).e > m.last) = false := decide_eq_false (by omega)
          have hw6 : IntKind.u64.wrap (uAt m.uses j).e = (uAt m.uses j).e := by simp [IntKind.wrap, IntKind.signed, IntKind.bits]; omega
          generalize uAt m.uses j = u at hu0 hu1 HTK HNI HWU hd1 hd2 hw6 he1 he2
          clear hmem
          have HBA := Aside0.mk (HB.out.1.alloc HB.out.2.2.2 (.cells #[.int .u32 u.e, .int .i64 u.b] 37))
          have HOA := Aside0.mk (own_keepU HB.out.2.1 (Below.heap_alloc wr (.cells #[.int .u32 u.e, .int .i64 u.b] 37) MB HB.out.2.1.lt))
          have HRA := Aside0.mk (Kd.R_alloc HB.out.2.2.1 (.cells #[.int .u32 u.e, .int .i64 u.b] 37))
          have HSZ := Aside0.mk (show B ≤ (wr.alloc (.cells #[.int .u32 u.e, .int .i64 u.b] 37)).heap.size from by have := HB.out.2.2.2; simp; omega)
          have HND2 := Aside0.mk (decide_eq_false (p := u ∈ (m.uses.take j).reverse) (fun h9 => HNI.out (List.mem_reverse.1 h9)))
          go_wp2_with (first
            | (at_lookup; refine lookup_uses rfl _ _ rfl MB _ _ rfl HOA.out u rfl HWU.out HWT.out ?_; rw [HND2.out])
            | (at_mapUpdate; refine wpList_mapUpdate_own _ rfl _ _ _ 33 rfl 37 4 law37 Try.underlying33 _ MB _ _ rfl HOA.out (by unfold maxLen; omega) _ _ _ rfl rfl (key_use HWU.out) _ [] (plainElem_bool Try.underlying4 true) ?_; intro w4 hown4 hg4; have HO4 := Aside0.mk hown4; have HG4 := Aside0.mk hg4; clear hown4 hg4))
          go_roundg (gk - 1)
          case measure => omega
          case rel =>
            refine ⟨j + 1, by go_num, by omega, ⟨HBA.out.grown HG4.out HSZ.out (fun x hx => by cases hx; exact HMB.out), ?_, Kd.R_grown HRA.out HG4.out (fun k hk h9 => by injection h9 with h9; exact hk h9), Nat.le_trans HSZ.out HG4.out.size⟩⟩
            rw [HTK.out, List.reverse_append]
            exact HO4.out
        · obtain rfl : j = M := by omega
          have hge2 : decide ((j : Int) < (j : Int)) = false := decide_eq_false (by omega)
          have HBB2 := Aside0.mk (show Below w.heap.size w wr from by rw [HBB.out]; exact HB.out.1)
          go_wp2_with (go_at_call 11; refine (alive_calls _).mono ?_; rintro e w7 ⟨rfl, hb⟩; have HB7 := Aside0.mk (below_step HBB2.out hb); clear hb)
          go_ret
          exact ⟨rfl, HB7.out⟩
end Go.Proofs.Ytfbfloiflcjdjaa.EO
