/- The document's Crash. -/
import Derived.Test.YtenbcpjlbfojlaaEC
namespace Go.Proofs.Ytenbcpjlbfojlaa.DA
open Go.RowKit Go.Proofs.YtenbcpjlbfojlaaW.PrintWords Go.Proofs.YtenbcpjlbfojlaaW.PrintLast Go.Proofs.YtenbcpjlbfojlaaW.PrintMore Go.Proofs.Ytenbcpjlbfojlaa.PD
attribute [local go_sem] max2_int min2_int max_two min_two max_three min_three max_four min_four
set_option linter.unusedVariables false
set_option linter.unusedSimpArgs false
theorem keep_rem (keep : Int) (i : Nat) (h : 0 ≤ keep ∧ keep ≤ 18446744073709551615) : Int.tmod (keep / 2 ^ (i % 64)) 2 = if comes keep i = true then 1 else 0 := by
  have h0 : 0 ≤ keep / 2 ^ (i % 64) := Int.ediv_nonneg h.1 (Int.le_of_lt (pow2_pos _))
  rw [Int.tmod_eq_emod_of_nonneg h0]
  unfold comes
  by_cases hb : keep / 2 ^ (i % 64) % 2 = 1
  · rw [hb]; rfl
  · rw [show keep / 2 ^ (i % 64) % 2 = 0 by omega]; rfl
section
variable {α : Type} {base RB N : Nat} {d : Dv} {RS RS' RS2 : Nat → Prop} {w w' w1 : World} {vb vw vs vt : Value}
theorem crashed_l {keep torn parts : Int} {ws : List Wr} {bl : List Int} (hb : bl.length = N * 256) (hw : ∀ x ∈ ws, (0 ≤ x.n ∧ x.n < N) ∧ x.b.length = 256) : (crashed keep torn parts bl ws).length = N * 256 := by
  unfold crashed
  refine crashed_len hb (fun z hz => hw z.1 ?_)
  obtain ⟨a, i⟩ := z
  exact (List.mem_zipIdx hz).2.2 ▸ List.getElem_mem _
set_option maxHeartbeats 8000000 in
set_option maxRecDepth 100000 in
theorem rcrash_calls (keep torn parts : Int) (hkeep : 0 ≤ keep ∧ keep ≤ 18446744073709551615) (w : World) (h : Rm base RB N d RS w vb vw vs vt) (hN : Wf d N) (hwl : d.waits.length ≤ 100000) :
    Calls Try.prog 34 #[.pointer (some ⟨RB, 0, none⟩), .int .u64 keep, .int .i64 torn, .int .i64 parts] w fun e w' => e = .returned (.tuple #[]) ∧ RAfter base RB N (d.crash keep torn parts) RS w w' := by
  obtain ⟨Aw, cw, rfl⟩ := Kd.R_slice h.rw
  obtain ⟨n, hn⟩ : ∃ n, n = d.waits.length := ⟨_, rfl⟩
  rw [← hn] at hwl
  have HN := Aside0.mk hn
  have HWF := Aside0.mk hN
  have HK := Aside0.mk hkeep
  obtain ⟨t, ht⟩ : ∃ t : Nat, t = tornN parts := ⟨_, rfl⟩
  have ht4 : t ≤ 4 := ht ▸ tornN_le parts
  obtain ⟨p0, hp0⟩ : ∃ p0, (if parts < 0 then 0 else parts) = p0 := ⟨_, rfl⟩
  have hp1 : (if 4 < p0 then 4 else p0) = (t : Int) := by
    rw [← hp0, ht]; unfold tornN
    repeat' split
    all_goals omega
  have hw64 : IntKind.i64.wrap (64 * (t : Int)) = 64 * (t : Int) := w64 _ (by omega) (by omega)
  have HT0 := Aside0.mk ht
  have HS0 := Aside0.mk (show ∃ RS1 vb1, Rm base RB N ⟨crashed keep torn parts d.blocks (d.waits.take 0), d.waits, d.shelf, d.trace⟩ RS1 w vb1 (.slice Aw n cw) vs vt ∧ RT base RB RS RS1 w w from ⟨RS, vb, hn ▸ h, RT.refl⟩)
  clear h hN hn hkeep ht
  go_enter Try.func34, Try.ntmps34
  go_wp2
  go_loopg [8, 9] n (fun gk v8 v9 w' => ∃ j : Nat, v8 = .int .i64 (j : Int) ∧ j + gk = n ∧ Aside0 (∃ RS1 vb1, Rm base RB N ⟨crashed keep torn parts d.blocks (d.waits.take j), d.waits, d.shelf, d.trace⟩ RS1 w' vb1 (.slice Aw n cw) vs vt ∧ RT base RB RS RS1 w w'))
  case atStart => exact ⟨0, rfl, by omega, HS0⟩
  case round =>
    clear HS0
    obtain ⟨j, rfl, hjg, HR⟩ := hrel
    obtain ⟨RS1, vb1, hS, hT⟩ := HR.out
    by_cases hlt : j < n
    · have hi0 : (0 : Int) ≤ (j : Int) := by omega
      have hi1 : (j : Int) < (n : Int) := by omega
      have hi2 : decide ((j : Int) < (n : Int)) = true := decide_eq_true hi1
      have hil : j < d.waits.length := by rw [← HN.out]; exact hlt
      have HTK := Aside0.mk (wAt_take hil)
      have HJL := Aside0.mk (show (d.waits.take j).length = j by rw [List.length_take]; omega)
      have hwo := HWF.out.ws _ (wAt_mem hil)
      obtain ⟨aw, Ax, cx, hAw, hx0, hx1, hx2, hx3⟩ := at_W (Kd.R_reads' hS.rw).2.2 j hil
      subst hAw
      rw [hwo.2] at hx1 hx2 hx3
      generalize wAt d.waits j = x at hx0 hx1 hx3 HTK hwo
      obtain ⟨m, b⟩ := x
      simp only at hx0 hx1 hx3 hwo
      have hrem : Int.tmod (j : Int) 64 = ((j % 64 : Nat) : Int) := by rw [Int.tmod_eq_emod_of_nonneg (by omega)]; omega
      have hka := keep_rem keep j HK.out
      obtain ⟨r, hr⟩ : ∃ r, r = j % 64 := ⟨_, rfl⟩
      rw [← hr] at hrem hka
      have hr0 : (0 : Int) ≤ (r : Int) := by omega
      have hr1 : (r : Int) ≤ 64 := by omega
      have hc2 := hS.c2
      by_cases hc : comes keep j = true
      · rw [if_pos hc] at hka
        have HCm := Aside0.mk hc
        clear hc hr
        obtain ⟨p, hp⟩ : ∃ p : Nat, m * 256 = (p : Int) := ⟨(m * 256).toNat, by omega⟩
        have hw1 : IntKind.i64.wrap (m * 256) = (p : Int) := (w64 _ (by have := HWF.out.of.2.2; omega) (by have := HWF.out.of.2.2; omega)).trans hp
        have hfl : (crashed keep torn parts d.blocks (d.waits.take j)).length = N * 256 := crashed_l HWF.out.of.1 (fun y hy => HWF.out.ws y (List.mem_of_mem_take hy))
        obtain ⟨k9, hk9⟩ : ∃ k9, k9 = (if (j : Int) = torn then 64 * t else 256) := ⟨_, rfl⟩
        have hk256 : k9 ≤ 256 := by rw [hk9]; split <;> omega
        have HFL := Aside0.mk (show crashed keep torn parts d.blocks (d.waits.take (j + 1)) = splice (crashed keep torn parts d.blocks (d.waits.take j)) p (b.take k9) from by
          rw [HTK.out, crashed_snoc, HJL.out]
          unfold crash1
          rw [if_pos HCm.out]
          unfold lay
          rw [hk9, HT0.out]
          congr 1
          show m.toNat * 256 = p
          omega)
        obtain ⟨A0, c0, rfl⟩ := Kd.R_slice hS.rb
        have h1 := hS.c1
        have hXt := Kd.C_take (m := k9) (show Kd.C kb wr Ax b.length b from hwo.2.symm ▸ hx3) (by omega)
        have HX0 := Aside0.mk (show Kd.C kb wr Ax k9 (b.take k9) from by rw [show (b.take k9).length = k9 from by rw [List.length_take]; omega] at hXt; exact hXt)
        simp only at h1
        obtain ⟨LB, hLB⟩ : ∃ LB, LB = (crashed keep torn parts d.blocks (d.waits.take j)).length := ⟨_, rfl⟩
        simp only at hS
        rw [← hLB] at h1 hS hfl
        have HLD := Aside0.mk (fun (W : World) (hS' : Rm base RB N ⟨crashed keep torn parts d.blocks (d.waits.take j), d.waits, d.shelf, d.trace⟩ RS1 W (.slice A0 LB c0) (.slice (some aw) n cw) vs vt) (hX : Kd.C kb W Ax k9 (b.take k9)) => laid_at (by have := HWF.out.of.2.2; omega) hLB p Ax k9 cx (b.take k9) (by rw [List.length_take]; omega) (by omega) HFL.out W hS' hX)
        have HS := Aside0.mk hS
        have HT := Aside0.mk hT
        have h2 := hc2
        clear hS hT hx3 hwo hfl hLB hp hXt HR hc2 hk256
        by_cases htn : (j : Int) = torn
        · have htb : ((j : Int) == torn) = true := beq_iff_eq.mpr htn
          rw [if_pos htn] at hk9
          subst hk9
          clear htn
          go_upto_region 7 with fail
          generalize 64 * t = k9 at HX0 HLD ⊢
          refine start_ (n := 19) (S := fun w' => w'.cell? ⟨RB, 1, none⟩ = some (.slice A0 LB c0) ∧ w'.cell? ⟨RB, 2, none⟩ = some (.slice (some aw) n cw) ∧ w'.cell? (aw.add (j * 2)) = some (.int .i64 m)) (ds := [15, 18]) #[false, false, false, false, false, false, false, false, false, false, false, false, false, false, false, false, false, false, false] (by kernel_rfl) rfl rfl ⟨h1, h2, hx0⟩ (fun hHeld => ?_)
          have HSd := Aside0.mk (HS.out.below (below_drew1 (Below.refl _ _)))
          have HDr := Aside0.mk (RAfter_drew HS.out)
          clear HS
          have HS := HSd
          clear HSd
          have HX := Aside0.mk (Kd.C_drew HX0.out)
          generalize wr.drew = wD at hHeld HS HDr HX ⊢
          have HSB := Aside0.mk (Nat.le_trans HS.out.hB (Nat.le_of_lt HS.out.bl))
          clear HX0
          refine pure_ (i := 0) (N := some 42) (v := ?_) (a' := ?_) #[true, false, false, false, false, false, false, false, false, false, false, false, false, false, false, false, false, false, false] rfl rfl (by kernel_rfl) (fun _ _ _ h => h) (Or.inl ⟨by rfl, ?_⟩) ?_ ?_
          rotate_left
          · intro w'
            go_simp
            with_reducible rfl
          rotate_left
          · simp only [Act.put, List.setIfInBounds_toArray, List.set_cons_zero, List.set_cons_succ, i64_w, i32_w]
            rfl
          refine pure_ (i := 1) (N := some 43) (v := ?_) (a' := ?_) #[true, true, false, false, false, false, false, false, false, false, false, false, false, false, false, false, false, false, false] rfl rfl (by kernel_rfl) (fun _ _ _ h => h) (Or.inl ⟨by rfl, ?_⟩) ?_ ?_
          rotate_left
          · intro w'
            go_simp
            with_reducible rfl
          rotate_left
          · simp only [Act.put, List.setIfInBounds_toArray, List.set_cons_zero, List.set_cons_succ, i64_w, i32_w]
            rfl
          refine pure_ (i := 2) (N := some 44) (v := ?_) (a' := ?_) #[true, true, true, false, false, false, false, false, false, false, false, false, false, false, false, false, false, false, false] rfl rfl (by kernel_rfl) (fun _ _ _ h => h) (Or.inl ⟨by rfl, ?_⟩) ?_ ?_
          rotate_left
          · intro w'
            go_simp
            with_reducible rfl
          rotate_left
          · simp only [Act.put, List.setIfInBounds_toArray, List.set_cons_zero, List.set_cons_succ, i64_w, i32_w]
            rfl
          refine pure_ (i := 3) (N := some 45) (v := ?_) (a' := ?_) #[true, true, true, true, false, false, false, false, false, false, false, false, false, false, false, false, false, false, false] rfl rfl (by kernel_rfl) (fun _ _ _ h => h) (Or.inl ⟨by rfl, ?_⟩) ?_ ?_
          rotate_left
          · intro w'
            go_simp
            with_reducible rfl
          rotate_left
          · simp only [Act.put, List.setIfInBounds_toArray, List.set_cons_zero, List.set_cons_succ, i64_w, i32_w]
            rfl
          refine pure_ (i := 5) (N := some 47) (v := ?_) (a' := ?_) #[true, true, true, true, false, true, false, false, false, false, false, false, false, false, false, false, false, false, false] rfl rfl (by kernel_rfl) (fun _ _ _ h => h) (Or.inl ⟨by rfl, ?_⟩) ?_ ?_
          rotate_left
          · intro w'
            go_simp
            with_reducible rfl
          rotate_left
          · simp only [Act.put, List.setIfInBounds_toArray, List.set_cons_zero, List.set_cons_succ, i64_w, i32_w]
            rfl
          refine pure_ (i := 6) (N := some 48) (v := ?_) (a' := ?_) #[true, true, true, true, false, true, true, false, false, false, false, false, false, false, false, false, false, false, false] rfl rfl (by kernel_rfl) (fun _ _ _ h => h) (Or.inl ⟨by rfl, ?_⟩) ?_ ?_
          rotate_left
          · intro w'
            go_simp
            with_reducible rfl
          rotate_left
          · simp only [Act.put, List.setIfInBounds_toArray, List.set_cons_zero, List.set_cons_succ, i64_w, i32_w]
            rfl
          refine pure_ (i := 7) (N := some 49) (v := ?_) (a' := ?_) #[true, true, true, true, false, true, true, true, false, false, false, false, false, false, false, false, false, false, false] rfl rfl (by kernel_rfl) (fun _ _ _ h => h) (Or.inl ⟨by rfl, ?_⟩) ?_ ?_
          rotate_left
          · intro w'
            go_simp
            with_reducible rfl
          rotate_left
          · simp only [Act.put, List.setIfInBounds_toArray, List.set_cons_zero, List.set_cons_succ, i64_w, i32_w]
            rfl
          refine pure_ (i := 9) (N := some 51) (v := ?_) (a' := ?_) #[true, true, true, true, false, true, true, true, false, true, false, false, false, false, false, false, false, false, false] rfl rfl (by kernel_rfl) (fun _ _ _ h => h) (Or.inl ⟨by rfl, ?_⟩) ?_ ?_
          rotate_left
          · intro w'
            go_simp
            with_reducible rfl
          rotate_left
          · simp only [Act.put, List.setIfInBounds_toArray, List.set_cons_zero, List.set_cons_succ, i64_w, i32_w]
            rfl
          refine pure_ (i := 14) (N := some 56) (v := ?_) (a' := ?_) #[true, true, true, true, false, true, true, true, false, true, false, false, false, false, true, false, false, false, false] rfl rfl (by kernel_rfl) (fun _ _ _ h => h) (Or.inl ⟨by rfl, ?_⟩) ?_ ?_
          rotate_left
          · intro w'
            go_simp
            with_reducible rfl
          rotate_left
          · simp only [Act.put, List.setIfInBounds_toArray, List.set_cons_zero, List.set_cons_succ, i64_w, i32_w]
            rfl
          refine take_ (i := 4) (N := some 46) (v := ?_) (a' := ?_) #[true, true, true, true, true, true, true, true, false, true, false, false, false, false, true, false, false, false, false] rfl rfl (by kernel_rfl) (fun _ _ _ h => h) (Or.inl ⟨by rfl, ?_⟩) hHeld ?_ ?_
          rotate_left
          · rintro w' ⟨s0, s1, s2⟩
            go_simp
            with_reducible rfl
          rotate_left
          · simp only [Act.put, List.setIfInBounds_toArray, List.set_cons_zero, List.set_cons_succ, i64_w, i32_w]
            rfl
          refine take_ (i := 8) (N := some 50) (v := ?_) (a' := ?_) #[true, true, true, true, true, true, true, true, true, true, false, false, false, false, true, false, false, false, false] rfl rfl (by kernel_rfl) (fun _ _ _ h => h) (Or.inl ⟨by rfl, ?_⟩) hHeld ?_ ?_
          rotate_left
          · rintro w' ⟨s0, s1, s2⟩
            go_simp
            with_reducible rfl
          rotate_left
          · simp only [Act.put, List.setIfInBounds_toArray, List.set_cons_zero, List.set_cons_succ, i64_w, i32_w]
            rfl
          refine pure_ (i := 10) (N := some 52) (v := ?_) (a' := ?_) #[true, true, true, true, true, true, true, true, true, true, true, false, false, false, true, false, false, false, false] rfl rfl (by kernel_rfl) (fun _ _ _ h => h) (Or.inl ⟨by rfl, ?_⟩) ?_ ?_
          rotate_left
          · intro w'
            go_simp
            with_reducible rfl
          rotate_left
          · simp only [Act.put, List.setIfInBounds_toArray, List.set_cons_zero, List.set_cons_succ, i64_w, i32_w]
            rfl
          refine pure_ (i := 11) (N := some 53) (v := ?_) (a' := ?_) #[true, true, true, true, true, true, true, true, true, true, true, true, false, false, true, false, false, false, false] rfl rfl (by kernel_rfl) (fun _ _ _ h => h) (Or.inl ⟨by rfl, ?_⟩) ?_ ?_
          rotate_left
          · intro w'
            go_simp
            with_reducible rfl
          rotate_left
          · simp only [Act.put, List.setIfInBounds_toArray, List.set_cons_zero, List.set_cons_succ, i64_w, i32_w]
            rfl
          refine take_ (i := 12) (N := some 54) (v := ?_) (a' := ?_) #[true, true, true, true, true, true, true, true, true, true, true, true, true, false, true, false, false, false, false] rfl rfl (by kernel_rfl) (fun _ _ _ h => h) (Or.inl ⟨by rfl, ?_⟩) hHeld ?_ ?_
          rotate_left
          · rintro w' ⟨s0, s1, s2⟩
            go_simp
            with_reducible rfl
          rotate_left
          · simp only [Act.put, List.setIfInBounds_toArray, List.set_cons_zero, List.set_cons_succ, i64_w, i32_w]
            rfl
          refine pure_ (i := 13) (N := some 55) (v := ?_) (a' := ?_) #[true, true, true, true, true, true, true, true, true, true, true, true, true, true, true, false, false, false, false] rfl rfl (by kernel_rfl) (fun _ _ _ h => h) (Or.inl ⟨by rfl, ?_⟩) ?_ ?_
          rotate_left
          · intro w'
            go_simp
            with_reducible rfl
          rotate_left
          · simp only [Act.put, List.setIfInBounds_toArray, List.set_cons_zero, List.set_cons_succ, i64_w, i32_w]
            rfl
          refine last_ (i := 15) (N := some 57) #[true, true, true, true, true, true, true, true, true, true, true, true, true, true, true, true, false, false, false] rfl rfl (by kernel_rfl) (by decide) (fun K hK => ?_)
          refine goes_ Try.func43 (by kernel_rfl) rfl #[.slice A0 LB c0, .int .i64 (p : Int), .slice Ax k9 cx] (by rfl) rfl rfl (by (try simp only [List.map_toArray, List.map_cons, List.map_nil]); first | done | rfl) ?_
          refine (HLD.out _ HS.out HX.out).mono ?_
          rintro e w9 ⟨A9, m9, c9, rfl, hb9, hRm, hP⟩
          have hcz := hRm.c1
          have hfz := hRm.fz 1
          have HP := Aside0.mk hP
          clear hb9 hRm hP
          refine ⟨_, rfl, ?_⟩
          refine hK.out _ _ ?_
          clear hK K
          refine norm_ (a' := ?_) ?_ ?_
          rotate_left
          · show Act.put _ (some 57) _ = _
            simp only [Act.put, List.setIfInBounds_toArray, List.set_cons_zero, List.set_cons_succ, i64_w, i32_w]
            rfl
          refine pure_ (i := 16) (N := some 58) (v := ?_) (a' := ?_) #[true, true, true, true, true, true, true, true, true, true, true, true, true, true, true, true, true, false, false] rfl rfl (by kernel_rfl) (fun _ _ _ h => h) (Or.inl ⟨by rfl, ?_⟩) ?_ ?_
          rotate_left
          · intro w'
            go_simp
            with_reducible rfl
          rotate_left
          · simp only [Act.put, List.setIfInBounds_toArray, List.set_cons_zero, List.set_cons_succ, i64_w, i32_w]
            rfl
          refine pure_ (i := 17) (N := some 59) (v := ?_) (a' := ?_) #[true, true, true, true, true, true, true, true, true, true, true, true, true, true, true, true, true, true, false] rfl rfl (by kernel_rfl) (fun _ _ _ h => h) (Or.inl ⟨by rfl, ?_⟩) ?_ ?_
          rotate_left
          · intro w'
            go_simp
            with_reducible rfl
          rotate_left
          · simp only [Act.put, List.setIfInBounds_toArray, List.set_cons_zero, List.set_cons_succ, i64_w, i32_w]
            rfl
          refine last_ (i := 18) (N := none) #[true, true, true, true, true, true, true, true, true, true, true, true, true, true, true, true, true, true, true] rfl rfl (by kernel_rfl) (by decide) (fun K hK => ?_)
          refine Go.Proofs.YtenbcpjlbfojlaaW.PrintLast.skip_ (w1 := ?_) (by rfl) rfl ?_ ?_
          rotate_left
          · go_simp
            rfl
          refine hK.out _ _ ?_
          clear hK K
          refine done_ (by kernel_rfl) ?_
          go_wp2
          go_roundg (gk - 1)
          case measure => omega
          case rel =>
            obtain ⟨RS9, hS9, hT9⟩ := HP.out
            exact ⟨j + 1, by go_num, by omega, ⟨RS9, _, hS9, HT.out.trans (RT.trans HDr.out hT9)⟩⟩
        · have htb : ((j : Int) == torn) = false := beq_eq_false_iff_ne.mpr htn
          rw [if_neg htn] at hk9
          subst hk9
          clear htn
          go_upto_region 7 with fail
          generalize hk9 : 256 = k9 at HX0 HLD ⊢
          clear hk9
          refine start_ (n := 19) (S := fun w' => w'.cell? ⟨RB, 1, none⟩ = some (.slice A0 LB c0) ∧ w'.cell? ⟨RB, 2, none⟩ = some (.slice (some aw) n cw) ∧ w'.cell? (aw.add (j * 2)) = some (.int .i64 m)) (ds := [15, 18]) #[false, false, false, false, false, false, false, false, false, false, false, false, false, false, false, false, false, false, false] (by kernel_rfl) rfl rfl ⟨h1, h2, hx0⟩ (fun hHeld => ?_)
          have HSd := Aside0.mk (HS.out.below (below_drew1 (Below.refl _ _)))
          have HDr := Aside0.mk (RAfter_drew HS.out)
          clear HS
          have HS := HSd
          clear HSd
          have HX := Aside0.mk (Kd.C_drew HX0.out)
          generalize wr.drew = wD at hHeld HS HDr HX ⊢
          have HSB := Aside0.mk (Nat.le_trans HS.out.hB (Nat.le_of_lt HS.out.bl))
          clear HX0
          refine pure_ (i := 0) (N := some 42) (v := ?_) (a' := ?_) #[true, false, false, false, false, false, false, false, false, false, false, false, false, false, false, false, false, false, false] rfl rfl (by kernel_rfl) (fun _ _ _ h => h) (Or.inl ⟨by rfl, ?_⟩) ?_ ?_
          rotate_left
          · intro w'
            go_simp
            with_reducible rfl
          rotate_left
          · simp only [Act.put, List.setIfInBounds_toArray, List.set_cons_zero, List.set_cons_succ, i64_w, i32_w]
            rfl
          refine pure_ (i := 1) (N := some 43) (v := ?_) (a' := ?_) #[true, true, false, false, false, false, false, false, false, false, false, false, false, false, false, false, false, false, false] rfl rfl (by kernel_rfl) (fun _ _ _ h => h) (Or.inl ⟨by rfl, ?_⟩) ?_ ?_
          rotate_left
          · intro w'
            go_simp
            with_reducible rfl
          rotate_left
          · simp only [Act.put, List.setIfInBounds_toArray, List.set_cons_zero, List.set_cons_succ, i64_w, i32_w]
            rfl
          refine pure_ (i := 2) (N := some 44) (v := ?_) (a' := ?_) #[true, true, true, false, false, false, false, false, false, false, false, false, false, false, false, false, false, false, false] rfl rfl (by kernel_rfl) (fun _ _ _ h => h) (Or.inl ⟨by rfl, ?_⟩) ?_ ?_
          rotate_left
          · intro w'
            go_simp
            with_reducible rfl
          rotate_left
          · simp only [Act.put, List.setIfInBounds_toArray, List.set_cons_zero, List.set_cons_succ, i64_w, i32_w]
            rfl
          refine pure_ (i := 3) (N := some 45) (v := ?_) (a' := ?_) #[true, true, true, true, false, false, false, false, false, false, false, false, false, false, false, false, false, false, false] rfl rfl (by kernel_rfl) (fun _ _ _ h => h) (Or.inl ⟨by rfl, ?_⟩) ?_ ?_
          rotate_left
          · intro w'
            go_simp
            with_reducible rfl
          rotate_left
          · simp only [Act.put, List.setIfInBounds_toArray, List.set_cons_zero, List.set_cons_succ, i64_w, i32_w]
            rfl
          refine pure_ (i := 5) (N := some 47) (v := ?_) (a' := ?_) #[true, true, true, true, false, true, false, false, false, false, false, false, false, false, false, false, false, false, false] rfl rfl (by kernel_rfl) (fun _ _ _ h => h) (Or.inl ⟨by rfl, ?_⟩) ?_ ?_
          rotate_left
          · intro w'
            go_simp
            with_reducible rfl
          rotate_left
          · simp only [Act.put, List.setIfInBounds_toArray, List.set_cons_zero, List.set_cons_succ, i64_w, i32_w]
            rfl
          refine pure_ (i := 6) (N := some 48) (v := ?_) (a' := ?_) #[true, true, true, true, false, true, true, false, false, false, false, false, false, false, false, false, false, false, false] rfl rfl (by kernel_rfl) (fun _ _ _ h => h) (Or.inl ⟨by rfl, ?_⟩) ?_ ?_
          rotate_left
          · intro w'
            go_simp
            with_reducible rfl
          rotate_left
          · simp only [Act.put, List.setIfInBounds_toArray, List.set_cons_zero, List.set_cons_succ, i64_w, i32_w]
            rfl
          refine pure_ (i := 7) (N := some 49) (v := ?_) (a' := ?_) #[true, true, true, true, false, true, true, true, false, false, false, false, false, false, false, false, false, false, false] rfl rfl (by kernel_rfl) (fun _ _ _ h => h) (Or.inl ⟨by rfl, ?_⟩) ?_ ?_
          rotate_left
          · intro w'
            go_simp
            with_reducible rfl
          rotate_left
          · simp only [Act.put, List.setIfInBounds_toArray, List.set_cons_zero, List.set_cons_succ, i64_w, i32_w]
            rfl
          refine pure_ (i := 9) (N := some 51) (v := ?_) (a' := ?_) #[true, true, true, true, false, true, true, true, false, true, false, false, false, false, false, false, false, false, false] rfl rfl (by kernel_rfl) (fun _ _ _ h => h) (Or.inl ⟨by rfl, ?_⟩) ?_ ?_
          rotate_left
          · intro w'
            go_simp
            with_reducible rfl
          rotate_left
          · simp only [Act.put, List.setIfInBounds_toArray, List.set_cons_zero, List.set_cons_succ, i64_w, i32_w]
            rfl
          refine pure_ (i := 14) (N := some 56) (v := ?_) (a' := ?_) #[true, true, true, true, false, true, true, true, false, true, false, false, false, false, true, false, false, false, false] rfl rfl (by kernel_rfl) (fun _ _ _ h => h) (Or.inl ⟨by rfl, ?_⟩) ?_ ?_
          rotate_left
          · intro w'
            go_simp
            with_reducible rfl
          rotate_left
          · simp only [Act.put, List.setIfInBounds_toArray, List.set_cons_zero, List.set_cons_succ, i64_w, i32_w]
            rfl
          refine take_ (i := 4) (N := some 46) (v := ?_) (a' := ?_) #[true, true, true, true, true, true, true, true, false, true, false, false, false, false, true, false, false, false, false] rfl rfl (by kernel_rfl) (fun _ _ _ h => h) (Or.inl ⟨by rfl, ?_⟩) hHeld ?_ ?_
          rotate_left
          · rintro w' ⟨s0, s1, s2⟩
            go_simp
            with_reducible rfl
          rotate_left
          · simp only [Act.put, List.setIfInBounds_toArray, List.set_cons_zero, List.set_cons_succ, i64_w, i32_w]
            rfl
          refine take_ (i := 8) (N := some 50) (v := ?_) (a' := ?_) #[true, true, true, true, true, true, true, true, true, true, false, false, false, false, true, false, false, false, false] rfl rfl (by kernel_rfl) (fun _ _ _ h => h) (Or.inl ⟨by rfl, ?_⟩) hHeld ?_ ?_
          rotate_left
          · rintro w' ⟨s0, s1, s2⟩
            go_simp
            with_reducible rfl
          rotate_left
          · simp only [Act.put, List.setIfInBounds_toArray, List.set_cons_zero, List.set_cons_succ, i64_w, i32_w]
            rfl
          refine pure_ (i := 10) (N := some 52) (v := ?_) (a' := ?_) #[true, true, true, true, true, true, true, true, true, true, true, false, false, false, true, false, false, false, false] rfl rfl (by kernel_rfl) (fun _ _ _ h => h) (Or.inl ⟨by rfl, ?_⟩) ?_ ?_
          rotate_left
          · intro w'
            go_simp
            with_reducible rfl
          rotate_left
          · simp only [Act.put, List.setIfInBounds_toArray, List.set_cons_zero, List.set_cons_succ, i64_w, i32_w]
            rfl
          refine pure_ (i := 11) (N := some 53) (v := ?_) (a' := ?_) #[true, true, true, true, true, true, true, true, true, true, true, true, false, false, true, false, false, false, false] rfl rfl (by kernel_rfl) (fun _ _ _ h => h) (Or.inl ⟨by rfl, ?_⟩) ?_ ?_
          rotate_left
          · intro w'
            go_simp
            with_reducible rfl
          rotate_left
          · simp only [Act.put, List.setIfInBounds_toArray, List.set_cons_zero, List.set_cons_succ, i64_w, i32_w]
            rfl
          refine take_ (i := 12) (N := some 54) (v := ?_) (a' := ?_) #[true, true, true, true, true, true, true, true, true, true, true, true, true, false, true, false, false, false, false] rfl rfl (by kernel_rfl) (fun _ _ _ h => h) (Or.inl ⟨by rfl, ?_⟩) hHeld ?_ ?_
          rotate_left
          · rintro w' ⟨s0, s1, s2⟩
            go_simp
            with_reducible rfl
          rotate_left
          · simp only [Act.put, List.setIfInBounds_toArray, List.set_cons_zero, List.set_cons_succ, i64_w, i32_w]
            rfl
          refine pure_ (i := 13) (N := some 55) (v := ?_) (a' := ?_) #[true, true, true, true, true, true, true, true, true, true, true, true, true, true, true, false, false, false, false] rfl rfl (by kernel_rfl) (fun _ _ _ h => h) (Or.inl ⟨by rfl, ?_⟩) ?_ ?_
          rotate_left
          · intro w'
            go_simp
            with_reducible rfl
          rotate_left
          · simp only [Act.put, List.setIfInBounds_toArray, List.set_cons_zero, List.set_cons_succ, i64_w, i32_w]
            rfl
          refine last_ (i := 15) (N := some 57) #[true, true, true, true, true, true, true, true, true, true, true, true, true, true, true, true, false, false, false] rfl rfl (by kernel_rfl) (by decide) (fun K hK => ?_)
          refine goes_ Try.func43 (by kernel_rfl) rfl #[.slice A0 LB c0, .int .i64 (p : Int), .slice Ax k9 cx] (by rfl) rfl rfl (by (try simp only [List.map_toArray, List.map_cons, List.map_nil]); first | done | rfl) ?_
          refine (HLD.out _ HS.out HX.out).mono ?_
          rintro e w9 ⟨A9, m9, c9, rfl, hb9, hRm, hP⟩
          have hcz := hRm.c1
          have hfz := hRm.fz 1
          have HP := Aside0.mk hP
          clear hb9 hRm hP
          refine ⟨_, rfl, ?_⟩
          refine hK.out _ _ ?_
          clear hK K
          refine norm_ (a' := ?_) ?_ ?_
          rotate_left
          · show Act.put _ (some 57) _ = _
            simp only [Act.put, List.setIfInBounds_toArray, List.set_cons_zero, List.set_cons_succ, i64_w, i32_w]
            rfl
          refine pure_ (i := 16) (N := some 58) (v := ?_) (a' := ?_) #[true, true, true, true, true, true, true, true, true, true, true, true, true, true, true, true, true, false, false] rfl rfl (by kernel_rfl) (fun _ _ _ h => h) (Or.inl ⟨by rfl, ?_⟩) ?_ ?_
          rotate_left
          · intro w'
            go_simp
            with_reducible rfl
          rotate_left
          · simp only [Act.put, List.setIfInBounds_toArray, List.set_cons_zero, List.set_cons_succ, i64_w, i32_w]
            rfl
          refine pure_ (i := 17) (N := some 59) (v := ?_) (a' := ?_) #[true, true, true, true, true, true, true, true, true, true, true, true, true, true, true, true, true, true, false] rfl rfl (by kernel_rfl) (fun _ _ _ h => h) (Or.inl ⟨by rfl, ?_⟩) ?_ ?_
          rotate_left
          · intro w'
            go_simp
            with_reducible rfl
          rotate_left
          · simp only [Act.put, List.setIfInBounds_toArray, List.set_cons_zero, List.set_cons_succ, i64_w, i32_w]
            rfl
          refine last_ (i := 18) (N := none) #[true, true, true, true, true, true, true, true, true, true, true, true, true, true, true, true, true, true, true] rfl rfl (by kernel_rfl) (by decide) (fun K hK => ?_)
          refine Go.Proofs.YtenbcpjlbfojlaaW.PrintLast.skip_ (w1 := ?_) (by rfl) rfl ?_ ?_
          rotate_left
          · go_simp
            rfl
          refine hK.out _ _ ?_
          clear hK K
          refine done_ (by kernel_rfl) ?_
          go_wp2
          go_roundg (gk - 1)
          case measure => omega
          case rel =>
            obtain ⟨RS9, hS9, hT9⟩ := HP.out
            exact ⟨j + 1, by go_num, by omega, ⟨RS9, _, hS9, HT.out.trans (RT.trans HDr.out hT9)⟩⟩
      · rw [if_neg hc] at hka
        have HCm := Aside0.mk hc
        have HR2 := Aside0.mk (show crashed keep torn parts d.blocks (d.waits.take (j + 1)) = crashed keep torn parts d.blocks (d.waits.take j) from by
          rw [HTK.out, crashed_snoc, HJL.out]
          unfold crash1
          rw [if_neg HCm.out])
        clear hc hr hS hT
        go_wp2
        go_roundg (gk - 1)
        case measure => omega
        case rel => exact ⟨j + 1, by go_num, by omega, ⟨by rw [HR2.out]; exact HR.out⟩⟩
    · obtain rfl : j = n := by omega
      have hge : decide ((j : Int) < (j : Int)) = false := decide_eq_false (by omega)
      have hc2 := hS.c2
      have hf2 := hS.fz 2
      rw [show d.waits.take j = d.waits from by rw [HN.out, List.take_length]] at hS
      obtain ⟨RS5, hS5, hT5⟩ := hS.put2 (v4 := .slice none 0 0) (l := []) (Below.refl _ _) (Kd.R_nil kW 58 _ _ _)
      have HP := Aside0.mk (show RAfter base RB N (d.crash keep torn parts) RS w _ from ⟨RS5, _, _, _, _, hS5, hT.trans hT5⟩)
      clear hS hT hS5 hT5 HR
      go_wp2
      go_end0
      exact ⟨rfl, HP.out⟩
end
end Go.Proofs.Ytenbcpjlbfojlaa.DA
