/- The document's Flush. -/
import Derived.Test.YtenbcpjlbfojlaaEB
namespace Go.Proofs.Ytenbcpjlbfojlaa.DA
open Go.RowKit Go.Proofs.YtenbcpjlbfojlaaW.PrintWords Go.Proofs.YtenbcpjlbfojlaaW.PrintLast Go.Proofs.YtenbcpjlbfojlaaW.PrintMore Go.Proofs.Ytenbcpjlbfojlaa.PD
set_option linter.unusedVariables false
set_option linter.unusedSimpArgs false
/-- What a step leaves of the rest. -/
def RT (base RB : Nat) (RS RS' : Nat → Prop) (w w' : World) : Prop := (∀ k, RS' k → RS k ∨ w.heap.size ≤ k) ∧ Kept w w' (fun k => k = RB) ∧ Below base w w'
section
variable {α : Type} {base RB N : Nat} {d : Dv} {RS RS' RS2 : Nat → Prop} {w w' w1 : World} {vb vw vs vt : Value}
theorem RT.refl : RT base RB RS RS w w := ⟨fun _ h => .inl h, Kept.refl _ _, Below.refl _ _⟩
theorem RT.trans (h1 : RT base RB RS RS' w w1) (h2 : RT base RB RS' RS2 w1 w') : RT base RB RS RS2 w w' := by
  obtain ⟨a1, a2, a3⟩ := h1
  obtain ⟨b1, b2, b3⟩ := h2
  refine ⟨fun k h => ?_, a2.then_ b2 (fun k h => .inl h), a3.trans b3⟩
  rcases b1 k h with h | h
  · exact a1 k h
  · exact .inr (Nat.le_trans a2.1 h)
/-- One laying, with its letters. -/
theorem laid_at {A0 : Option Addr} {c0 LB : Nat} (hL : LB ≤ 1000000000) (hLB : LB = d.blocks.length) (p : Nat) (Ax : Option Addr) (k9 cx : Nat) (l2 : List Int) (hk9 : k9 = l2.length) (hp : p + k9 ≤ LB) {l4 : List Int} (hl4 : l4 = splice d.blocks p l2) (W : World) (hS : Rm base RB N d RS W (.slice A0 LB c0) vw vs vt) (hX : Kd.C kb W Ax k9 l2) :
    Calls Try.prog 43 #[.slice A0 LB c0, .int .i64 (p : Int), .slice Ax k9 cx] W fun e w' => ∃ A m c, e = .returned (.slice A m c) ∧ Below W.heap.size W w' ∧ Rm base RB N d RS w' (.slice A0 LB c0) vw vs vt ∧
      ∃ RS', Rm base RB N ⟨l4, d.waits, d.shelf, d.trace⟩ RS' (w'.setCell ⟨RB, 1, none⟩ (.slice A m c)) (.slice A m c) vw vs vt ∧ RT base RB RS RS' W (w'.setCell ⟨RB, 1, none⟩ (.slice A m c)) := by
  subst hLB hk9 hl4
  exact laid_rm hS hL rfl p Ax cx l2 hX hp
set_option maxHeartbeats 8000000 in
set_option maxRecDepth 100000 in
theorem rflush_calls (w : World) (h : Rm base RB N d RS w vb vw vs vt) (hN : Wf d N) (hwl : d.waits.length ≤ 100000) (htl : d.trace.length ≤ 100000) :
    Calls Try.prog 33 #[.pointer (some ⟨RB, 0, none⟩)] w fun e w' => e = .returned (.int .i64 (d.waits.length : Int)) ∧ RAfter base RB N d.flush RS w w' := by
  obtain ⟨Aw, cw, rfl⟩ := Kd.R_slice h.rw
  have h2 := h.c2
  obtain ⟨n, hn⟩ : ∃ n, n = d.waits.length := ⟨_, rfl⟩
  rw [← hn] at h2 hwl ⊢
  have HN := Aside0.mk hn
  have HWF := Aside0.mk hN
  have HTL := Aside0.mk htl
  have HS0 := Aside0.mk (show ∃ RS1 vb1, Rm base RB N ⟨flushed d.blocks (d.waits.take 0), d.waits, d.shelf, d.trace⟩ RS1 w vb1 (.slice Aw n cw) vs vt ∧ RT base RB RS RS1 w w from ⟨RS, vb, hn ▸ h, RT.refl⟩)
  clear h hN htl hn
  go_enter Try.func33, Try.ntmps33
  go_wp2
  go_loopg [4] n (fun gk v4 w' => ∃ j : Nat, v4 = .int .i64 (j : Int) ∧ j + gk = n ∧ Aside0 (∃ RS1 vb1, Rm base RB N ⟨flushed d.blocks (d.waits.take j), d.waits, d.shelf, d.trace⟩ RS1 w' vb1 (.slice Aw n cw) vs vt ∧ RT base RB RS RS1 w w'))
  case atStart => exact ⟨0, rfl, by omega, HS0⟩
  case round =>
    clear HS0 h2
    obtain ⟨j, rfl, hjg, HR⟩ := hrel
    obtain ⟨RS1, vb1, hS, hT⟩ := HR.out
    clear HR
    by_cases hlt : j < n
    · have hi0 : (0 : Int) ≤ (j : Int) := by omega
      have hi1 : (j : Int) < (n : Int) := by omega
      have hi2 : decide ((j : Int) < (n : Int)) = true := decide_eq_true hi1
      have hil : j < d.waits.length := by rw [← HN.out]; exact hlt
      have HTK := Aside0.mk (wAt_take hil)
      have hwo := HWF.out.ws _ (wAt_mem hil)
      obtain ⟨aw, Ax, cx, hAw, hx0, hx1, hx2, hx3⟩ := at_W (Kd.R_reads' hS.rw).2.2 j hil
      subst hAw
      rw [hwo.2] at hx1 hx2 hx3
      generalize wAt d.waits j = x at hx0 hx1 hx3 HTK hwo
      obtain ⟨m, b⟩ := x
      simp only at hx0 hx1 hx3 hwo
      obtain ⟨p, hp⟩ : ∃ p : Nat, m * 256 = (p : Int) := ⟨(m * 256).toNat, by omega⟩
      have hw1 : IntKind.i64.wrap (m * 256) = (p : Int) := (w64 _ (by have := HWF.out.of.2.2; omega) (by have := HWF.out.of.2.2; omega)).trans hp
      have hfl : (flushed d.blocks (d.waits.take j)).length = N * 256 := flushed_len HWF.out.of.1 (fun y hy => HWF.out.ws y (List.mem_of_mem_take hy))
      have HFL := Aside0.mk (show flushed d.blocks (d.waits.take (j + 1)) = splice (flushed d.blocks (d.waits.take j)) p b from by
        rw [HTK.out, flushed_snoc, lay_all hwo.2]
        congr 1
        show m.toNat * 256 = p
        omega)
      obtain ⟨A0, c0, rfl⟩ := Kd.R_slice hS.rb
      have h1 := hS.c1
      have h2 := hS.c2
      have HX0 := Aside0.mk hx3
      simp only at h1
      obtain ⟨LB, hLB⟩ : ∃ LB, LB = (flushed d.blocks (d.waits.take j)).length := ⟨_, rfl⟩
      simp only at hS
      rw [← hLB] at h1 hS hfl
      have HLD := Aside0.mk (fun (W : World) (hS' : Rm base RB N ⟨flushed d.blocks (d.waits.take j), d.waits, d.shelf, d.trace⟩ RS1 W (.slice A0 LB c0) (.slice (some aw) n cw) vs vt) (hX : Kd.C kb W Ax 256 b) => laid_at (by have := HWF.out.of.2.2; omega) hLB p Ax 256 cx b hwo.2.symm (by omega) HFL.out W hS' hX)
      have HS := Aside0.mk hS
      have HT := Aside0.mk hT
      clear hS hT hx2 hx3 hwo hfl hLB hp
      go_upto_region 5 with fail
      refine start_ (n := 26) (S := fun w' => w'.cell? ⟨RB, 1, none⟩ = some (.slice A0 LB c0) ∧ w'.cell? ⟨RB, 2, none⟩ = some (.slice (some aw) n cw) ∧ w'.cell? (aw.add (j * 2)) = some (.int .i64 m) ∧ w'.cell? ⟨(aw.add (j * 2)).block, (aw.add (j * 2)).off + 1, none⟩ = some (.slice Ax 256 cx)) (ds := [22, 25]) #[false, false, false, false, false, false, false, false, false, false, false, false, false, false, false, false, false, false, false, false, false, false, false, false, false, false] (by kernel_rfl) rfl rfl ⟨h1, h2, hx0, hx1⟩ (fun hHeld => ?_)
      have HSd := Aside0.mk (HS.out.below (below_drew1 (Below.refl _ _)))
      have HDr := Aside0.mk (RAfter_drew HS.out)
      clear HS
      have HS := HSd
      clear HSd
      have HX := Aside0.mk (Kd.C_drew HX0.out)
      generalize wr.drew = wD at hHeld HS HDr HX ⊢
      have HSB := Aside0.mk (Nat.le_trans HS.out.hB (Nat.le_of_lt HS.out.bl))
      clear HX0
      refine pure_ (i := 0) (N := some 15) (v := ?_) (a' := ?_) #[true, false, false, false, false, false, false, false, false, false, false, false, false, false, false, false, false, false, false, false, false, false, false, false, false, false] rfl rfl (by kernel_rfl) (fun _ _ _ h => h) (Or.inl ⟨by rfl, ?_⟩) ?_ ?_
      rotate_left
      · intro w'
        go_simp
        with_reducible rfl
      rotate_left
      · simp only [Act.put, List.setIfInBounds_toArray, List.set_cons_zero, List.set_cons_succ, i64_w, i32_w]
        rfl
      refine pure_ (i := 1) (N := some 16) (v := ?_) (a' := ?_) #[true, true, false, false, false, false, false, false, false, false, false, false, false, false, false, false, false, false, false, false, false, false, false, false, false, false] rfl rfl (by kernel_rfl) (fun _ _ _ h => h) (Or.inl ⟨by rfl, ?_⟩) ?_ ?_
      rotate_left
      · intro w'
        go_simp
        with_reducible rfl
      rotate_left
      · simp only [Act.put, List.setIfInBounds_toArray, List.set_cons_zero, List.set_cons_succ, i64_w, i32_w]
        rfl
      refine pure_ (i := 2) (N := some 17) (v := ?_) (a' := ?_) #[true, true, true, false, false, false, false, false, false, false, false, false, false, false, false, false, false, false, false, false, false, false, false, false, false, false] rfl rfl (by kernel_rfl) (fun _ _ _ h => h) (Or.inl ⟨by rfl, ?_⟩) ?_ ?_
      rotate_left
      · intro w'
        go_simp
        with_reducible rfl
      rotate_left
      · simp only [Act.put, List.setIfInBounds_toArray, List.set_cons_zero, List.set_cons_succ, i64_w, i32_w]
        rfl
      refine pure_ (i := 3) (N := some 18) (v := ?_) (a' := ?_) #[true, true, true, true, false, false, false, false, false, false, false, false, false, false, false, false, false, false, false, false, false, false, false, false, false, false] rfl rfl (by kernel_rfl) (fun _ _ _ h => h) (Or.inl ⟨by rfl, ?_⟩) ?_ ?_
      rotate_left
      · intro w'
        go_simp
        with_reducible rfl
      rotate_left
      · simp only [Act.put, List.setIfInBounds_toArray, List.set_cons_zero, List.set_cons_succ, i64_w, i32_w]
        rfl
      refine pure_ (i := 5) (N := some 20) (v := ?_) (a' := ?_) #[true, true, true, true, false, true, false, false, false, false, false, false, false, false, false, false, false, false, false, false, false, false, false, false, false, false] rfl rfl (by kernel_rfl) (fun _ _ _ h => h) (Or.inl ⟨by rfl, ?_⟩) ?_ ?_
      rotate_left
      · intro w'
        go_simp
        with_reducible rfl
      rotate_left
      · simp only [Act.put, List.setIfInBounds_toArray, List.set_cons_zero, List.set_cons_succ, i64_w, i32_w]
        rfl
      refine pure_ (i := 6) (N := some 21) (v := ?_) (a' := ?_) #[true, true, true, true, false, true, true, false, false, false, false, false, false, false, false, false, false, false, false, false, false, false, false, false, false, false] rfl rfl (by kernel_rfl) (fun _ _ _ h => h) (Or.inl ⟨by rfl, ?_⟩) ?_ ?_
      rotate_left
      · intro w'
        go_simp
        with_reducible rfl
      rotate_left
      · simp only [Act.put, List.setIfInBounds_toArray, List.set_cons_zero, List.set_cons_succ, i64_w, i32_w]
        rfl
      refine pure_ (i := 7) (N := some 22) (v := ?_) (a' := ?_) #[true, true, true, true, false, true, true, true, false, false, false, false, false, false, false, false, false, false, false, false, false, false, false, false, false, false] rfl rfl (by kernel_rfl) (fun _ _ _ h => h) (Or.inl ⟨by rfl, ?_⟩) ?_ ?_
      rotate_left
      · intro w'
        go_simp
        with_reducible rfl
      rotate_left
      · simp only [Act.put, List.setIfInBounds_toArray, List.set_cons_zero, List.set_cons_succ, i64_w, i32_w]
        rfl
      refine pure_ (i := 9) (N := some 24) (v := ?_) (a' := ?_) #[true, true, true, true, false, true, true, true, false, true, false, false, false, false, false, false, false, false, false, false, false, false, false, false, false, false] rfl rfl (by kernel_rfl) (fun _ _ _ h => h) (Or.inl ⟨by rfl, ?_⟩) ?_ ?_
      rotate_left
      · intro w'
        go_simp
        with_reducible rfl
      rotate_left
      · simp only [Act.put, List.setIfInBounds_toArray, List.set_cons_zero, List.set_cons_succ, i64_w, i32_w]
        rfl
      refine pure_ (i := 14) (N := some 29) (v := ?_) (a' := ?_) #[true, true, true, true, false, true, true, true, false, true, false, false, false, false, true, false, false, false, false, false, false, false, false, false, false, false] rfl rfl (by kernel_rfl) (fun _ _ _ h => h) (Or.inl ⟨by rfl, ?_⟩) ?_ ?_
      rotate_left
      · intro w'
        go_simp
        with_reducible rfl
      rotate_left
      · simp only [Act.put, List.setIfInBounds_toArray, List.set_cons_zero, List.set_cons_succ, i64_w, i32_w]
        rfl
      refine pure_ (i := 15) (N := some 30) (v := ?_) (a' := ?_) #[true, true, true, true, false, true, true, true, false, true, false, false, false, false, true, true, false, false, false, false, false, false, false, false, false, false] rfl rfl (by kernel_rfl) (fun _ _ _ h => h) (Or.inl ⟨by rfl, ?_⟩) ?_ ?_
      rotate_left
      · intro w'
        go_simp
        with_reducible rfl
      rotate_left
      · simp only [Act.put, List.setIfInBounds_toArray, List.set_cons_zero, List.set_cons_succ, i64_w, i32_w]
        rfl
      refine pure_ (i := 16) (N := some 31) (v := ?_) (a' := ?_) #[true, true, true, true, false, true, true, true, false, true, false, false, false, false, true, true, true, false, false, false, false, false, false, false, false, false] rfl rfl (by kernel_rfl) (fun _ _ _ h => h) (Or.inl ⟨by rfl, ?_⟩) ?_ ?_
      rotate_left
      · intro w'
        go_simp
        with_reducible rfl
      rotate_left
      · simp only [Act.put, List.setIfInBounds_toArray, List.set_cons_zero, List.set_cons_succ, i64_w, i32_w]
        rfl
      refine pure_ (i := 18) (N := some 33) (v := ?_) (a' := ?_) #[true, true, true, true, false, true, true, true, false, true, false, false, false, false, true, true, true, false, true, false, false, false, false, false, false, false] rfl rfl (by kernel_rfl) (fun _ _ _ h => h) (Or.inl ⟨by rfl, ?_⟩) ?_ ?_
      rotate_left
      · intro w'
        go_simp
        with_reducible rfl
      rotate_left
      · simp only [Act.put, List.setIfInBounds_toArray, List.set_cons_zero, List.set_cons_succ, i64_w, i32_w]
        rfl
      refine take_ (i := 4) (N := some 19) (v := ?_) (a' := ?_) #[true, true, true, true, true, true, true, true, false, true, false, false, false, false, true, true, true, false, true, false, false, false, false, false, false, false] rfl rfl (by kernel_rfl) (fun _ _ _ h => h) (Or.inl ⟨by rfl, ?_⟩) hHeld ?_ ?_
      rotate_left
      · rintro w' ⟨s0, s1, s2, s3⟩
        go_simp
        with_reducible rfl
      rotate_left
      · simp only [Act.put, List.setIfInBounds_toArray, List.set_cons_zero, List.set_cons_succ, i64_w, i32_w]
        rfl
      refine take_ (i := 8) (N := some 23) (v := ?_) (a' := ?_) #[true, true, true, true, true, true, true, true, true, true, false, false, false, false, true, true, true, false, true, false, false, false, false, false, false, false] rfl rfl (by kernel_rfl) (fun _ _ _ h => h) (Or.inl ⟨by rfl, ?_⟩) hHeld ?_ ?_
      rotate_left
      · rintro w' ⟨s0, s1, s2, s3⟩
        go_simp
        with_reducible rfl
      rotate_left
      · simp only [Act.put, List.setIfInBounds_toArray, List.set_cons_zero, List.set_cons_succ, i64_w, i32_w]
        rfl
      refine pure_ (i := 10) (N := some 25) (v := ?_) (a' := ?_) #[true, true, true, true, true, true, true, true, true, true, true, false, false, false, true, true, true, false, true, false, false, false, false, false, false, false] rfl rfl (by kernel_rfl) (fun _ _ _ h => h) (Or.inl ⟨by rfl, ?_⟩) ?_ ?_
      rotate_left
      · intro w'
        go_simp
        with_reducible rfl
      rotate_left
      · simp only [Act.put, List.setIfInBounds_toArray, List.set_cons_zero, List.set_cons_succ, i64_w, i32_w]
        rfl
      refine pure_ (i := 11) (N := some 26) (v := ?_) (a' := ?_) #[true, true, true, true, true, true, true, true, true, true, true, true, false, false, true, true, true, false, true, false, false, false, false, false, false, false] rfl rfl (by kernel_rfl) (fun _ _ _ h => h) (Or.inl ⟨by rfl, ?_⟩) ?_ ?_
      rotate_left
      · intro w'
        go_simp
        with_reducible rfl
      rotate_left
      · simp only [Act.put, List.setIfInBounds_toArray, List.set_cons_zero, List.set_cons_succ, i64_w, i32_w]
        rfl
      refine take_ (i := 12) (N := some 27) (v := ?_) (a' := ?_) #[true, true, true, true, true, true, true, true, true, true, true, true, true, false, true, true, true, false, true, false, false, false, false, false, false, false] rfl rfl (by kernel_rfl) (fun _ _ _ h => h) (Or.inl ⟨by rfl, ?_⟩) hHeld ?_ ?_
      rotate_left
      · rintro w' ⟨s0, s1, s2, s3⟩
        go_simp
        with_reducible rfl
      rotate_left
      · simp only [Act.put, List.setIfInBounds_toArray, List.set_cons_zero, List.set_cons_succ, i64_w, i32_w]
        rfl
      refine pure_ (i := 13) (N := some 28) (v := ?_) (a' := ?_) #[true, true, true, true, true, true, true, true, true, true, true, true, true, true, true, true, true, false, true, false, false, false, false, false, false, false] rfl rfl (by kernel_rfl) (fun _ _ _ h => h) (Or.inl ⟨by rfl, ?_⟩) ?_ ?_
      rotate_left
      · intro w'
        go_simp
        with_reducible rfl
      rotate_left
      · simp only [Act.put, List.setIfInBounds_toArray, List.set_cons_zero, List.set_cons_succ, i64_w, i32_w]
        rfl
      refine take_ (i := 17) (N := some 32) (v := ?_) (a' := ?_) #[true, true, true, true, true, true, true, true, true, true, true, true, true, true, true, true, true, true, true, false, false, false, false, false, false, false] rfl rfl (by kernel_rfl) (fun _ _ _ h => h) (Or.inl ⟨by rfl, ?_⟩) hHeld ?_ ?_
      rotate_left
      · rintro w' ⟨s0, s1, s2, s3⟩
        go_simp
        with_reducible rfl
      rotate_left
      · simp only [Act.put, List.setIfInBounds_toArray, List.set_cons_zero, List.set_cons_succ, i64_w, i32_w]
        rfl
      refine pure_ (i := 19) (N := some 34) (v := ?_) (a' := ?_) #[true, true, true, true, true, true, true, true, true, true, true, true, true, true, true, true, true, true, true, true, false, false, false, false, false, false] rfl rfl (by kernel_rfl) (fun _ _ _ h => h) (Or.inl ⟨by rfl, ?_⟩) ?_ ?_
      rotate_left
      · intro w'
        go_simp
        with_reducible rfl
      rotate_left
      · simp only [Act.put, List.setIfInBounds_toArray, List.set_cons_zero, List.set_cons_succ, i64_w, i32_w]
        rfl
      refine pure_ (i := 20) (N := some 35) (v := ?_) (a' := ?_) #[true, true, true, true, true, true, true, true, true, true, true, true, true, true, true, true, true, true, true, true, true, false, false, false, false, false] rfl rfl (by kernel_rfl) (fun _ _ _ h => h) (Or.inl ⟨by rfl, ?_⟩) ?_ ?_
      rotate_left
      · intro w'
        go_simp
        with_reducible rfl
      rotate_left
      · simp only [Act.put, List.setIfInBounds_toArray, List.set_cons_zero, List.set_cons_succ, i64_w, i32_w]
        rfl
      refine take_ (i := 21) (N := some 36) (v := ?_) (a' := ?_) #[true, true, true, true, true, true, true, true, true, true, true, true, true, true, true, true, true, true, true, true, true, true, false, false, false, false] rfl rfl (by kernel_rfl) (fun _ _ _ h => h) (Or.inl ⟨by rfl, ?_⟩) hHeld ?_ ?_
      rotate_left
      · rintro w' ⟨s0, s1, s2, s3⟩
        go_simp
        with_reducible rfl
      rotate_left
      · simp only [Act.put, List.setIfInBounds_toArray, List.set_cons_zero, List.set_cons_succ, i64_w, i32_w]
        rfl
      refine last_ (i := 22) (N := some 37) #[true, true, true, true, true, true, true, true, true, true, true, true, true, true, true, true, true, true, true, true, true, true, true, false, false, false] rfl rfl (by kernel_rfl) (by decide) (fun K hK => ?_)
      refine goes_ Try.func43 (by kernel_rfl) rfl #[.slice A0 LB c0, .int .i64 (p : Int), .slice Ax 256 cx] (by rfl) rfl rfl (by (try simp only [List.map_toArray, List.map_cons, List.map_nil]); first | done | rfl) ?_
      refine (HLD.out _ HS.out HX.out).mono ?_
      rintro e w9 ⟨A9, m9, c9, rfl, hb9, hRm, hP⟩
      have hcz := hRm.c1
      have hfz := hRm.fz 1
      have HP := Aside0.mk hP
      clear hb9 hRm hP
      refine ⟨_, rfl, ?_⟩
      refine hK.out _ _ ?_
      clear hK K
      refine norm_ (a' := ?_) ?_ ?_
      rotate_left
      · show Act.put _ (some 37) _ = _
        simp only [Act.put, List.setIfInBounds_toArray, List.set_cons_zero, List.set_cons_succ, i64_w, i32_w]
        rfl
      refine pure_ (i := 23) (N := some 38) (v := ?_) (a' := ?_) #[true, true, true, true, true, true, true, true, true, true, true, true, true, true, true, true, true, true, true, true, true, true, true, true, false, false] rfl rfl (by kernel_rfl) (fun _ _ _ h => h) (Or.inl ⟨by rfl, ?_⟩) ?_ ?_
      rotate_left
      · intro w'
        go_simp
        with_reducible rfl
      rotate_left
      · simp only [Act.put, List.setIfInBounds_toArray, List.set_cons_zero, List.set_cons_succ, i64_w, i32_w]
        rfl
      refine pure_ (i := 24) (N := some 39) (v := ?_) (a' := ?_) #[true, true, true, true, true, true, true, true, true, true, true, true, true, true, true, true, true, true, true, true, true, true, true, true, true, false] rfl rfl (by kernel_rfl) (fun _ _ _ h => h) (Or.inl ⟨by rfl, ?_⟩) ?_ ?_
      rotate_left
      · intro w'
        go_simp
        with_reducible rfl
      rotate_left
      · simp only [Act.put, List.setIfInBounds_toArray, List.set_cons_zero, List.set_cons_succ, i64_w, i32_w]
        rfl
      refine last_ (i := 25) (N := none) #[true, true, true, true, true, true, true, true, true, true, true, true, true, true, true, true, true, true, true, true, true, true, true, true, true, true] rfl rfl (by kernel_rfl) (by decide) (fun K hK => ?_)
      refine Go.Proofs.YtenbcpjlbfojlaaW.PrintLast.skip_ (w1 := ?_) (by rfl) rfl ?_ ?_
      rotate_left
      · go_simp
        rfl
      refine hK.out _ _ ?_
      clear hK K
      refine done_ (by kernel_rfl) ?_
      go_wp2
      go_roundg (gk - 1)
      case measure => omega
      case rel =>
        obtain ⟨RS9, hS9, hT9⟩ := HP.out
        exact ⟨j + 1, by go_num, by omega, ⟨RS9, _, hS9, HT.out.trans (RT.trans HDr.out hT9)⟩⟩
    · obtain rfl : j = n := by omega
      have hge : decide ((j : Int) < (j : Int)) = false := decide_eq_false (by omega)
      have hc2 := hS.c2
      have hf2 := hS.fz 2
      rw [show d.waits.take j = d.waits from by rw [HN.out, List.take_length]] at hS
      obtain ⟨RS5, hS5, hT5⟩ := hS.put2 (v4 := .slice none 0 0) (l := []) (Below.refl _ _) (Kd.R_nil kW 58 _ _ _)
      have HT5 := Aside0.mk (hT.trans hT5)
      have HS5 := Aside0.mk hS5
      clear hS hT hS5 hT5
      go_upto_region 7 with fail
      generalize wr.setCell ⟨RB, 2, none⟩ (.slice none 0 0) = w5 at HT5 HS5 ⊢
      clear hc2 hf2
      obtain ⟨At, ct, hvt⟩ := Kd.R_slice HS5.out.rt
      have h4 := HS5.out.c4
      rw [hvt] at h4
      have HRT := Aside0.mk (Kd.R_reads' (hvt ▸ HS5.out.rt))
      obtain ⟨nT, hnT⟩ : ∃ nT, nT = d.trace.length := ⟨_, rfl⟩
      simp only at h4
      rw [← hnT] at h4
      have HNT := Aside0.mk hnT
      clear hnT hvt
      go_wp2_with (first
        | (at_builtin; refine Kd.R_append_rows ki (w0 := w5) w5.heap.size rfl (.const (.slice none 0 0)) (.tmp 47) 44 3 (.int .i64 0) 8 rfl Try.underlying44 info3 rfl (by decide) (by decide) (.slice none 0 0) [] d.trace At nT ct (fun _ => True) (fun _ => False) rfl rfl (Kd.R_nil _ _ _ _ _) (by rw [HNT.out]; exact HRT.out.2.2) (fun x cs hx => hx) (fun _ h => h.elim) (fun _ _ => trivial) (Below.refl _ _) (Nat.le_refl _) (by have := HNT.out; have := HTL.out; simp only [List.length_nil]; omega) ?_; intro v6 w6 ho6 hb6 hg6 hat6; have HO6 := Aside0.mk ho6; have HB6 := Aside0.mk hb6; clear ho6 hb6 hg6 hat6)
        | (at_builtin; refine Kd.R_append ki (w0 := w5) w5.heap.size rfl (.tmp 48) (.tmp 49) 44 3 (.int .i64 0) 8 rfl Try.underlying44 info3 rfl (by decide) (by decide) v6 ([] ++ d.trace) (-1) [.int .i64 (-1)] (fun _ => True) (fun _ => False) rfl rfl rfl (fun _ h => h.elim) (fun _ _ => trivial) HO6.out HB6.out HB6.out.size (by have := HTL.out; simp only [List.nil_append]; omega) ?_; intro v7 w7 ho7 hb7 hg7 hat7; rw [List.nil_append] at ho7; have HP := Aside0.mk (HS5.out.put4 hb7 (fresh_ok ho7 (Nat.le_trans HS5.out.hB (Nat.le_of_lt HS5.out.bl)))); obtain ⟨A7, c7, rfl⟩ := Kd.R_slice ho7; have hcz := (HS5.out.below hb7).c4; have hfz := (HS5.out.below hb7).fz 4; clear ho7 hb7 hg7 hat7; generalize (d.trace ++ [-1]).length = m7 at HP ⊢))
      go_ret
      exact ⟨rfl, RAfter.then_ HT5.out (RAfter.of HP.out)⟩
end
end Go.Proofs.Ytenbcpjlbfojlaa.DA
