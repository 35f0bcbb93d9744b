/- The document's Put. -/
import Derived.Test.YtenbcpjlbfojlaaEA
namespace Go.Proofs.Ytenbcpjlbfojlaa.DA
open Go.RowKit Go.Proofs.YtenbcpjlbfojlaaW.PrintWords Go.Proofs.YtenbcpjlbfojlaaW.PrintLast Go.Proofs.YtenbcpjlbfojlaaW.PrintMore Go.Proofs.Ytenbcpjlbfojlaa.PD
set_option linter.unusedVariables false
set_option linter.unusedSimpArgs false
section
variable {α : Type} {base RB N : Nat} {d : Dv} {RS RS' : Nat → Prop} {w w' w1 : World} {vb vw vs vt : Value}
theorem RAfter_drew (h : Rm base RB N d RS w vb vw vs vt) : (∀ k, RS k → RS k ∨ w.heap.size ≤ k) ∧ Kept w w.drew (fun k => k = RB) ∧ Below base w w.drew := ⟨fun _ h => .inl h, (Kept.refl _ _).drew, below_drew1 (Below.refl _ _)⟩
theorem own_new {v1 : Value} {w : World} (hat : v1.ownBlock = (Value.slice none 0 0).ownBlock ∨ ∃ b, v1.ownBlock = some b ∧ w.heap.size ≤ b) : ∀ k, v1.ownBlock = some k → w.heap.size ≤ k := fun k hk => by
  rcases hat with h9 | ⟨b9, h9, h8⟩
  · rw [h9] at hk; cases hk
  · rw [hk] at h9; injection h9 with h9; omega
theorem R_rows_at {k : Kd α} {e : Nat} {ok : Nat → Prop} {A : Option Addr} {n c : Nat} {xs : List α} (h : k.R e w base ok (.slice A n c) xs) : ReadsRow (k.M w base ok) k.sz w A xs.length xs := by
  obtain ⟨A', c', he, _, hr⟩ := R_rows h
  injection he with h1 h2 h3
  subst h1
  exact hr.imp_ (Below.refl _ _) (fun _ _ hp => k.M_mono (fun j hj => hj.1) hp)
set_option maxHeartbeats 8000000 in
theorem rput_calls (w : World) (h : Rm base RB N d RS w vb vw vs vt) (hN : Of d N) (hsl : d.shelf.length ≤ 16) :
    Calls Try.prog 36 #[.pointer (some ⟨RB, 0, none⟩)] w fun e w' => e = .returned (.tuple #[.int .i64 d.put.2.1, .int .i64 d.put.2.2]) ∧ RAfter base RB N d.put.1 RS w w' := by
  obtain ⟨As, cs, rfl⟩ := Kd.R_slice h.rs
  obtain ⟨Ab, cb, rfl⟩ := Kd.R_slice h.rb
  have h3 := h.c3
  have h1 := h.c1
  have HS := Aside0.mk h
  have HSL := Aside0.mk hsl
  have HBL := Aside0.mk (show d.blocks.length ≤ 1000000000 from by have := hN.1; have := hN.2.2; omega)
  unfold Dv.put
  obtain ⟨nS, hnS⟩ : ∃ nS, nS = d.shelf.length := ⟨_, rfl⟩
  obtain ⟨L, hL⟩ : ∃ L, L = d.blocks.length := ⟨_, rfl⟩
  rw [← hnS] at h3 ⊢
  rw [← hL] at h1
  have HNS := Aside0.mk hnS
  have HLB := Aside0.mk hL
  clear h hN hsl hL
  by_cases g : nS = 16
  · rw [if_pos g]
    have b1 : decide ((nS : Int) ≥ 16) = true := decide_eq_true (by omega)
    have b1' : decide (16 ≤ nS) = true := decide_eq_true (by omega)
    clear g hnS
    go_enter Try.func36, Try.ntmps36
    go_wp2
    go_ret2
    exact ⟨rfl, RAfter.same HS.out⟩
  · rw [if_neg g]
    have HG := Aside0.mk (show nS < 16 by have := HSL.out; have := HNS.out; omega)
    have b1 : decide ((nS : Int) ≥ 16) = false := decide_eq_false (by have := HG.out; omega)
    have b1' : decide (16 ≤ nS) = false := decide_eq_false (by have := HG.out; omega)
    clear g hnS
    go_enter Try.func36, Try.ntmps36
    go_upto_region 3 with fail
    refine start_ (n := 16) (S := fun w' => w'.cell? ⟨RB, 3, none⟩ = some (.slice As nS cs) ∧ w'.cell? ⟨RB, 1, none⟩ = some (.slice Ab L cb)) (ds := [15]) #[false, false, false, false, false, false, false, false, false, false, false, false, false, false, false, false] (by kernel_rfl) rfl rfl ⟨h3, h1⟩ (fun hHeld => ?_)
    have HSd := Aside0.mk (HS.out.below (below_drew1 (Below.refl _ _)))
    have HDr := Aside0.mk (RAfter_drew HS.out)
    clear HS
    have HS := HSd
    clear HSd
    generalize w.drew = wD at hHeld HS HDr ⊢
    have HSB := Aside0.mk (Nat.le_trans HS.out.hB (Nat.le_of_lt HS.out.bl))
    refine pure_ (i := 0) (N := some 10) (v := ?_) (a' := ?_) #[true, false, false, false, false, false, false, false, false, false, false, false, false, false, false, false] rfl rfl (by kernel_rfl) (fun _ _ _ h => h) (Or.inl ⟨by rfl, ?_⟩) ?_ ?_
    rotate_left
    · intro w'
      go_simp
      with_reducible rfl
    rotate_left
    · simp only [Act.put, List.setIfInBounds_toArray, List.set_cons_zero, List.set_cons_succ, i64_w, i32_w]
      rfl
    refine pure_ (i := 1) (N := some 11) (v := ?_) (a' := ?_) #[true, true, false, false, false, false, false, false, false, false, false, false, false, false, false, false] rfl rfl (by kernel_rfl) (fun _ _ _ h => h) (Or.inl ⟨by rfl, ?_⟩) ?_ ?_
    rotate_left
    · intro w'
      go_simp
      with_reducible rfl
    rotate_left
    · simp only [Act.put, List.setIfInBounds_toArray, List.set_cons_zero, List.set_cons_succ, i64_w, i32_w]
      rfl
    refine pure_ (i := 2) (N := some 12) (v := ?_) (a' := ?_) #[true, true, true, false, false, false, false, false, false, false, false, false, false, false, false, false] rfl rfl (by kernel_rfl) (fun _ _ _ h => h) (Or.inl ⟨by rfl, ?_⟩) ?_ ?_
    rotate_left
    · intro w'
      go_simp
      with_reducible rfl
    rotate_left
    · simp only [Act.put, List.setIfInBounds_toArray, List.set_cons_zero, List.set_cons_succ, i64_w, i32_w]
      rfl
    refine pure_ (i := 3) (N := some 13) (v := ?_) (a' := ?_) #[true, true, true, true, false, false, false, false, false, false, false, false, false, false, false, false] rfl rfl (by kernel_rfl) (fun _ _ _ h => h) (Or.inl ⟨by rfl, ?_⟩) ?_ ?_
    rotate_left
    · intro w'
      go_simp
      with_reducible rfl
    rotate_left
    · simp only [Act.put, List.setIfInBounds_toArray, List.set_cons_zero, List.set_cons_succ, i64_w, i32_w]
      rfl
    refine pure_ (i := 6) (N := some 16) (v := ?_) (a' := ?_) #[true, true, true, true, false, false, true, false, false, false, false, false, false, false, false, false] rfl rfl (by kernel_rfl) (fun _ _ _ h => h) (Or.inl ⟨by rfl, ?_⟩) ?_ ?_
    rotate_left
    · intro w'
      go_simp
      with_reducible rfl
    rotate_left
    · simp only [Act.put, List.setIfInBounds_toArray, List.set_cons_zero, List.set_cons_succ, i64_w, i32_w]
      rfl
    refine pure_ (i := 7) (N := some 17) (v := ?_) (a' := ?_) #[true, true, true, true, false, false, true, true, false, false, false, false, false, false, false, false] rfl rfl (by kernel_rfl) (fun _ _ _ h => h) (Or.inl ⟨by rfl, ?_⟩) ?_ ?_
    rotate_left
    · intro w'
      go_simp
      with_reducible rfl
    rotate_left
    · simp only [Act.put, List.setIfInBounds_toArray, List.set_cons_zero, List.set_cons_succ, i64_w, i32_w]
      rfl
    refine pure_ (i := 8) (N := some 18) (v := ?_) (a' := ?_) #[true, true, true, true, false, false, true, true, true, false, false, false, false, false, false, false] rfl rfl (by kernel_rfl) (fun _ _ _ h => h) (Or.inl ⟨by rfl, ?_⟩) ?_ ?_
    rotate_left
    · intro w'
      go_simp
      with_reducible rfl
    rotate_left
    · simp only [Act.put, List.setIfInBounds_toArray, List.set_cons_zero, List.set_cons_succ, i64_w, i32_w]
      rfl
    refine take_ (i := 4) (N := some 14) (v := ?_) (a' := ?_) #[true, true, true, true, true, false, true, true, true, false, false, false, false, false, false, false] rfl rfl (by kernel_rfl) (fun _ _ _ h => h) (Or.inl ⟨by rfl, ?_⟩) hHeld ?_ ?_
    rotate_left
    · rintro w' ⟨s0, s1⟩
      go_simp
      with_reducible rfl
    rotate_left
    · simp only [Act.put, List.setIfInBounds_toArray, List.set_cons_zero, List.set_cons_succ, i64_w, i32_w]
      rfl
    refine take_ (i := 9) (N := some 19) (v := ?_) (a' := ?_) #[true, true, true, true, true, false, true, true, true, true, false, false, false, false, false, false] rfl rfl (by kernel_rfl) (fun _ _ _ h => h) (Or.inl ⟨by rfl, ?_⟩) hHeld ?_ ?_
    rotate_left
    · rintro w' ⟨s0, s1⟩
      go_simp
      with_reducible rfl
    rotate_left
    · simp only [Act.put, List.setIfInBounds_toArray, List.set_cons_zero, List.set_cons_succ, i64_w, i32_w]
      rfl
    refine one_ (i := 5) (N := some 15) #[true, true, true, true, true, true, true, true, true, true, false, false, false, false, false, false] rfl rfl (by kernel_rfl) (by decide) (fun K hK => ?_)
    refine Kd.R_append_rows_step ks (w0 := wD) base (by rfl) (.const (.slice none 0 0)) (.tmp 14) 48 35 (.slice none 0 0) 24 rfl Try.underlying48 info35 rfl (by decide) (by decide) (.slice none 0 0) [] d.shelf As nS cs (RSok RS RB wD) (fun j => (RS j ∧ j ≠ RB)) rfl rfl (Kd.R_nil _ _ _ _ _) (by rw [HNS.out]; exact (R_rows_at HS.out.rs)) (fun x cs hx => hx) (fun k hk => ⟨.inl hk, fun h => by cases h⟩) (fun k hk => .inr hk) (Below.refl _ _) HSB.out (by have := HNS.out; have := HSL.out; simp only [List.length_nil]; omega) ?_
    intro v1 w1 ho1 hb1 hg1 hat1
    have HO1 := Aside0.mk ho1
    have HBB1 := Aside0.mk hb1
    have HB1 := Aside0.mk (below_new hg1)
    have HA1 := Aside0.mk (own_new hat1)
    have HS1 := Aside0.mk (HS.out.below HB1.out)
    clear ho1 hb1 hg1 hat1
    refine hK.out _ _ ⟨(HNS.out ▸ HS1.out.c3), (HLB.out ▸ HS1.out.c1)⟩ (fun hHeld => ?_)
    clear hK K
    refine norm_ (a' := ?_) ?_ ?_
    rotate_left
    · show Act.put _ (some 15) _ = _
      simp only [Act.put, List.setIfInBounds_toArray, List.set_cons_zero, List.set_cons_succ, i64_w, i32_w]
      rfl
    refine one_ (i := 10) (N := some 20) #[true, true, true, true, true, true, true, true, true, true, true, false, false, false, false, false] rfl rfl (by kernel_rfl) (by decide) (fun K hK => ?_)
    refine Kd.R_append_rows_step kb (w0 := w1) w1.heap.size (by rfl) (.const (.slice none 0 0)) (.tmp 19) 35 5 (.int .u8 0) 1 rfl Try.underlying35 info5 rfl (by decide) (by decide) (.slice none 0 0) [] d.blocks Ab L cb (fun _ => True) (fun _ => False) rfl rfl (Kd.R_nil _ _ _ _ _) (by rw [HLB.out]; exact (Kd.R_reads' HS1.out.rb).2.2) (fun x cs hx => hx) (fun _ h => h.elim) (fun _ _ => trivial) (Below.refl _ _) (Nat.le_refl _) (by have := HLB.out; have := HBL.out; simp only [List.length_nil]; omega) ?_
    intro v2 w2 ho2 hb2 hg2 hat2
    obtain ⟨A2, c2, e2⟩ := Kd.R_slice ho2
    rw [show ([] ++ d.blocks : List Int).length = L from by rw [List.nil_append]; exact HLB.out.symm] at e2
    rw [List.nil_append] at ho2
    subst e2
    have HO2 := Aside0.mk ho2
    have HB2 := Aside0.mk hb2
    have HS2 := Aside0.mk (HS1.out.below HB2.out)
    clear ho2 hb2 hg2 hat2
    refine hK.out _ _ ⟨(HNS.out ▸ HS2.out.c3), (HLB.out ▸ HS2.out.c1)⟩ (fun hHeld => ?_)
    clear hK K
    refine norm_ (a' := ?_) ?_ ?_
    rotate_left
    · show Act.put _ (some 20) _ = _
      simp only [Act.put, List.setIfInBounds_toArray, List.set_cons_zero, List.set_cons_succ, i64_w, i32_w]
      rfl
    refine one_ (i := 11) (N := some 21) #[true, true, true, true, true, true, true, true, true, true, true, true, false, false, false, false] rfl rfl (by kernel_rfl) (by decide) (fun K hK => ?_)
    refine value_ (w1 := ?_) (v := ?_) (by rfl) rfl ?_ ?_
    rotate_left 2
    · go_simp
      constructor
      · rfl
      · rfl
    refine hK.out _ _ ⟨(HNS.out ▸ (HS2.out.below ((Below.refl _ _).alloc (Nat.le_refl _) (.cells #[.slice A2 L c2] 35))).c3), (HLB.out ▸ (HS2.out.below ((Below.refl _ _).alloc (Nat.le_refl _) (.cells #[.slice A2 L c2] 35))).c1)⟩ (fun hHeld => ?_)
    clear hK K
    refine norm_ (a' := ?_) ?_ ?_
    rotate_left
    · show Act.put _ (some 21) _ = _
      simp only [Act.put, List.setIfInBounds_toArray, List.set_cons_zero, List.set_cons_succ, i64_w, i32_w]
      rfl
    refine one_ (i := 12) (N := some 22) #[true, true, true, true, true, true, true, true, true, true, true, true, true, false, false, false] rfl rfl (by kernel_rfl) (by decide) (fun K hK => ?_)
    refine Kd.R_append_step ks (w0 := wD) base (by rfl) (.tmp 15) (.tmp 21) 48 35 (.slice none 0 0) 24 rfl Try.underlying48 info35 rfl (by decide) (by decide) v1 ([] ++ d.shelf) d.blocks [.slice A2 L c2] (RSok RS RB wD) (fun k => w1.heap.size ≤ k) rfl rfl (ks_mkM (Kd.R_lower (Kd.R_mono (Kd.R_bound HO2.out) (fun k hk => hk.2.1)) (Nat.le_trans HSB.out HB1.out.size))) (fun k hk => ⟨.inr (Nat.le_trans HB1.out.size hk), fun he => by have := Kd.R_lt HO1.out k he.symm; omega⟩) (fun k hk => .inr (Nat.le_trans HB1.out.size (Nat.le_trans HB2.out.size hk))) (Kd.R_below HO1.out HB2.out) (HBB1.out.trans (HB2.out.mono (Nat.le_trans HSB.out HB1.out.size))) (Nat.le_trans HSB.out (Nat.le_trans HB1.out.size HB2.out.size)) (by have := HSL.out; simp only [List.nil_append]; omega) ?_
    intro v4 w4 ho4 hb4 hg4 hat4
    rw [List.nil_append] at ho4
    have hb9 := (below_step HB1.out HB2.out).grown hg4 (Nat.le_trans HB1.out.size HB2.out.size) HA1.out
    have HP := Aside0.mk (HS.out.put3 hb9 ho4)
    obtain ⟨A4, c4, rfl⟩ := Kd.R_slice ho4
    have hcz := (HS.out.below hb9).c3
    have hfz := (HS.out.below hb9).fz 3
    have HS4 := Aside0.mk (HS.out.below hb9)
    clear ho4 hb4 hg4 hat4 hb9
    have HL4 := Aside0.mk (show (d.shelf ++ [d.blocks]).length = d.shelf.length + 1 by simp)
    revert HP HL4
    generalize (d.shelf ++ [d.blocks]).length = n4
    intro HP HL4
    refine hK.out _ _ ⟨(HNS.out ▸ HS4.out.c3), (HLB.out ▸ HS4.out.c1)⟩ (fun hHeld => ?_)
    clear hK K
    refine norm_ (a' := ?_) ?_ ?_
    rotate_left
    · show Act.put _ (some 22) _ = _
      simp only [Act.put, List.setIfInBounds_toArray, List.set_cons_zero, List.set_cons_succ, i64_w, i32_w]
      rfl
    refine pure_ (i := 13) (N := some 23) (v := ?_) (a' := ?_) #[true, true, true, true, true, true, true, true, true, true, true, true, true, true, false, false] rfl rfl (by kernel_rfl) (fun _ _ _ h => h) (Or.inl ⟨by rfl, ?_⟩) ?_ ?_
    rotate_left
    · intro w'
      go_simp
      with_reducible rfl
    rotate_left
    · simp only [Act.put, List.setIfInBounds_toArray, List.set_cons_zero, List.set_cons_succ, i64_w, i32_w]
      rfl
    refine pure_ (i := 14) (N := some 24) (v := ?_) (a' := ?_) #[true, true, true, true, true, true, true, true, true, true, true, true, true, true, true, false] rfl rfl (by kernel_rfl) (fun _ _ _ h => h) (Or.inl ⟨by rfl, ?_⟩) ?_ ?_
    rotate_left
    · intro w'
      go_simp
      with_reducible rfl
    rotate_left
    · simp only [Act.put, List.setIfInBounds_toArray, List.set_cons_zero, List.set_cons_succ, i64_w, i32_w]
      rfl
    refine last_ (i := 15) (N := none) #[true, true, true, true, true, true, true, true, true, true, true, true, true, true, true, true] rfl rfl (by kernel_rfl) (by decide) (fun K hK => ?_)
    refine Go.Proofs.YtenbcpjlbfojlaaW.PrintLast.skip_ (w1 := ?_) (by rfl) rfl ?_ ?_
    rotate_left
    · go_simp
      rfl
    refine hK.out _ _ ?_
    clear hK K
    refine done_ (by kernel_rfl) ?_
    have hw1 : IntKind.i64.wrap ((n4 : Int) - 1) = (nS : Int) := by have := HL4.out; have := HNS.out; have := HG.out; rw [w64 _ (by omega) (by omega)]; omega
    obtain ⟨RS5, hS5, hA5⟩ := HP.out
    have h5 := hS5.c3
    clear hcz hfz
    have HP5 := Aside0.mk (RAfter.then_ HDr.out (RAfter.of ⟨RS5, hS5, hA5⟩))
    clear hS5 hA5 HP
    go_wp2
    go_ret2
    exact ⟨rfl, HP5.out⟩
end
end Go.Proofs.Ytenbcpjlbfojlaa.DA
