/- Put. -/
import Derived.Test.YtenbcpjlbfojlaaDI
namespace Go.Proofs.Ytenbcpjlbfojlaa.DA
open Go.RowKit Go.Proofs.YtenbcpjlbfojlaaW.PrintWords Go.Proofs.YtenbcpjlbfojlaaW.PrintLast Go.Proofs.YtenbcpjlbfojlaaW.PrintMore Go.Proofs.Ytenbcpjlbfojlaa.PD
set_option linter.unusedVariables false
set_option linter.unusedSimpArgs false
def Dv.put (d : Dv) : Dv × Int × Int := if d.shelf.length = 16 then (d, 0, 5) else (⟨d.blocks, d.waits, d.shelf ++ [d.blocks], d.trace⟩, d.shelf.length, 0)
section
variable {α : Type} {base B N : Nat} {d : Dv} {col col' : Nat → Nat} {w w' w1 : World} {vb vw vs vt : Value}
set_option maxHeartbeats 8000000 in
theorem put_calls (w : World) (h : Sd base B d col w vb vw vs vt) (hN : Of d N) (hs : d.shelf.length ≤ 16) :
    Calls Try.prog 23 #[.pointer (some ⟨B, 0, none⟩)] w fun e w' => e = .returned (.tuple #[.int .i64 d.put.2.1, .int .i64 d.put.2.2]) ∧ SAfter base B d.put.1 col w w' := by
  have hz : ((N : Int) == 0) = false := beq_eq_false_iff_ne.mpr (by have := hN.2.1; omega)
  have HL := Aside0.mk (len_calls w h hN)
  have HBL := Aside0.mk (show d.blocks.length ≤ 1000000000 by have := hN.1; have := hN.2.2; omega)
  obtain ⟨As, cs, rfl⟩ := Kd.R_slice h.rs
  obtain ⟨Ab, cb, rfl⟩ := Kd.R_slice h.rb
  have h0 := h.c0
  have h2 := h.c2
  have HS := Aside0.mk h
  unfold Dv.put
  by_cases hl : d.shelf.length = 16
  · rw [if_pos hl]
    rw [hl] at h2
    clear h hN hs hl
    go_enter Try.func23, Try.ntmps23
    go_wp2_with (go_at_call 19; refine HL.out.mono ?_; rintro e w2 ⟨rfl, rfl⟩)
    go_ret2
    exact ⟨rfl, SAfter.same HS.out⟩
  · rw [if_neg hl]
    have HS16 := Aside0.mk hs
    have hb : ((d.shelf.length : Int) == 16) = false := beq_eq_false_iff_ne.mpr (by omega)
    have HSL := Aside0.mk (show (d.shelf.length + 1) * 24 ≤ 140737488355328 by omega)
    obtain ⟨vs, hvs⟩ : ∃ vs, vs = Value.slice As d.shelf.length cs := ⟨_, rfl⟩
    clear h hN hs hl
    go_enter Try.func23, Try.ntmps23
    go_upto_region 5 with (go_at_call 19; refine HL.out.mono ?_; rintro e w2 ⟨rfl, rfl⟩)
    rw [← hvs] at h2 HS
    clear hvs
    refine start_ (n := 15) (S := fun w' => w'.cell? ⟨B, 2, none⟩ = some vs ∧ w'.cell? ⟨B, 0, none⟩ = some (.slice Ab d.blocks.length cb)) (ds := [11, 14]) #[false, false, false, false, false, false, false, false, false, false, false, false, false, false, false] (by kernel_rfl) rfl rfl ⟨h2, h0⟩ (fun hHeld => ?_)
    have HSd := Aside0.mk HS.out.drew
    have HAl := Aside0.mk (show (∀ k, col k ≠ 0 → col k ≠ 0 ∨ w.heap.size ≤ k) ∧ Kept w w.drew (fun k => col k ≠ 0) ∧ Below base w w.drew from ⟨fun _ h => .inl h, (Kept.refl _ _).drew, below_drew1 (Below.refl _ _)⟩)
    clear HS
    have HS := HSd
    clear HSd
    generalize w.drew = wD at hHeld HS HAl ⊢
    have HBD := Aside0.mk (show base ≤ wD.heap.size from Nat.le_trans HS.out.hB (Nat.le_of_lt HS.out.bl))
    refine pure_ (i := 0) (N := some 15) (v := ?_) (a' := ?_) #[true, false, false, false, false, false, false, false, false, false, false, false, false, false, false] rfl rfl (by kernel_rfl) (fun _ _ _ h => h) (Or.inl ⟨by rfl, ?_⟩) ?_ ?_
    rotate_left
    · intro w'
      go_simp
      with_reducible rfl
    rotate_left
    · simp only [Act.put, List.setIfInBounds_toArray, List.set_cons_zero, List.set_cons_succ, i64_w, i32_w]
      rfl
    refine pure_ (i := 1) (N := some 16) (v := ?_) (a' := ?_) #[true, true, false, false, false, false, false, false, false, false, false, false, false, false, false] rfl rfl (by kernel_rfl) (fun _ _ _ h => h) (Or.inl ⟨by rfl, ?_⟩) ?_ ?_
    rotate_left
    · intro w'
      go_simp
      with_reducible rfl
    rotate_left
    · simp only [Act.put, List.setIfInBounds_toArray, List.set_cons_zero, List.set_cons_succ, i64_w, i32_w]
      rfl
    refine pure_ (i := 2) (N := some 17) (v := ?_) (a' := ?_) #[true, true, true, false, false, false, false, false, false, false, false, false, false, false, false] rfl rfl (by kernel_rfl) (fun _ _ _ h => h) (Or.inl ⟨by rfl, ?_⟩) ?_ ?_
    rotate_left
    · intro w'
      go_simp
      with_reducible rfl
    rotate_left
    · simp only [Act.put, List.setIfInBounds_toArray, List.set_cons_zero, List.set_cons_succ, i64_w, i32_w]
      rfl
    refine pure_ (i := 3) (N := some 18) (v := ?_) (a' := ?_) #[true, true, true, true, false, false, false, false, false, false, false, false, false, false, false] rfl rfl (by kernel_rfl) (fun _ _ _ h => h) (Or.inl ⟨by rfl, ?_⟩) ?_ ?_
    rotate_left
    · intro w'
      go_simp
      with_reducible rfl
    rotate_left
    · simp only [Act.put, List.setIfInBounds_toArray, List.set_cons_zero, List.set_cons_succ, i64_w, i32_w]
      rfl
    refine pure_ (i := 5) (N := some 20) (v := ?_) (a' := ?_) #[true, true, true, true, false, true, false, false, false, false, false, false, false, false, false] rfl rfl (by kernel_rfl) (fun _ _ _ h => h) (Or.inl ⟨by rfl, ?_⟩) ?_ ?_
    rotate_left
    · intro w'
      go_simp
      with_reducible rfl
    rotate_left
    · simp only [Act.put, List.setIfInBounds_toArray, List.set_cons_zero, List.set_cons_succ, i64_w, i32_w]
      rfl
    refine pure_ (i := 6) (N := some 21) (v := ?_) (a' := ?_) #[true, true, true, true, false, true, true, false, false, false, false, false, false, false, false] rfl rfl (by kernel_rfl) (fun _ _ _ h => h) (Or.inl ⟨by rfl, ?_⟩) ?_ ?_
    rotate_left
    · intro w'
      go_simp
      with_reducible rfl
    rotate_left
    · simp only [Act.put, List.setIfInBounds_toArray, List.set_cons_zero, List.set_cons_succ, i64_w, i32_w]
      rfl
    refine pure_ (i := 7) (N := some 22) (v := ?_) (a' := ?_) #[true, true, true, true, false, true, true, true, false, false, false, false, false, false, false] rfl rfl (by kernel_rfl) (fun _ _ _ h => h) (Or.inl ⟨by rfl, ?_⟩) ?_ ?_
    rotate_left
    · intro w'
      go_simp
      with_reducible rfl
    rotate_left
    · simp only [Act.put, List.setIfInBounds_toArray, List.set_cons_zero, List.set_cons_succ, i64_w, i32_w]
      rfl
    refine take_ (i := 4) (N := some 19) (v := ?_) (a' := ?_) #[true, true, true, true, true, true, true, true, false, false, false, false, false, false, false] rfl rfl (by kernel_rfl) (fun _ _ _ h => h) (Or.inl ⟨by rfl, ?_⟩) hHeld ?_ ?_
    rotate_left
    · rintro w' ⟨s0, s1⟩
      go_simp
      with_reducible rfl
    rotate_left
    · simp only [Act.put, List.setIfInBounds_toArray, List.set_cons_zero, List.set_cons_succ, i64_w, i32_w]
      rfl
    refine take_ (i := 8) (N := some 23) (v := ?_) (a' := ?_) #[true, true, true, true, true, true, true, true, true, false, false, false, false, false, false] rfl rfl (by kernel_rfl) (fun _ _ _ h => h) (Or.inl ⟨by rfl, ?_⟩) hHeld ?_ ?_
    rotate_left
    · rintro w' ⟨s0, s1⟩
      go_simp
      with_reducible rfl
    rotate_left
    · simp only [Act.put, List.setIfInBounds_toArray, List.set_cons_zero, List.set_cons_succ, i64_w, i32_w]
      rfl
    refine one_ (i := 9) (N := some 24) #[true, true, true, true, true, true, true, true, true, true, false, false, false, false, false] rfl rfl (by kernel_rfl) (by decide) (fun K hK => ?_)
    refine goes_ Try.func30 (by kernel_rfl) rfl #[.slice Ab d.blocks.length cb] (by rfl) rfl rfl (by (try simp only [List.map_toArray, List.map_cons, List.map_nil]); first | done | rfl) ?_
    refine (clone_calls Ab cb d.blocks _ (Kd.R_reads' HS.out.rb).2.2 HBL.out).mono ?_
    rintro e w9 ⟨v9, rfl, ho9, hb9⟩
    obtain ⟨A9, c9, rfl⟩ := Kd.R_slice ho9
    have HS9 := Aside0.mk (HS.out.below hb9)
    have HB9 := Aside0.mk hb9
    have HO9 := Aside0.mk ho9
    have HOK := Aside0.mk (fun k hk => Nat.lt_of_lt_of_le (HS.out.lt k hk) hb9.size)
    clear ho9 hb9
    refine ⟨_, rfl, ?_⟩
    refine hK.out _ _ ⟨HS9.out.c2, HS9.out.c0⟩ (fun hHeld => ?_)
    clear hK K
    refine norm_ (a' := ?_) ?_ ?_
    rotate_left
    · show Act.put _ (some 24) _ = _
      simp only [Act.put, List.setIfInBounds_toArray, List.set_cons_zero, List.set_cons_succ, i64_w, i32_w]
      rfl
    refine one_ (i := 10) (N := some 25) #[true, true, true, true, true, true, true, true, true, true, true, false, false, false, false] rfl rfl (by kernel_rfl) (by decide) (fun K hK => ?_)
    refine value_ (w1 := ?_) (v := ?_) (by rfl) rfl ?_ ?_
    rotate_left 2
    · go_simp
      constructor
      · rfl
      · rfl
    refine hK.out _ _ ⟨((HS9.out.below ((Below.refl _ _).alloc (Nat.le_refl _) (.cells #[.slice A9 d.blocks.length c9] 35))).c2), ((HS9.out.below ((Below.refl _ _).alloc (Nat.le_refl _) (.cells #[.slice A9 d.blocks.length c9] 35))).c0)⟩ (fun hHeld => ?_)
    clear hK K
    refine norm_ (a' := ?_) ?_ ?_
    rotate_left
    · show Act.put _ (some 25) _ = _
      simp only [Act.put, List.setIfInBounds_toArray, List.set_cons_zero, List.set_cons_succ, i64_w, i32_w]
      rfl
    refine last_ (i := 11) (N := some 26) #[true, true, true, true, true, true, true, true, true, true, true, true, false, false, false] rfl rfl (by kernel_rfl) (by decide) (fun K hK => ?_)
    refine Kd.R_append_step ks (w0 := w9) base (by rfl) (.tmp 19) (.tmp 25) 48 35 (.slice none 0 0) 24 rfl Try.underlying48 info35 rfl (by decide) (by decide) vs d.shelf d.blocks [.slice A9 d.blocks.length c9] (fun k => (col k = 4 ∧ k < wD.heap.size) ∨ wD.heap.size ≤ k) (fun k => wD.heap.size ≤ k) rfl rfl (ks_mkM (Kd.R_lower (Kd.R_mono (Kd.R_bound HO9.out) (fun k hk => hk.2.1)) HBD.out)) (fun k hk => ⟨.inr hk, fun he => by have h8 := HS.out.lt k (by rw [HS.out.rs.1 k he.symm]; decide); omega⟩) (fun k hk => .inr (Nat.le_trans HB9.out.size hk)) (Kd.R_mono (Kd.R_bound HS9.out.rs) (fun k hk => .inl ⟨hk.1, HS.out.lt k (by rw [hk.1]; decide)⟩)) (Below.refl _ _) (Nat.le_trans HBD.out HB9.out.size) HSL.out ?_
    intro v4 w4 ho4 hb4 hg4 hat4
    obtain ⟨A4, c4, rfl⟩ := Kd.R_slice ho4
    have hbx := blk_grown HS9.out.box hg4 (fun he => by have h8 := HS.out.rs.1 B he.symm; have h7 := HS.out.cB; omega)
    have hcz : w4.cell? ⟨B, 2, none⟩ = some vs := (blk_cell hbx 2).trans rfl
    have hfz : w4.frozen? ⟨B, 2, none⟩ = false := blk_frozen hbx 2
    have HP := Aside0.mk (HS.out.put2 ho4 ((Kept.of_below HB9.out (fun k => col k = 4)).then_ (S2 := fun k => col k = 4) ⟨hg4.size, fun k hk hn => hg4.block k hk (fun he => hn (HS.out.rs.1 k he.symm))⟩ (fun k hk => .inl hk)) (((HB9.out.mono HBD.out).grown hg4 (Nat.le_trans HBD.out HB9.out.size) (fun k he => ((Kd.R_bound HS.out.rs).1 k he).2.1))))
    have HL4 := Aside0.mk (show (d.shelf ++ [d.blocks]).length = d.shelf.length + 1 by simp)
    clear ho4 hb4 hg4 hat4 hbx
    revert HP HL4
    generalize (d.shelf ++ [d.blocks]).length = n4
    intro HP HL4
    have hn4 : (n4 : Int) ≤ 17 := by have := HL4.out; have := HS16.out; omega
    have hn40 : (1 : Int) ≤ (n4 : Int) := by have := HL4.out; omega
    refine hK.out _ _ ?_
    clear hK K
    refine norm_ (a' := ?_) ?_ ?_
    rotate_left
    · show Act.put _ (some 26) _ = _
      simp only [Act.put, List.setIfInBounds_toArray, List.set_cons_zero, List.set_cons_succ, i64_w, i32_w]
      rfl
    refine pure_ (i := 12) (N := some 27) (v := ?_) (a' := ?_) #[true, true, true, true, true, true, true, true, true, true, true, true, true, false, false] rfl rfl (by kernel_rfl) (fun _ _ _ h => h) (Or.inl ⟨by rfl, ?_⟩) ?_ ?_
    rotate_left
    · intro w'
      go_simp
      with_reducible rfl
    rotate_left
    · simp only [Act.put, List.setIfInBounds_toArray, List.set_cons_zero, List.set_cons_succ, i64_w, i32_w]
      rfl
    refine pure_ (i := 13) (N := some 28) (v := ?_) (a' := ?_) #[true, true, true, true, true, true, true, true, true, true, true, true, true, true, false] rfl rfl (by kernel_rfl) (fun _ _ _ h => h) (Or.inl ⟨by rfl, ?_⟩) ?_ ?_
    rotate_left
    · intro w'
      go_simp
      with_reducible rfl
    rotate_left
    · simp only [Act.put, List.setIfInBounds_toArray, List.set_cons_zero, List.set_cons_succ, i64_w, i32_w]
      rfl
    refine last_ (i := 14) (N := none) #[true, true, true, true, true, true, true, true, true, true, true, true, true, true, true] rfl rfl (by kernel_rfl) (by decide) (fun K hK => ?_)
    refine Go.Proofs.YtenbcpjlbfojlaaW.PrintLast.skip_ (w1 := ?_) (by rfl) rfl ?_ ?_
    rotate_left
    · go_simp
      rfl
    refine hK.out _ _ ?_
    clear hK K
    refine done_ (by kernel_rfl) ?_
    go_wp2
    go_ret2
    refine ⟨?_, SAfter.then_ HAl.out (SAfter.of HP.out)⟩
    show Ending.returned (.tuple #[.int .i64 ((n4 : Int) - 1), .int .i64 0]) = _
    rw [show (n4 : Int) - 1 = (d.shelf.length : Int) by have := HL4.out; omega]
end
end Go.Proofs.Ytenbcpjlbfojlaa.DA
