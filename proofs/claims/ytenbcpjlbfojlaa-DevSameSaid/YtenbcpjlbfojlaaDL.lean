/- Write. -/
import Derived.Test.YtenbcpjlbfojlaaDK
namespace Go.Proofs.Ytenbcpjlbfojlaa.DA
open Go.RowKit Go.Proofs.YtenbcpjlbfojlaaW.PrintWords Go.Proofs.YtenbcpjlbfojlaaW.PrintLast Go.Proofs.YtenbcpjlbfojlaaW.PrintMore Go.Proofs.Ytenbcpjlbfojlaa.PD
set_option linter.unusedVariables false
set_option linter.unusedSimpArgs false
def Dv.write (d : Dv) (N : Nat) (n : Int) (b : List Int) : Dv × Int :=
  if askE N n ≠ 0 then (d, askE N n) else if b.length ≠ 256 then (d, 1) else (⟨d.blocks, d.waits ++ [⟨n, b⟩], d.shelf, d.trace ++ [n]⟩, 0)
section
variable {α : Type} {base B N : Nat} {d : Dv} {col col' : Nat → Nat} {w w' w1 : World} {vb vw vs vt : Value}
set_option maxHeartbeats 8000000 in
theorem write_calls (n : Int) (Ab : Option Addr) (cb : Nat) (b : List Int) (w : World) (h : Sd base B d col w vb vw vs vt) (hN : Of d N) (hb : Kd.C kb w Ab b.length b) (hcb : b.length ≤ cb) (hwl : d.waits.length ≤ 100000) (htl : d.trace.length < 100000) (hbl : b.length ≤ 1000000000) :
    Calls Try.prog 11 #[.pointer (some ⟨B, 0, none⟩), .int .i64 n, .slice Ab b.length cb] w fun e w' => e = .returned (.int .i64 (d.write N n b).2) ∧ SAfter base B (d.write N n b).1 col w w' := by
  have hA := ask_calls n w h hN
  have HS := Aside0.mk h
  unfold Dv.write
  by_cases hq : n < 0 ∨ (N : Int) ≤ n
  · have e0 := ask_ne hq
    rw [e0, if_pos (by decide)]
    rw [e0] at hA
    have HA := Aside0.mk hA
    clear hq h hN hb hcb hA e0
    go_enter Try.func11, Try.ntmps11
    go_wp2_with (go_at_call 29; refine HA.out.mono ?_; rintro e w2 ⟨rfl, rfl⟩)
    go_ret
    exact ⟨rfl, SAfter.same HS.out⟩
  · have e0 := ask_in hq
    rw [e0, if_neg (by decide)]
    rw [e0] at hA
    have HA := Aside0.mk hA
    obtain ⟨L, hL⟩ : ∃ L, L = b.length := ⟨_, rfl⟩
    rw [← hL] at hcb ⊢
    by_cases hl : L = 256
    · rw [if_neg (by omega)]
      have HCb := Aside0.mk (fun W (hB : Below w.heap.size w W) => (show Calls Try.prog 30 #[.slice Ab L cb] W _ from hL ▸ clone_calls Ab cb b W (Kd.C_below hb hB) hbl))
      obtain ⟨Aw, cw, hvw⟩ := Kd.R_slice h.rw
      have h1 := h.c1
      have HBL := Aside0.mk hL.symm
      have HWL := Aside0.mk hwl
      have HTL := Aside0.mk htl
      have hlb : ((L : Int) != 256) = false := by rw [hl]; rfl
      clear hq h hN hb hcb hA e0 hL hbl hvw hwl htl hl
      go_enter Try.func11, Try.ntmps11
      go_upto_region 6 with (go_at_call 29; refine HA.out.mono ?_; rintro e w2 ⟨rfl, rfl⟩)
      refine start_ (n := 14) (S := fun w' => w'.cell? ⟨B, 1, none⟩ = some vw) (ds := [10, 13]) #[false, false, false, false, false, false, false, false, false, false, false, false, false, false] (by kernel_rfl) rfl rfl (h1) (fun hHeld => ?_)
      have HSd := Aside0.mk HS.out.drew
      have HAl := Aside0.mk (show (∀ k, col k ≠ 0 → col k ≠ 0 ∨ w.heap.size ≤ k) ∧ Kept w w.drew (fun k => col k ≠ 0) ∧ Below base w w.drew ∧ Below w.heap.size w w.drew from ⟨fun _ h => .inl h, (Kept.refl _ _).drew, below_drew1 (Below.refl _ _), below_drew1 (Below.refl _ _)⟩)
      clear HS
      have HS := HSd
      clear HSd
      generalize w.drew = wD at hHeld HS HAl ⊢
      have HBD := Aside0.mk (show base ≤ wD.heap.size from Nat.le_trans HS.out.hB (Nat.le_of_lt HS.out.bl))
      refine pure_ (i := 0) (N := some 19) (v := ?_) (a' := ?_) #[true, false, false, false, false, false, false, false, false, false, false, false, false, false] rfl rfl (by kernel_rfl) (fun _ _ _ h => h) (Or.inl ⟨by rfl, ?_⟩) ?_ ?_
      rotate_left
      · intro w'
        go_simp
        with_reducible rfl
      rotate_left
      · simp only [Act.put, List.setIfInBounds_toArray, List.set_cons_zero, List.set_cons_succ, i64_w, i32_w]
        rfl
      refine pure_ (i := 1) (N := some 20) (v := ?_) (a' := ?_) #[true, true, false, false, false, false, false, false, false, false, false, false, false, false] rfl rfl (by kernel_rfl) (fun _ _ _ h => h) (Or.inl ⟨by rfl, ?_⟩) ?_ ?_
      rotate_left
      · intro w'
        go_simp
        with_reducible rfl
      rotate_left
      · simp only [Act.put, List.setIfInBounds_toArray, List.set_cons_zero, List.set_cons_succ, i64_w, i32_w]
        rfl
      refine pure_ (i := 2) (N := some 21) (v := ?_) (a' := ?_) #[true, true, true, false, false, false, false, false, false, false, false, false, false, false] rfl rfl (by kernel_rfl) (fun _ _ _ h => h) (Or.inl ⟨by rfl, ?_⟩) ?_ ?_
      rotate_left
      · intro w'
        go_simp
        with_reducible rfl
      rotate_left
      · simp only [Act.put, List.setIfInBounds_toArray, List.set_cons_zero, List.set_cons_succ, i64_w, i32_w]
        rfl
      refine pure_ (i := 3) (N := some 22) (v := ?_) (a' := ?_) #[true, true, true, true, false, false, false, false, false, false, false, false, false, false] rfl rfl (by kernel_rfl) (fun _ _ _ h => h) (Or.inl ⟨by rfl, ?_⟩) ?_ ?_
      rotate_left
      · intro w'
        go_simp
        with_reducible rfl
      rotate_left
      · simp only [Act.put, List.setIfInBounds_toArray, List.set_cons_zero, List.set_cons_succ, i64_w, i32_w]
        rfl
      refine pure_ (i := 5) (N := some 24) (v := ?_) (a' := ?_) #[true, true, true, true, false, true, false, false, false, false, false, false, false, false] rfl rfl (by kernel_rfl) (fun _ _ _ h => h) (Or.inl ⟨by rfl, ?_⟩) ?_ ?_
      rotate_left
      · intro w'
        go_simp
        with_reducible rfl
      rotate_left
      · simp only [Act.put, List.setIfInBounds_toArray, List.set_cons_zero, List.set_cons_succ, i64_w, i32_w]
        rfl
      refine pure_ (i := 6) (N := some 25) (v := ?_) (a' := ?_) #[true, true, true, true, false, true, true, false, false, false, false, false, false, false] rfl rfl (by kernel_rfl) (fun _ _ _ h => h) (Or.inl ⟨by rfl, ?_⟩) ?_ ?_
      rotate_left
      · intro w'
        go_simp
        with_reducible rfl
      rotate_left
      · simp only [Act.put, List.setIfInBounds_toArray, List.set_cons_zero, List.set_cons_succ, i64_w, i32_w]
        rfl
      refine take_ (i := 4) (N := some 23) (v := ?_) (a' := ?_) #[true, true, true, true, true, true, true, false, false, false, false, false, false, false] rfl rfl (by kernel_rfl) (fun _ _ _ h => h) (Or.inl ⟨by rfl, ?_⟩) hHeld ?_ ?_
      rotate_left
      · intro w' s0
        go_simp
        with_reducible rfl
      rotate_left
      · simp only [Act.put, List.setIfInBounds_toArray, List.set_cons_zero, List.set_cons_succ, i64_w, i32_w]
        rfl
      refine one_ (i := 7) (N := some 26) #[true, true, true, true, true, true, true, true, false, false, false, false, false, false] rfl rfl (by kernel_rfl) (by decide) (fun K hK => ?_)
      refine goes_ Try.func30 (by kernel_rfl) rfl #[.slice Ab L cb] (by rfl) rfl rfl (by (try simp only [List.map_toArray, List.map_cons, List.map_nil]); first | done | rfl) ?_
      refine (HCb.out _ HAl.out.2.2.2).mono ?_
      rintro e w9 ⟨v9, rfl, ho9, hb9⟩
      obtain ⟨A9, c9, rfl⟩ := Kd.R_slice ho9
      rw [HBL.out] at ho9 ⊢
      have HS9 := Aside0.mk (HS.out.below hb9)
      have HB9 := Aside0.mk hb9
      have HO9 := Aside0.mk ho9
      clear ho9 hb9
      refine ⟨_, rfl, ?_⟩
      refine hK.out _ _ (HS9.out.c1) (fun hHeld => ?_)
      clear hK K
      refine norm_ (a' := ?_) ?_ ?_
      rotate_left
      · show Act.put _ (some 26) _ = _
        simp only [Act.put, List.setIfInBounds_toArray, List.set_cons_zero, List.set_cons_succ, i64_w, i32_w]
        rfl
      refine pure_ (i := 8) (N := some 27) (v := ?_) (a' := ?_) #[true, true, true, true, true, true, true, true, true, false, false, false, false, false] rfl rfl (by kernel_rfl) (fun _ _ _ h => h) (Or.inl ⟨by rfl, ?_⟩) ?_ ?_
      rotate_left
      · intro w'
        go_simp
        with_reducible rfl
      rotate_left
      · simp only [Act.put, List.setIfInBounds_toArray, List.set_cons_zero, List.set_cons_succ, i64_w, i32_w]
        rfl
      refine one_ (i := 9) (N := some 28) #[true, true, true, true, true, true, true, true, true, true, false, false, false, false] rfl rfl (by kernel_rfl) (by decide) (fun K hK => ?_)
      refine value_ (w1 := ?_) (v := ?_) (by rfl) rfl ?_ ?_
      rotate_left 2
      · go_simp
        constructor
        · rfl
        · rfl
      refine hK.out _ _ (((HS9.out.below ((Below.refl _ _).alloc (Nat.le_refl _) (.cells #[.int .i64 n, .slice A9 L c9] 71))).c1)) (fun hHeld => ?_)
      clear hK K
      refine norm_ (a' := ?_) ?_ ?_
      rotate_left
      · show Act.put _ (some 28) _ = _
        simp only [Act.put, List.setIfInBounds_toArray, List.set_cons_zero, List.set_cons_succ, i64_w, i32_w]
        rfl
      refine last_ (i := 10) (N := some 29) #[true, true, true, true, true, true, true, true, true, true, true, false, false, false] rfl rfl (by kernel_rfl) (by decide) (fun K hK => ?_)
      refine Kd.R_append_step kW (w0 := w9) base (by rfl) (.tmp 23) (.tmp 28) 60 71 (.agg #[.int .i64 0, .slice none 0 0]) 32 rfl Try.underlying60 info71 rfl (by decide) (by decide) vw d.waits ⟨n, b⟩ [.int .i64 n, .slice A9 L c9] (fun k => (col k = 3 ∧ k < wD.heap.size) ∨ wD.heap.size ≤ k) (fun k => wD.heap.size ≤ k) rfl rfl (kW_mkM (Kd.R_lower (Kd.R_mono (Kd.R_bound HO9.out) (fun k hk => hk.2.1)) HBD.out)) (fun k hk => ⟨.inr hk, fun he => by have h8 := HS.out.lt k (by rw [HS.out.rw.1 k he.symm]; decide); omega⟩) (fun k hk => .inr (Nat.le_trans HB9.out.size hk)) (Kd.R_mono (Kd.R_bound HS9.out.rw) (fun k hk => .inl ⟨hk.1, HS.out.lt k (by rw [hk.1]; decide)⟩)) (Below.refl _ _) (Nat.le_trans HBD.out HB9.out.size) (by have := HWL.out; omega) ?_
      intro v4 w4 ho4 hb4 hg4 hat4
      obtain ⟨A4, c4, rfl⟩ := Kd.R_slice ho4
      have hbx := blk_grown HS9.out.box hg4 (fun he => by have h8 := HS.out.rw.1 B he.symm; have h7 := HS.out.cB; omega)
      have hcz : w4.cell? ⟨B, 1, none⟩ = some vw := (blk_cell hbx 1).trans rfl
      have hfz : w4.frozen? ⟨B, 1, none⟩ = false := blk_frozen hbx 1
      have HP := Aside0.mk (HS.out.put1 ho4 ((Kept.of_below HB9.out (fun k => col k = 3)).then_ (S2 := fun k => col k = 3) ⟨hg4.size, fun k hk hn => hg4.block k hk (fun he => hn (HS.out.rw.1 k he.symm))⟩ (fun k hk => .inl hk)) (((HB9.out.mono HBD.out).grown hg4 (Nat.le_trans HBD.out HB9.out.size) (fun k he => ((Kd.R_bound HS.out.rw).1 k he).2.1))))
      clear ho4 hb4 hg4 hat4 hbx
      revert HP
      generalize (d.waits ++ [(⟨n, b⟩ : Wr)]).length = n4
      intro HP
      refine hK.out _ _ ?_
      clear hK K
      refine norm_ (a' := ?_) ?_ ?_
      rotate_left
      · show Act.put _ (some 29) _ = _
        simp only [Act.put, List.setIfInBounds_toArray, List.set_cons_zero, List.set_cons_succ, i64_w, i32_w]
        rfl
      refine pure_ (i := 11) (N := some 30) (v := ?_) (a' := ?_) #[true, true, true, true, true, true, true, true, true, true, true, true, false, false] rfl rfl (by kernel_rfl) (fun _ _ _ h => h) (Or.inl ⟨by rfl, ?_⟩) ?_ ?_
      rotate_left
      · intro w'
        go_simp
        with_reducible rfl
      rotate_left
      · simp only [Act.put, List.setIfInBounds_toArray, List.set_cons_zero, List.set_cons_succ, i64_w, i32_w]
        rfl
      refine pure_ (i := 12) (N := some 31) (v := ?_) (a' := ?_) #[true, true, true, true, true, true, true, true, true, true, true, true, true, false] rfl rfl (by kernel_rfl) (fun _ _ _ h => h) (Or.inl ⟨by rfl, ?_⟩) ?_ ?_
      rotate_left
      · intro w'
        go_simp
        with_reducible rfl
      rotate_left
      · simp only [Act.put, List.setIfInBounds_toArray, List.set_cons_zero, List.set_cons_succ, i64_w, i32_w]
        rfl
      refine last_ (i := 13) (N := none) #[true, true, true, true, true, true, true, true, true, true, true, true, true, true] rfl rfl (by kernel_rfl) (by decide) (fun K hK => ?_)
      refine Go.Proofs.YtenbcpjlbfojlaaW.PrintLast.skip_ (w1 := ?_) (by rfl) rfl ?_ ?_
      rotate_left
      · go_simp
        rfl
      refine hK.out _ _ ?_
      clear hK K
      refine done_ (by kernel_rfl) ?_
      obtain ⟨col1, hS1, hA1⟩ := HP.out
      have HS1 := Aside0.mk hS1
      have HA1 := Aside0.mk hA1
      clear hS1 hA1 HP
      go_wp2_with (go_at_call 28; refine (note_calls n _ HS1.out HTL.out).mono ?_; rintro e w3 ⟨rfl, hA⟩; have HA3 := Aside0.mk hA; clear hA)
      go_ret
      exact ⟨rfl, SAfter.then_ ⟨HAl.out.1, HAl.out.2.1, HAl.out.2.2.1⟩ (SAfter.then_ HA1.out HA3.out)⟩
    · rw [if_pos hl]
      have hlb : ((L : Int) != 256) = true := bne_iff_ne.mpr (by omega)
      clear hq h hN hb hcb hA e0 hL hl
      go_enter Try.func11, Try.ntmps11
      go_wp2_with (go_at_call 29; refine HA.out.mono ?_; rintro e w2 ⟨rfl, rfl⟩)
      go_ret
      exact ⟨rfl, SAfter.same HS.out⟩
end
end Go.Proofs.Ytenbcpjlbfojlaa.DA
