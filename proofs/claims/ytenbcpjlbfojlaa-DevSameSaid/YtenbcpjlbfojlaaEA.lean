/- The document's Write. -/
import Derived.Test.YtenbcpjlbfojlaaDZ
namespace Go.Proofs.Ytenbcpjlbfojlaa.DA
open Go.RowKit Go.Proofs.YtenbcpjlbfojlaaW.PrintWords Go.Proofs.YtenbcpjlbfojlaaW.PrintLast Go.Proofs.YtenbcpjlbfojlaaW.PrintMore Go.Proofs.Ytenbcpjlbfojlaa.PD
set_option linter.unusedVariables false
set_option linter.unusedSimpArgs false
theorem info47 : Try.prog.underlying 47 = some (.slice 58) := Try.underlying47
section
variable {α : Type} {base RB N : Nat} {d : Dv} {RS RS' : Nat → Prop} {w w' w1 : World} {vb vw vs vt : Value}
theorem below_new {w w' : World} (hg : w.grownBy w' none) : Below w.heap.size w w' := (Below.refl w.heap.size w).grown hg (Nat.le_refl _) (fun k h => by cases h)
/-- The trace is told one more. -/
def RSok (RS : Nat → Prop) (RB : Nat) (w : World) : Nat → Prop := fun j => (RS j ∧ j ≠ RB) ∨ w.heap.size ≤ j
set_option maxHeartbeats 8000000 in
theorem rwrite_good (n : Int) (Ab : Option Addr) (cb : Nat) (b : List Int) (w : World) (h : Rm base RB N d RS w vb vw vs vt) (hN : Of d N) (hb : Kd.C kb w Ab b.length b) (hq : ¬ (n < 0 ∨ (N : Int) ≤ n)) (hl : b.length = 256) (hwl : d.waits.length ≤ 100000) (htl : d.trace.length ≤ 100000) :
    Calls Try.prog 38 #[.pointer (some ⟨RB, 0, none⟩), .int .i64 n, .slice Ab b.length cb] w fun e w' => e = .returned (.int .i64 0) ∧ RAfter base RB N ⟨d.blocks, d.waits ++ [⟨n, b⟩], d.shelf, d.trace ++ [n]⟩ RS w w' := by
  obtain ⟨Aw, cw, rfl, _, hRW⟩ := R_rows h.rw
  have HRW := Aside0.mk hRW
  have h0 := h.c0
  have h2 := h.c2
  have HS := Aside0.mk h
  have HCB := Aside0.mk hb
  have hsb := Nat.le_trans h.hB (Nat.le_of_lt h.bl)
  have HSB := Aside0.mk hsb
  have b1 : decide (n < 0) = false := decide_eq_false (by omega)
  have b2 : decide (n ≥ (N : Int)) = false := decide_eq_false (by omega)
  have b3 : ((b.length : Int) != 256) = false := by rw [hl]; rfl
  have HL := Aside0.mk hl
  have HWL := Aside0.mk hwl
  have HTL := Aside0.mk htl
  obtain ⟨L, hL⟩ : ∃ L, L = b.length := ⟨_, rfl⟩
  rw [← hL] at b3 ⊢
  have HLL := Aside0.mk hL
  obtain ⟨nW, hnW⟩ : ∃ nW, nW = d.waits.length := ⟨_, rfl⟩
  rw [← hnW] at h2
  have HNW := Aside0.mk hnW
  clear h hN hb hq hl hRW hwl htl hsb hL hnW
  go_enter Try.func38, Try.ntmps38
  go_upto_region 4 with (first
    | (at_builtin; refine Kd.R_append_rows kW (w0 := w) base rfl (.const (.slice none 0 0)) (.tmp 26) 47 58 (.agg #[.int .i64 0, .slice none 0 0]) 32 rfl Try.underlying47 info58' rfl (by decide) (by decide) (.slice none 0 0) [] d.waits Aw nW cw (RSok RS RB w) (fun j => (RS j ∧ j ≠ RB)) rfl rfl (Kd.R_nil _ _ _ _ _) (by rw [HNW.out]; exact HRW.out) ?aK (fun k hk => ⟨.inl hk, fun h => by cases h⟩) (fun k hk => .inr hk) (Below.refl _ _) HSB.out (by have := HWL.out; have := HNW.out; simp only [List.length_nil]; omega) ?_; (case aK => (intro x cs hx; exact kW.M_mono (fun k hk => hk.1) hx)); intro v1 w1 ho1 hb1 hg1 hat1; have HO1 := Aside0.mk ho1; have HB1 := Aside0.mk (below_new hg1); have HBB1 := Aside0.mk hb1; have HA1 := Aside0.mk (show ∀ k, v1.ownBlock = some k → w.heap.size ≤ k from fun k hk => by rcases hat1 with h9 | ⟨b9, h9, h8⟩; rw [h9] at hk; cases hk; rw [hk] at h9; injection h9 with h9; omega); clear ho1 hb1 hg1 hat1)
    | (at_builtin; refine Kd.R_append_rows kb (w0 := w1) w1.heap.size rfl (.const (.slice none 0 0)) (.tmp 29) 35 5 (.int .u8 0) 1 rfl Try.underlying35 info5 rfl (by decide) (by decide) (.slice none 0 0) [] b Ab L cb (fun _ => True) (fun _ => False) rfl rfl (Kd.R_nil _ _ _ _ _) (by rw [HLL.out]; exact Kd.C_below HCB.out HB1.out) (fun x cs hx => hx) (fun _ h => h.elim) (fun _ _ => trivial) (Below.refl _ _) (Nat.le_refl _) (by have := HLL.out; have := HL.out; simp only [List.length_nil]; omega) ?_; intro v2 w2 ho2 hb2 hg2 hat2; obtain ⟨A2, c2, e2⟩ := Kd.R_slice ho2; rw [show ([] ++ b : List Int).length = L from by rw [List.nil_append]; exact HLL.out.symm] at e2; rw [List.nil_append] at ho2; subst e2; have HO2 := Aside0.mk ho2; have HB2 := Aside0.mk hb2; clear ho2 hb2 hg2 hat2)
    | (at_builtin; refine Kd.R_append kW (w0 := w) base rfl (.tmp 27) (.tmp 32) 47 58 (.agg #[.int .i64 0, .slice none 0 0]) 32 rfl Try.underlying47 info58' rfl (by decide) (by decide) v1 ([] ++ d.waits) ⟨n, b⟩ [.int .i64 n, .slice A2 L c2] (RSok RS RB w) (fun k => w1.heap.size ≤ k) rfl rfl (kW_mkM (Kd.R_lower (Kd.R_mono (Kd.R_bound HO2.out) (fun k hk => hk.2.1)) (Nat.le_trans HSB.out HB1.out.size))) (fun k hk => ⟨.inr (Nat.le_trans HB1.out.size hk), fun he => by have := Kd.R_lt HO1.out k he.symm; omega⟩) (fun k hk => .inr (Nat.le_trans HB1.out.size (Nat.le_trans HB2.out.size hk))) (Kd.R_below HO1.out HB2.out) (HBB1.out.trans (HB2.out.mono (Nat.le_trans HSB.out HB1.out.size))) (Nat.le_trans HSB.out (Nat.le_trans HB1.out.size HB2.out.size)) (by have := HWL.out; simp only [List.nil_append]; omega) ?_; intro v4 w4 ho4 hb4 hg4 hat4; rw [List.nil_append] at ho4; have hb9 := (below_step HB1.out HB2.out).grown hg4 (Nat.le_trans HB1.out.size HB2.out.size) HA1.out; have HP := Aside0.mk (HS.out.put2 hb9 ho4); obtain ⟨A4, c4, rfl⟩ := Kd.R_slice ho4; have hcz := (HS.out.below hb9).c2; have hfz := (HS.out.below hb9).fz 2; clear ho4 hb4 hg4 hat4 hb9; generalize (d.waits ++ [(⟨n, b⟩ : Wr)]).length = m4 at HP ⊢))
  generalize hW5 : w4.setCell ⟨RB, 2, none⟩ (.slice A4 m4 c4) = w5 at HP ⊢
  obtain ⟨RS1, hS1, hA5⟩ := HP.out
  have HS1 := Aside0.mk hS1
  have HA5 := Aside0.mk hA5
  clear hW5 HP hcz hfz
  obtain ⟨At, ct, hvt⟩ := Kd.R_slice hS1.rt
  have h4 := hS1.c4
  rw [hvt] at h4
  have HRT := Aside0.mk (Kd.R_reads' (hvt ▸ hS1.rt))
  obtain ⟨nT, hnT⟩ : ∃ nT, nT = d.trace.length := ⟨_, rfl⟩
  simp only at h4
  rw [← hnT] at h4
  have HNT := Aside0.mk hnT
  clear hnT hS1 hA5 hvt
  go_wp2_with (first
    | (at_builtin; refine Kd.R_append_rows ki (w0 := w5) w5.heap.size rfl (.const (.slice none 0 0)) (.tmp 40) 44 3 (.int .i64 0) 8 rfl Try.underlying44 info3 rfl (by decide) (by decide) (.slice none 0 0) [] d.trace At nT ct (fun _ => True) (fun _ => False) rfl rfl (Kd.R_nil _ _ _ _ _) (by rw [HNT.out]; exact HRT.out.2.2) (fun x cs hx => hx) (fun _ h => h.elim) (fun _ _ => trivial) (Below.refl _ _) (Nat.le_refl _) (by have := HNT.out; have := HTL.out; simp only [List.length_nil]; omega) ?_; intro v6 w6 ho6 hb6 hg6 hat6; have HO6 := Aside0.mk ho6; have HB6 := Aside0.mk hb6; clear ho6 hb6 hg6 hat6)
    | (at_builtin; refine Kd.R_append ki (w0 := w5) w5.heap.size rfl (.tmp 41) (.tmp 43) 44 3 (.int .i64 0) 8 rfl Try.underlying44 info3 rfl (by decide) (by decide) v6 ([] ++ d.trace) n [.int .i64 n] (fun _ => True) (fun _ => False) rfl rfl rfl (fun _ h => h.elim) (fun _ _ => trivial) HO6.out HB6.out HB6.out.size (by have := HTL.out; simp only [List.nil_append]; omega) ?_; intro v7 w7 ho7 hb7 hg7 hat7; rw [List.nil_append] at ho7; have HP := Aside0.mk (HS1.out.put4 hb7 (fresh_ok ho7 (Nat.le_trans HS1.out.hB (Nat.le_of_lt HS1.out.bl)))); obtain ⟨A7, c7, rfl⟩ := Kd.R_slice ho7; have hcz := (HS1.out.below hb7).c4; have hfz := (HS1.out.below hb7).fz 4; clear ho7 hb7 hg7 hat7; generalize (d.trace ++ [n]).length = m7 at HP ⊢))
  go_ret
  exact ⟨rfl, RAfter.then_ HA5.out (RAfter.of HP.out)⟩
theorem rwrite_bad (n : Int) (Ab : Option Addr) (cb : Nat) (b : List Int) (w : World) (h : Rm base RB N d RS w vb vw vs vt) (hq : (n < 0 ∨ (N : Int) ≤ n) ∨ b.length ≠ 256) :
    Calls Try.prog 38 #[.pointer (some ⟨RB, 0, none⟩), .int .i64 n, .slice Ab b.length cb] w fun e w' => e = .returned (.int .i64 1) ∧ w = w' := by
  have h0 := h.c0
  clear h
  by_cases g1 : n < 0
  · have b1 : decide (n < 0) = true := decide_eq_true g1
    clear hq g1
    go_enter Try.func38, Try.ntmps38
    go_wp2
    go_ret
    exact ⟨rfl, rfl⟩
  · have b1 : decide (n < 0) = false := decide_eq_false g1
    by_cases g2 : n ≥ (N : Int)
    · have b2 : decide (n ≥ (N : Int)) = true := decide_eq_true g2
      clear hq g1 g2
      go_enter Try.func38, Try.ntmps38
      go_wp2
      go_ret
      exact ⟨rfl, rfl⟩
    · have b2 : decide (n ≥ (N : Int)) = false := decide_eq_false g2
      have b3 : ((b.length : Int) != 256) = true := bne_iff_ne.mpr (by omega)
      clear hq g1 g2
      go_enter Try.func38, Try.ntmps38
      go_wp2
      go_ret
      exact ⟨rfl, rfl⟩
theorem rwrite_calls (n : Int) (Ab : Option Addr) (cb : Nat) (b : List Int) (w : World) (h : Rm base RB N d RS w vb vw vs vt) (hN : Of d N) (hb : Kd.C kb w Ab b.length b) (hwl : d.waits.length ≤ 100000) (htl : d.trace.length ≤ 100000) :
    Calls Try.prog 38 #[.pointer (some ⟨RB, 0, none⟩), .int .i64 n, .slice Ab b.length cb] w fun e w' => e = .returned (.int .i64 (d.write N n b).2) ∧ RAfter base RB N (d.write N n b).1 RS w w' := by
  unfold Dv.write
  by_cases hq : n < 0 ∨ (N : Int) ≤ n
  · rw [ask_ne hq, if_pos (by decide)]
    exact (rwrite_bad n Ab cb b w h (.inl hq)).mono fun e w' ⟨h1, h2⟩ => ⟨h1, h2 ▸ RAfter.same h⟩
  · rw [ask_in hq, if_neg (by decide)]
    by_cases hl : b.length = 256
    · rw [if_neg (by omega)]
      exact rwrite_good n Ab cb b w h hN hb hq hl hwl htl
    · rw [if_pos hl]
      exact (rwrite_bad n Ab cb b w h (.inr hl)).mono fun e w' ⟨h1, h2⟩ => ⟨h1, h2 ▸ RAfter.same h⟩
end
end Go.Proofs.Ytenbcpjlbfojlaa.DA
