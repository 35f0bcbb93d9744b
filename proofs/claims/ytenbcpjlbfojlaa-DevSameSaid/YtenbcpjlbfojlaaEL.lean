/- Two stores side by side with two of the document's; whether two are the same. -/
import Derived.Test.YtenbcpjlbfojlaaEK
namespace Go.Proofs.Ytenbcpjlbfojlaa.DA
open Go.RowKit Go.Proofs.YtenbcpjlbfojlaaW.PrintWords Go.Proofs.YtenbcpjlbfojlaaW.PrintLast Go.Proofs.YtenbcpjlbfojlaaW.PrintMore Go.Proofs.Ytenbcpjlbfojlaa.PD
set_option linter.unusedVariables false
set_option linter.unusedSimpArgs false
section
variable {w0 w w' w1 : World} {B RB N : Nat} {d r : Dv} {OS : Nat → Prop}
/-- What a telling method tells: bytes or numbers that may be read. -/
abbrev Tells (k : Kd Int) (fn : Nat) (p : Option Addr) (n : Nat) (l : List Int) (W : World) : Prop :=
  Calls Try.prog fn #[.pointer p] W fun e w' => ∃ A c, e = .returned (.slice A n c) ∧ n ≤ c ∧ Kd.C k w' A n l ∧ Below W.heap.size W w'
set_option maxHeartbeats 4000000 in
theorem same_abs (p q : Option Addr) (w : World) (n1 n2 m1 m2 : Nat) (l1 l2 t1 t2 : List Int) (b1 b2 : Bool)
    (hB1 : ∀ W, Below w.heap.size w W → Tells kb 20 p n1 l1 W) (hB2 : ∀ W, Below w.heap.size w W → Tells kb 20 q n2 l2 W)
    (hT1 : ∀ W, Below w.heap.size w W → Tells ki 22 p m1 t1 W) (hT2 : ∀ W, Below w.heap.size w W → Tells ki 22 q m2 t2 W)
    (hE : ∀ W A0 c0 A1 c1, Kd.C kb W A0 n1 l1 → n1 ≤ c0 → Kd.C kb W A1 n2 l2 → n2 ≤ c1 → Calls Try.prog 40 #[.slice A0 n1 c0, .slice A1 n2 c1] W fun e w' => e = .returned (.bool b1) ∧ Below W.heap.size W w')
    (hE2 : ∀ W A0 c0 A1 c1, Kd.C ki W A0 m1 t1 → m1 ≤ c0 → Kd.C ki W A1 m2 t2 → m2 ≤ c1 → Calls Try.prog 41 #[.slice A0 m1 c0, .slice A1 m2 c1] W fun e w' => e = .returned (.bool b2) ∧ Below W.heap.size W w') :
    Calls Try.prog 26 #[.pointer p, .pointer q] w fun e w' => e = .returned (.bool (b1 && b2)) ∧ Below w.heap.size w w' := by
  have HB1 := Aside0.mk hB1
  have HB2 := Aside0.mk hB2
  have HT1 := Aside0.mk hT1
  have HT2 := Aside0.mk hT2
  have HE := Aside0.mk hE
  have HE2 := Aside0.mk hE2
  have H0 := Aside0.mk (Below.refl w.heap.size w)
  clear hB1 hB2 hT1 hT2 hE hE2
  cases b1 with
  | false =>
    go_enter Try.func26, Try.ntmps26
    go_wp2_with (first
      | (go_at_call 20; (with_reducible refine Calls.mono (HB1.out _ H0.out) ?_); rintro e w1 ⟨A1, c1, rfl, hc1, hC1, hb1⟩; have HC1 := Aside0.mk (And.intro hC1 hc1); have HX1 := Aside0.mk hb1; clear hc1 hC1 hb1)
      | (go_at_call 20; (with_reducible refine Calls.mono (HB2.out _ HX1.out) ?_); rintro e w2 ⟨A2, c2, rfl, hc2, hC2, hb2⟩; have HC2 := Aside0.mk (And.intro hC2 hc2); have HC12 := Aside0.mk (Kd.C_below HC1.out.1 hb2); have HX2 := Aside0.mk (below_step HX1.out hb2); clear hc2 hC2 hb2)
      | (go_at_call 40; (with_reducible refine Calls.mono (HE.out _ _ _ _ _ HC12.out HC1.out.2 HC2.out.1 HC2.out.2) ?_); rintro e w3 ⟨rfl, hb3⟩; have HX3 := Aside0.mk (below_step HX2.out hb3); clear hb3))
    go_ret
    exact ⟨rfl, HX3.out⟩
  | true =>
    go_enter Try.func26, Try.ntmps26
    go_wp2_with (first
      | (go_at_call 20; (with_reducible refine Calls.mono (HB1.out _ H0.out) ?_); rintro e w1 ⟨A1, c1, rfl, hc1, hC1, hb1⟩; have HC1 := Aside0.mk (And.intro hC1 hc1); have HX1 := Aside0.mk hb1; clear hc1 hC1 hb1)
      | (go_at_call 20; (with_reducible refine Calls.mono (HB2.out _ HX1.out) ?_); rintro e w2 ⟨A2, c2, rfl, hc2, hC2, hb2⟩; have HC2 := Aside0.mk (And.intro hC2 hc2); have HC12 := Aside0.mk (Kd.C_below HC1.out.1 hb2); have HX2 := Aside0.mk (below_step HX1.out hb2); clear hc2 hC2 hb2)
      | (go_at_call 40; (with_reducible refine Calls.mono (HE.out _ _ _ _ _ HC12.out HC1.out.2 HC2.out.1 HC2.out.2) ?_); rintro e w3 ⟨rfl, hb3⟩; have HX3 := Aside0.mk (below_step HX2.out hb3); clear hb3)
      | (go_at_call 22; (with_reducible refine Calls.mono (HT1.out _ HX3.out) ?_); rintro e w4 ⟨A4, c4, rfl, hc4, hC4, hb4⟩; have HC4 := Aside0.mk (And.intro hC4 hc4); have HX4 := Aside0.mk (below_step HX3.out hb4); clear hc4 hC4 hb4)
      | (go_at_call 22; (with_reducible refine Calls.mono (HT2.out _ HX4.out) ?_); rintro e w5 ⟨A5, c5, rfl, hc5, hC5, hb5⟩; have HC5 := Aside0.mk (And.intro hC5 hc5); have HC45 := Aside0.mk (Kd.C_below HC4.out.1 hb5); have HX5 := Aside0.mk (below_step HX4.out hb5); clear hc5 hC5 hb5)
      | (go_at_call 41; (with_reducible refine Calls.mono (HE2.out _ _ _ _ _ HC45.out HC4.out.2 HC5.out.1 HC5.out.2) ?_); rintro e w6 ⟨rfl, hb6⟩; have HX6 := Aside0.mk (below_step HX5.out hb6); clear hb6))
    go_ret
    exact ⟨rfl, HX6.out⟩
/-- Two stores are the same, or not. -/
theorem same_two {B1 R1 N1 B2 R2 N2 : Nat} {d1 r1 d2 r2 : Dv} {O1 O2 : Nat → Prop} (h1 : Two w0 B1 R1 N1 d1 r1 O1 w) (h2 : Two w0 B2 R2 N2 d2 r2 O2 w) (ht1 : d1.trace.length ≤ 1000000000) (ht2 : d2.trace.length ≤ 1000000000) :
    Calls Try.prog 26 #[.pointer (some ⟨B1, 0, none⟩), .pointer (some ⟨B2, 0, none⟩)] w fun e w' => e = .returned (.bool (beq d1.blocks d2.blocks && decide (d1.trace = d2.trace))) ∧ Below w.heap.size w w' :=
  same_abs (some ⟨B1, 0, none⟩) (some ⟨B2, 0, none⟩) w _ _ _ _ d1.blocks d2.blocks d1.trace d2.trace _ _
    (fun W hb => two_bytes (h1.below hb)) (fun W hb => two_bytes (h2.below hb)) (fun W hb => two_trace (h1.below hb) ht1) (fun W hb => two_trace (h2.below hb) ht2)
    (fun W A0 c0 A1 c1 a b c d => equal40 a b c d) (fun W A0 c0 A1 c1 a b c d => equal41 a b c d ht1)
/-- No store is one that is not there. -/
theorem same_none {B1 R1 N1 : Nat} {d1 r1 : Dv} {O1 : Nat → Prop} (h1 : Two w0 B1 R1 N1 d1 r1 O1 w) (ht1 : d1.trace.length ≤ 1000000000) :
    Calls Try.prog 26 #[.pointer (some ⟨B1, 0, none⟩), .pointer none] w fun e w' => e = .returned (.bool false) ∧ Below w.heap.size w w' := by
  have hN1 : ∀ W, Tells kb 20 none 0 [] W := fun W => (hol_bytes (w := W) (.inl rfl)).mono (fun e w' h => by obtain ⟨he, rfl⟩ := h; exact ⟨none, 0, he, Nat.le_refl _, C_none kb _, Below.refl _ _⟩)
  have hN2 : ∀ W, Tells ki 22 none 0 [] W := fun W => (hol_trace (w := W) (.inl rfl)).mono (fun e w' h => by obtain ⟨he, rfl⟩ := h; exact ⟨none, 0, he, Nat.le_refl _, C_none ki _, Below.refl _ _⟩)
  have hM1 : ∀ W, Below w.heap.size w W → Tells kb 20 (some ⟨B1, 0, none⟩) d1.blocks.length d1.blocks W := fun W hb => two_bytes (h1.below hb)
  have hM2 : ∀ W, Below w.heap.size w W → Tells ki 22 (some ⟨B1, 0, none⟩) d1.trace.length d1.trace W := fun W hb => two_trace (h1.below hb) ht1
  have h9 := same_abs (some ⟨B1, 0, none⟩) none w d1.blocks.length 0 d1.trace.length 0 d1.blocks [] d1.trace [] (beq d1.blocks []) (decide (d1.trace = [])) hM1 (fun W _ => hN1 W) hM2 (fun W _ => hN2 W)
    (fun W A0 c0 A1 c1 a b c d => equal40 (b := []) a b c d) (fun W A0 c0 A1 c1 a b c d => equal41 (b := []) a b c d ht1)
  rw [beq_len (by have := h1.wd.of.1; have := h1.wd.of.2.1; simp only [List.length_nil]; omega), Bool.false_and] at h9
  exact h9
/-- What is told may be written over: the bytes. -/
theorem two_bytesR (h : Two w0 B RB N d r OS w) : Calls Try.prog 20 #[.pointer (some ⟨B, 0, none⟩)] w fun e w' => ∃ A c, e = .returned (.slice A d.blocks.length c) ∧ Kd.R kb 5 w' w.heap.size (fun _ => True) (.slice A d.blocks.length c) d.blocks ∧ Below w.heap.size w w' :=
  h.dev_told (Q := fun w e w' => ∃ A c, e = .returned (.slice A d.blocks.length c) ∧ Kd.R kb 5 w' w.heap.size (fun _ => True) (.slice A d.blocks.length c) d.blocks ∧ Below w.heap.size w w') (fun _ _ _ _ _ hS => by
    refine (bytes_calls w hS (by have := h.wd.of.1; have := h.wd.of.2.2; omega)).mono ?_
    rintro e w' ⟨v, he, hr, hb⟩
    obtain ⟨A, c, rfl⟩ := Kd.R_slice hr
    exact ⟨A, c, he, hr, hb⟩)
/-- And the trace. -/
theorem two_traceR (h : Two w0 B RB N d r OS w) (ht : d.trace.length ≤ 1000000000) : Calls Try.prog 22 #[.pointer (some ⟨B, 0, none⟩)] w fun e w' => ∃ A c, e = .returned (.slice A d.trace.length c) ∧ Kd.R ki 3 w' w.heap.size (fun _ => True) (.slice A d.trace.length c) d.trace ∧ Below w.heap.size w w' :=
  h.dev_told (Q := fun w e w' => ∃ A c, e = .returned (.slice A d.trace.length c) ∧ Kd.R ki 3 w' w.heap.size (fun _ => True) (.slice A d.trace.length c) d.trace ∧ Below w.heap.size w w') (fun _ _ _ _ _ hS => by
    refine (trace_calls w hS ht).mono ?_
    rintro e w' ⟨v, he, hr, hb⟩
    obtain ⟨A, c, rfl⟩ := Kd.R_slice hr
    exact ⟨A, c, he, hr, hb⟩)
theorem Sd.lower {base base' : Nat} {col : Nat → Nat} {vb vw vs vt : Value} (h : Sd base B d col w vb vw vs vt) (hb : base' ≤ base) : Sd base' B d col w vb vw vs vt :=
  ⟨h.box, Nat.le_trans hb h.hB, h.cB, Kd.R_lower h.rb hb, Kd.R_lower h.rw hb, Kd.R_lower h.rs hb, Kd.R_lower h.rt hb, h.lt⟩
/-- Both are made: the document's stands in a block that was there. lo to hi: its rows' blocks. -/
theorem Two.made {n lo hi : Nat} {col : Nat → Nat} {vb vw vs vt ub uw us ut : Value} (hS : Sd w0.heap.size B (Dv.new n) col w vb vw vs vt) (hbel : Below w0.heap.size w0 w) (h1 : 1 ≤ n) (h2 : n ≤ 1024)
    (hbox : w.heap[RB]? = some (.cells #[.int .i64 (n : Int), ub, uw, us, ut] 50 (0, 0))) (hRB : w0.heap.size ≤ RB) (hlo : w0.heap.size ≤ lo) (hhi : hi ≤ w.heap.size) (hne : ¬ (lo ≤ RB ∧ RB < hi)) (hcol : ∀ k, (k = RB ∨ (lo ≤ k ∧ k < hi)) → col k = 0)
    (rb : Kd.R kb 5 w lo (fun k => k < hi) ub (List.replicate (n * 256) 0)) (rw_ : Kd.R kW 58 w lo (fun k => k < hi) uw []) (rs : Kd.R ks 35 w lo (fun k => k < hi) us []) (rt : Kd.R ki 3 w lo (fun k => k < hi) ut []) :
    Two w0 B RB n (Dv.new n) (Dv.new n) (fun k => col k ≠ 0 ∨ (k = RB ∨ (lo ≤ k ∧ k < hi))) w := by
  have up : ∀ {α : Type} {k : Kd α} {e : Nat} {v : Value} {xs : List α}, k.R e w lo (fun k => k < hi) v xs → k.R e w w0.heap.size (fun j => (j = RB ∨ (lo ≤ j ∧ j < hi)) ∧ j ≠ RB) v xs := fun h =>
    Kd.R_mono (Kd.R_lower (Kd.R_bound h) hlo) (fun j hj => ⟨.inr ⟨hj.2.1, hj.1⟩, fun he => hne ⟨he ▸ hj.2.1, he ▸ hj.1⟩⟩)
  have hlt := blk_lt hbox
  refine ⟨⟨col, vb, vw, vs, vt, fun k => k = RB ∨ (lo ≤ k ∧ k < hi), ub, uw, us, ut, hS, ⟨hbox, hRB, .inl rfl, up rb, up rw_, up rs, up rt, fun k hk => ?_⟩, hcol, fun k hk => hk⟩, fun k hk => ?_, hbel, Wf.new h1 h2, Wf.new h1 h2⟩
  · rcases hk with rfl | hk
    · exact hlt
    · omega
  · rcases hk with hk | rfl | hk
    · exact hS.lt k hk
    · exact hlt
    · omega
/-- A block of five cells is filled. -/
theorem filled {w : World} {PB : Nat} {z0 z1 z2 z3 z4 v0 v1 v2 v3 v4 : Value} {t : TypeId} (h : w.heap[PB]? = some (.cells #[z0, z1, z2, z3, z4] t (0, 0))) {W : World}
    (hW : (((((w.setCell ⟨PB, 0, none⟩ v0).setCell ⟨PB, 1, none⟩ v1).setCell ⟨PB, 2, none⟩ v2).setCell ⟨PB, 3, none⟩ v3).setCell ⟨PB, 4, none⟩ v4) = W) :
    W.heap[PB]? = some (.cells #[v0, v1, v2, v3, v4] t (0, 0)) ∧ Kept w W (fun k => k = PB) ∧ W.heap.size = w.heap.size ∧ Below PB w W := by
  subst hW
  refine ⟨blk_put (blk_put (blk_put (blk_put (blk_put h 0 v0 rfl) 1 v1 rfl) 2 v2 rfl) 3 v3 rfl) 4 v4 rfl, ?_, by simp [World.size_setCell], ?_⟩
  · have k := fun (W : World) (i : Nat) (v : Value) (h : Kept w W (fun k => k = PB)) => Kept.setCell (p := ⟨PB, i, none⟩) h (.inl rfl) v
    exact k _ _ _ (k _ _ _ (k _ _ _ (k _ _ _ (k _ _ _ (Kept.refl _ _)))))
  · have k := fun (W : World) (i : Nat) (v : Value) (h : Below PB w W) => h.setCell (p := ⟨PB, i, none⟩) (Nat.le_refl _) v
    exact k _ _ _ (k _ _ _ (k _ _ _ (k _ _ _ (k _ _ _ (Below.refl _ _)))))
/-- Two stores, and two of the document's, are made. -/
theorem made_both {w wr w1 w2 wQ w4 w5 w6 w7 : World} {PB QB B1 B2 : Nat} {col1 col2 : Nat → Nat} {vb1 vw1 vs1 vt1 vb2 vw2 vs2 vt2 ub uw us ut xb xw xs xt : Value}
    (HW : Below w.heap.size w wr) (hS1 : Sd wr.heap.size B1 (Dv.new 4) col1 w1 vb1 vw1 vs1 vt1) (hb1 : Below wr.heap.size wr w1)
    (hS2 : Sd w1.heap.size B2 (Dv.new 4) col2 w2 vb2 vw2 vs2 vt2) (hc2 : ∀ k, col2 k ≠ 0 → w1.heap.size ≤ k) (hb2 : Below w1.heap.size w1 w2)
    (hz : PB = w2.heap.size ∧ QB = PB + 1 ∧ wQ.heap.size = PB + 2) (hb3 : Below w2.heap.size w2 wQ)
    (hr4 : Kd.R kb 5 w4 wQ.heap.size (fun _ => True) ub (List.replicate (4 * 256) 0) ∧ Kd.R kW 58 w4 wQ.heap.size (fun _ => True) uw [] ∧ Kd.R ks 35 w4 wQ.heap.size (fun _ => True) us [] ∧ Kd.R ki 3 w4 wQ.heap.size (fun _ => True) ut []) (hb4 : Below wQ.heap.size wQ w4)
    (h5 : w5.heap[PB]? = some (.cells #[.int .i64 4, ub, uw, us, ut] 50 (0, 0)) ∧ Kept w4 w5 (fun k => k = PB) ∧ w5.heap.size = w4.heap.size ∧ Below PB w4 w5)
    (hr6 : Kd.R kb 5 w6 w5.heap.size (fun _ => True) xb (List.replicate (4 * 256) 0) ∧ Kd.R kW 58 w6 w5.heap.size (fun _ => True) xw [] ∧ Kd.R ks 35 w6 w5.heap.size (fun _ => True) xs [] ∧ Kd.R ki 3 w6 w5.heap.size (fun _ => True) xt []) (hb6 : Below w5.heap.size w5 w6)
    (h7 : w7.heap[QB]? = some (.cells #[.int .i64 4, xb, xw, xs, xt] 50 (0, 0)) ∧ Kept w6 w7 (fun k => k = QB) ∧ w7.heap.size = w6.heap.size ∧ Below QB w6 w7) :
    ∃ O1 O2, Two w B1 PB 4 (Dv.new 4) (Dv.new 4) O1 w7 ∧ Two w B2 QB 4 (Dv.new 4) (Dv.new 4) O2 w7 ∧ ∀ k, O1 k → ¬ O2 k := by
  obtain ⟨hp5, hk5, hz5, hb5⟩ := h5
  obtain ⟨hq7, hk7, hz7, hb7⟩ := h7
  obtain ⟨rb4, rw4, rs4, rt4⟩ := hr4
  obtain ⟨rb6, rw6, rs6, rt6⟩ := hr6
  have q0 := HW.size
  have q1 := hb1.size
  have q2 := hb2.size
  have q4 := hb4.size
  have q6 := hb6.size
  obtain ⟨e1, e2, e3⟩ := hz
  have hbel : Below w.heap.size w w7 := (((((HW.trans (hb1.mono (by omega))).trans (hb2.mono (by omega))).trans (hb3.mono (by omega))).trans (hb4.mono (by omega))).trans (hb5.mono (by omega))).trans ((hb6.mono (by omega)).trans (hb7.mono (by omega)))
  have s1 := (((((hS1.below hb2).below hb3).below hb4).kept hk5 (fun k hk he => by have := hS1.lt k hk; omega)).below hb6).kept hk7 (fun k hk he => by have := hS1.lt k hk; omega)
  have s2 := ((((hS2.below hb3).below hb4).kept hk5 (fun k hk he => by have := hS2.lt k hk; omega)).below hb6).kept hk7 (fun k hk he => by have := hS2.lt k hk; omega)
  have p7 : w7.heap[PB]? = some (.cells #[.int .i64 4, ub, uw, us, ut] 50 (0, 0)) := blk_kept (blk_below hp5 hb6) hk7 (by omega)
  have g1 : ∀ {α : Type} {k : Kd α} {e : Nat} {v : Value} {ys : List α}, k.R e w4 wQ.heap.size (fun _ => True) v ys → k.R e w7 wQ.heap.size (fun j => j < w4.heap.size) v ys := fun h =>
    Kd.R_mono (Kd.R_step (Kd.R_step (Kd.R_step (Kd.R_mono (ok' := fun k => wQ.heap.size ≤ k ∧ k < w4.heap.size) (Kd.R_bound h) (fun k hk => ⟨hk.2.1, hk.2.2.1⟩)) (fun k hk hl => hk5.2 k hl (by omega))) (fun k hk hl => hb6.block k (by omega))) (fun k hk hl => hk7.2 k hl (by omega))) (fun k hk => hk.2)
  have g2 : ∀ {α : Type} {k : Kd α} {e : Nat} {v : Value} {ys : List α}, k.R e w6 w5.heap.size (fun _ => True) v ys → k.R e w7 w5.heap.size (fun j => j < w6.heap.size) v ys := fun h =>
    Kd.R_mono (Kd.R_step (Kd.R_mono (ok' := fun k => w5.heap.size ≤ k ∧ k < w6.heap.size) (Kd.R_bound h) (fun k hk => ⟨hk.2.1, hk.2.2.1⟩)) (fun k hk hl => hk7.2 k hl (by omega))) (fun k hk => hk.2)
  refine ⟨_, _, Two.made (lo := wQ.heap.size) (hi := w4.heap.size) (s1.lower q0) hbel (by decide) (by decide) p7 (by omega) (by omega) (by omega) (by omega) (fun k hk => ?_) (g1 rb4) (g1 rw4) (g1 rs4) (g1 rt4),
    Two.made (lo := w5.heap.size) (hi := w6.heap.size) (s2.lower (by omega)) hbel (by decide) (by decide) hq7 (by omega) (by omega) (by omega) (by omega) (fun k hk => ?_) (g2 rb6) (g2 rw6) (g2 rs6) (g2 rt6), fun k h1 h2 => ?_⟩
  · by_cases h9 : col1 k = 0
    · exact h9
    · have := hS1.lt k h9
      omega
  · by_cases h9 : col2 k = 0
    · exact h9
    · have := hS2.lt k h9
      omega
  · rcases h1 with h1 | h1
    · have h3 := hS1.lt k h1
      rcases h2 with h2 | h2
      · have := hc2 k h2
        omega
      · omega
    · rcases h2 with h2 | h2
      · have := hS2.lt k h2
        omega
      · omega
end
theorem below_between {b : Nat} {w0 W W' : World} (h : Below b w0 W) (h' : Below b w0 W') (hs : W.heap.size ≤ W'.heap.size) : Below b W W' :=
  ⟨h'.os.trans h.os.symm, h'.tape.trans h.tape.symm, h'.output.trans h.output.symm, hs, fun k hk => (h'.block k hk).trans (h.block k hk).symm⟩
/-- A call of the one leaves the other as it is. -/
theorem Two.other {w0 W W' : World} {B RB N B2 RB2 N2 : Nat} {d r d' r' d2 r2 : Dv} {O1 O2 : Nat → Prop} (h1 : Two w0 B RB N d r O1 W) (h2 : Two w0 B2 RB2 N2 d2 r2 O2 W) (hd : ∀ k, O1 k → ¬ O2 k) (ha : TwoAfter w0 B RB N d' r' O1 W W') :
    ∃ O1', Two w0 B RB N d' r' O1' W' ∧ Two w0 B2 RB2 N2 d2 r2 O2 W' ∧ (∀ k, O1' k → ¬ O2 k) ∧ Kept W W' O1 := by
  obtain ⟨O1', ht, hc, hk⟩ := ha
  refine ⟨O1', ht, h2.kept hk (fun k h9 h8 => hd k h8 h9) (below_between h1.bel ht.bel hk.1), fun k h9 h8 => ?_, hk⟩
  rcases hc k h9 with h7 | h7
  · exact hd k h7 h8
  · exact Nat.lt_irrefl _ (Nat.lt_of_lt_of_le (h2.lt k h8) h7)
theorem step_sizes (d : Dv) (N : Nat) (s : S31) : (d.step N s).waits.length ≤ d.waits.length + 1 ∧ (d.step N s).trace.length ≤ d.trace.length + 1 := by
  unfold Dv.step
  split
  · omega
  split
  · simp [Dv.flush]
  split
  · simp [Dv.crash]
  split
  · unfold Dv.tamper; split <;> simp
  split
  · unfold Dv.put; split <;> simp
  split
  · unfold Dv.restore; split <;> simp
  · unfold Dv.write
    split
    · simp
    · split <;> simp
/-- What both tell is the same; behind a flush it is not. -/
theorem tells_same (d : Dv) : (beq d.blocks d.blocks && decide (d.trace = d.trace)) = true := by rw [beq_self, decide_eq_true rfl]; rfl
theorem tells_apart (d : Dv) : (beq d.flush.blocks d.blocks && decide (d.flush.trace = d.trace)) = false := by
  rw [decide_eq_false (fun h => by
    have h2 := congrArg List.length h
    simp [Dv.flush] at h2), Bool.and_false]
end Go.Proofs.Ytenbcpjlbfojlaa.DA
