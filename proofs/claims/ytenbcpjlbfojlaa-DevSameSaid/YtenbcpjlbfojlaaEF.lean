/- A step at both. -/
import Derived.Test.YtenbcpjlbfojlaaEE
namespace Go.Proofs.Ytenbcpjlbfojlaa.DA
open Go.RowKit Go.Proofs.YtenbcpjlbfojlaaW.PrintWords Go.Proofs.YtenbcpjlbfojlaaW.PrintLast Go.Proofs.YtenbcpjlbfojlaaW.PrintMore Go.Proofs.Ytenbcpjlbfojlaa.PD
set_option linter.unusedVariables false
set_option linter.unusedSimpArgs false
/-- The bytes that a step writes. -/
def wB (x p : Int) : List Int := if p % 16 = 5 then (like x).drop 1 else like x
/-- What a step does. -/
def Dv.step (d : Dv) (N : Nat) (s : S31) : Dv :=
  if s.f0 % 8 = 2 then d else if s.f0 % 8 = 3 then d.flush else if s.f0 % 8 = 4 then d.crash s.f4 s.f1 s.f2 else if s.f0 % 8 = 5 then d.tamper N s.f1 s.f2 ((like s.f3).take s.f3.toNat)
  else if s.f0 % 8 = 6 then d.put.1 else if s.f0 % 8 = 7 then (d.restore s.f2).1 else (d.write N s.f1 (wB s.f3 s.f4)).1
section
variable {w0 w w' w1 : World} {B RB N : Nat} {d r : Dv} {OS : Nat → Prop}
/-- A row outside stays. -/
theorem C_outside {A : Option Addr} {n : Nat} {l : List Int} (h : Kd.C kb w A n l) (hk : Kept w w' OS) (hA : ∀ ad, A = some ad → 0 < n → ¬ OS ad.block) : Kd.C kb w' A n l :=
  ⟨h.1, h.2.1, fun h0 => by
    obtain ⟨ad, e, hc⟩ := h.2.2 h0
    refine ⟨ad, e, fun j p hj => ?_⟩
    obtain ⟨c, h1, h2, h3⟩ := hc j p hj
    refine ⟨c, h1, h2, fun i u hu => ?_⟩
    have h9 := World.block_lt_of_cell? _ _ (h3 i u hu)
    rw [add_block] at h9
    rw [World.cell?_of_block (w := w) (by rw [add_block]; exact hk.2 _ h9 (hA ad e h0))]
    exact h3 i u hu⟩
theorem same_self {A0 A1 : Option Addr} {c0 c1 L : Nat} {l : List Int} (hL : L = l.length) (ha : Kd.C kb w A0 L l) (hc0 : L ≤ c0) (hb : Kd.C kb w A1 L l) (hc1 : L ≤ c1) (hl : L ≤ 1000000000) : Calls Try.prog 14 #[.slice A0 L c0, .slice A1 L c1] w fun e w' => e = .returned (.bool true) ∧ Below w.heap.size w w' := by
  subst hL
  exact (same14 ha hc0 hb hc1 hl).mono fun e w' ⟨h1, h2⟩ => ⟨by rw [h1, decide_eq_true rfl], h2⟩
theorem two_read (h : Two w0 B RB N d r OS w) (n : Int) (hwl : d.waits.length ≤ 100000) : Calls Try.prog 13 #[.pointer (some ⟨B, 0, none⟩), .int .i64 n] w fun e w' => Told (d.read N n).1 (d.read N n).2 w e w' :=
  h.dev_told (Q := fun w => Told (d.read N n).1 (d.read N n).2 w) (fun _ _ _ _ _ hS => by
    unfold Dv.read
    by_cases hq : n < 0 ∨ (N : Int) ≤ n
    · rw [ask_ne hq, if_pos (by decide)]
      exact read_bad n w hS h.wd.of hq
    · rw [ask_in hq, if_neg (by decide)]
      obtain ⟨q, rfl⟩ : ∃ q : Nat, n = (q : Int) := ⟨n.toNat, by omega⟩
      exact read_good q w hS h.wd.of (by omega) hwl (fun y hy => (h.wd.ws y hy).2))
theorem two_rread (h : Two w0 B RB N d r OS w) (n : Int) (hwl : r.waits.length ≤ 100000) : Calls Try.prog 32 #[.pointer (some ⟨RB, 0, none⟩), .int .i64 n] w fun e w' => (∃ A c, e = .returned (.tuple #[.slice A (r.read N n).1.length c, .int .i64 (r.read N n).2]) ∧ (r.read N n).1.length ≤ c ∧ Kd.C kb w A (r.read N n).1.length (r.read N n).1) ∧ w = w' :=
  h.ref_told (Q := fun w e w' => (∃ A c, e = .returned (.tuple #[.slice A (r.read N n).1.length c, .int .i64 (r.read N n).2]) ∧ (r.read N n).1.length ≤ c ∧ Kd.C kb w A (r.read N n).1.length (r.read N n).1) ∧ w = w') (fun _ _ _ _ _ hR => by
    unfold Dv.read
    by_cases hq : n < 0 ∨ (N : Int) ≤ n
    · rw [ask_ne hq, if_pos (by decide)]
      exact (rread_bad n w hR hq).mono fun e w' ⟨h1, h2⟩ => ⟨⟨none, 0, h1, Nat.le_refl _, ⟨rfl, by decide, fun h0 => absurd h0 (by decide)⟩⟩, h2⟩
    · rw [ask_in hq, if_neg (by decide)]
      obtain ⟨q, rfl⟩ : ∃ q : Nat, n = (q : Int) := ⟨n.toNat, by omega⟩
      refine (rread_good q w hR h.wr.of (by omega) hwl (fun y hy => (h.wr.ws y hy).2)).mono ?_
      rintro e w' ⟨⟨A, c, h1, h2, h3⟩, h4⟩
      have hl : (got r (q : Int)).length = 256 := h3.1
      exact ⟨⟨A, c, by rw [h1]; simp only [hl], by simp only [hl]; exact h2, by simp only [hl]; exact h3⟩, h4⟩)
end
theorem block_f (x : Int) (w : World) : Calls Try.prog 12 #[.int .u8 x] w fun e w' => ∃ g c, e = .returned (.slice (some ⟨g, 0, none⟩) 256 c) ∧ 256 ≤ c ∧ Kd.C kb w' (some ⟨g, 0, none⟩) 256 (like x) ∧ Below w.heap.size w w' ∧ w.heap.size ≤ g := by
  refine (block_calls x w).mono ?_
  rintro e w' ⟨v, he, hr, hb⟩
  obtain ⟨g, c, rfl, hg, _⟩ := Kd.R_form hr (by rw [like_len]; decide)
  have h9 := Kd.R_reads' hr
  rw [like_len] at he h9
  exact ⟨g, c, he, h9.2.1, h9.2.2, hb, hg⟩
theorem read_short {N : Nat} {d : Dv} (h : Wf d N) (n : Int) : (d.read N n).1.length ≤ 1000000000 := by
  unfold Dv.read
  split
  · exact Nat.zero_le _
  · show (got d n).length ≤ 1000000000
    unfold got
    split
    · rename_i x hx
      have := h.ws x (List.mem_reverse.1 (List.mem_of_find?_eq_some hx))
      omega
    · rw [List.length_take]; omega
/-- The numbers of a step. -/
structure StepAt (s : S31) (r : Int) : Prop where
  ok : StepOk s
  kr : s.f0 % 8 = r
section
variable {w0 w w' w1 : World} {B RB N : Nat} {d : Dv} {OS : Nat → Prop}
theorem tmod8 {k r : Int} (h0 : 0 ≤ k) (h : k % 8 = r) : Int.tmod k 8 = r := by rw [Int.tmod_eq_emod_of_nonneg h0]; exact h
theorem wrap8 {r : Int} (h : 0 ≤ r ∧ r < 8) : IntKind.u8.wrap r = r := by simp [IntKind.wrap, IntKind.signed, IntKind.bits]; omega
set_option maxHeartbeats 16000000 in
theorem do_two (sk sn sa sx sp : Int) (hs : StepOk ⟨sk, sn, sa, sx, sp⟩) (h : Two w0 B RB N d d OS w) (hwl : d.waits.length ≤ 1000) (htl : d.trace.length ≤ 1000) :
    Calls Try.prog 18 #[.pointer (some ⟨B, 0, none⟩), .pointer (some ⟨RB, 0, none⟩), .agg #[.int .u8 sk, .int .i64 sn, .int .i64 sa, .int .u8 sx, .int .u64 sp]] w fun e w' => e = .returned (.bool true) ∧ TwoAfter w0 B RB N (d.step N ⟨sk, sn, sa, sx, sp⟩) (d.step N ⟨sk, sn, sa, sx, sp⟩) OS w w' := by
  obtain ⟨⟨s00, s01⟩, hwn, hwa, ⟨s30, s31⟩, hwp⟩ := hs
  simp only at s00 s01 hwn hwa s30 s31 hwp
  have hb := (Below.refl w.heap.size w).alloc (Nat.le_refl _) (.cells #[.int .u8 sk, .int .i64 sn, .int .i64 sa, .int .u8 sx, .int .u64 sp] 31)
  have HX := Aside0.mk (h.below hb)
  have HBX := Aside0.mk hb
  have HXO := Aside0.mk (blk_new w (.cells #[.int .u8 sk, .int .i64 sn, .int .i64 sa, .int .u8 sx, .int .u64 sp] 31))
  have HNO := Aside0.mk (show ¬ OS w.heap.size from fun h9 => Nat.lt_irrefl _ (h.lt _ h9))
  have HL := Aside0.mk (And.intro hwl (And.intro htl hwp))
  unfold Dv.step
  simp only
  obtain ⟨z, hz⟩ : ∃ z, sk % 8 = z := ⟨_, rfl⟩
  have hz8 : 0 ≤ z ∧ z < 8 := by omega
  have ht := tmod8 s00 hz
  have hw8 := wrap8 hz8
  rw [hz]
  clear hz hb hwl htl hwp s00 s01
  by_cases h2 : z = 2
  · rw [if_pos h2]
    have b2 : (z == 2) = true := beq_iff_eq.mpr h2
    clear h2
    have HLr := Aside0.mk (read_short h.wd sn)
    have RD := Aside0.mk (two_read HX.out sn (by have := HL.out.1; omega))
    have RR := Aside0.mk (fun (W : World) (h : Two w0 B RB N d d OS W) => two_rread h sn (by have := HL.out.1; omega))
    clear h
    generalize (d.read N sn).1 = l at RD RR HLr
    generalize (d.read N sn).2 = er at RD RR
    obtain ⟨L, hL⟩ : ∃ L, L = l.length := ⟨_, rfl⟩
    rw [← hL] at RR HLr
    have HLL := Aside0.mk hL
    clear hL
    go_enter Try.func18, Try.ntmps18
    go_wp2_with (first
      | (go_at_call 13; (with_reducible refine Calls.mono RD.out ?_); rintro e w2 ⟨A2, c2, rfl, hc2, hC2, hb2, _⟩; have H2 := Aside0.mk (HX.out.below hb2); have HB2 := Aside0.mk (below_step HBX.out hb2); have hf1 := (blk_cell (blk_below HXO.out hb2) 1).trans (show _ = some (Value.int .i64 sn) from rfl); rw [← HLL.out] at hC2 hc2 ⊢; have HC2 := Aside0.mk (And.intro hC2 hc2); clear hC2 hc2 hb2)
      | (go_at_call 32; (with_reducible refine Calls.mono (RR.out _ H2.out) ?_); rintro e w3 ⟨⟨A3, c3, rfl, hc3, hC3⟩, rfl⟩; have HC3 := Aside0.mk (And.intro hC3 hc3); clear hC3 hc3)
      | (go_at_call 14; (with_reducible refine Calls.mono (same_self HLL.out HC2.out.1 HC2.out.2 HC3.out.1 HC3.out.2 HLr.out) ?_); rintro e w4 ⟨rfl, hb4⟩; have HB4 := Aside0.mk hb4; clear hb4))
    go_ret
    exact ⟨rfl, TwoAfter.ahead HB2.out (TwoAfter.of_below H2.out HB4.out)⟩
  · rw [if_neg h2]
    have b2 : (z == 2) = false := beq_eq_false_iff_ne.mpr h2
    by_cases h3 : z = 3
    · rw [if_pos h3]
      have b3 : (z == 3) = true := beq_iff_eq.mpr h3
      clear h2 h3 h
      go_enter Try.func18, Try.ntmps18
      go_wp2_with (first
        | (go_at_call 9; (with_reducible refine Calls.mono (two_flush HX.out (by have := HL.out.1; omega) (by have := HL.out.2.1; omega)) ?_); rintro e w2 ⟨rfl, OS2, h2, hc2, hk2⟩; have H2 := Aside0.mk h2; have HC2 := Aside0.mk (And.intro hc2 hk2); clear h2 hc2 hk2)
        | (go_at_call 33; (with_reducible refine Calls.mono (two_rflush H2.out (by have := HL.out.1; omega) (by have := HL.out.2.1; omega)) ?_); rintro e w3 ⟨rfl, hA⟩; have HA := Aside0.mk hA; clear hA))
      go_ret
      exact ⟨by simp, TwoAfter.ahead HBX.out (TwoAfter.then_ HC2.out.1 HC2.out.2 HA.out)⟩
    · rw [if_neg h3]
      have b3 : (z == 3) = false := beq_eq_false_iff_ne.mpr h3
      by_cases h4 : z = 4
      · rw [if_pos h4]
        have b4 : (z == 4) = true := beq_iff_eq.mpr h4
        clear h2 h3 h4 h
        go_enter Try.func18, Try.ntmps18
        go_wp2_with (first
          | (go_at_call 10; (with_reducible refine Calls.mono (two_crash HX.out sp sn sa HL.out.2.2 (by have := HL.out.1; omega)) ?_); rintro e w2 ⟨rfl, OS2, h2, hc2, hk2⟩; have hx9 := blk_kept HXO.out hk2 HNO.out; have hf1 := (blk_cell hx9 1).trans (show _ = some (Value.int .i64 sn) from rfl); have hf2 := (blk_cell hx9 2).trans (show _ = some (Value.int .i64 sa) from rfl); have hf4 := (blk_cell hx9 4).trans (show _ = some (Value.int .u64 sp) from rfl); have H2 := Aside0.mk h2; have HC2 := Aside0.mk (And.intro hc2 hk2); clear h2 hc2 hk2 hx9)
          | (go_at_call 34; (with_reducible refine Calls.mono (two_rcrash H2.out sp sn sa HL.out.2.2 (by have := HL.out.1; omega)) ?_); rintro e w3 ⟨rfl, hA⟩; have HA := Aside0.mk hA; clear hA))
        go_ret
        exact ⟨rfl, TwoAfter.ahead HBX.out (TwoAfter.then_ HC2.out.1 HC2.out.2 HA.out)⟩
      · rw [if_neg h4]
        have b4 : (z == 4) = false := beq_eq_false_iff_ne.mpr h4
        by_cases h5 : z = 5
        · rw [if_pos h5]
          have b5 : (z == 5) = true := beq_iff_eq.mpr h5
          clear h2 h3 h4 h5 h
          obtain ⟨X, rfl⟩ : ∃ X : Nat, sx = (X : Int) := ⟨sx.toNat, by omega⟩
          rw [Int.toNat_natCast]
          obtain ⟨i0, hi0, _, hsz0, _⟩ := info_parts info5
          have HI5 := Aside0.mk hi0
          have hX0 : (0 : Int) ≤ (X : Int) := by omega
          have hX1 : (X : Int) ≤ (256 : Nat) := by omega
          have hwx : IntKind.i64.wrap (X : Int) = (X : Int) := w64 _ (by omega) (by omega)
          clear hi0 hsz0
          go_enter Try.func18, Try.ntmps18
          go_upto_region 13 with fail
          generalize w.alloc (.cells #[.int .u8 sk, .int .i64 sn, .int .i64 sa, .int .u8 (X : Int), .int .u64 sp] 31) = wA at HX HBX HXO ⊢
          generalize hXB : w.heap.size = XB at HXO HNO ⊢
          clear hXB
          refine start_ (n := 8) (S := fun w' => w'.cell? ⟨XB, 3, none⟩ = some (.int .u8 (X : Int))) (ds := []) #[false, false, false, false, false, false, false, false] (by kernel_rfl) rfl rfl (((blk_cell HXO.out 3).trans rfl)) (fun hHeld => ?_)
          have HXd := Aside0.mk (HX.out.below (below_drew1 (Below.refl _ _)))
          have HBd := Aside0.mk (below_drew1 HBX.out)
          have HOd := Aside0.mk (blk_drew HXO.out)
          clear HX HBX HXO
          have HX := HXd
          have HBX := HBd
          have HXO := HOd
          clear HXd HBd HOd
          generalize wA.drew = wD at hHeld HX HBX HXO ⊢
          refine pure_ (i := 0) (N := some 71) (v := ?_) (a' := ?_) #[true, false, false, false, false, false, false, false] rfl rfl (by kernel_rfl) (fun _ _ _ h => h) (Or.inl ⟨by rfl, ?_⟩) ?_ ?_
          rotate_left
          · intro w'
            go_simp
            with_reducible rfl
          rotate_left
          · simp only [Act.put, List.setIfInBounds_toArray, List.set_cons_zero, List.set_cons_succ, i64_w, i32_w]
            rfl
          refine pure_ (i := 3) (N := some 74) (v := ?_) (a' := ?_) #[true, false, false, true, false, false, false, false] rfl rfl (by kernel_rfl) (fun _ _ _ h => h) (Or.inl ⟨by rfl, ?_⟩) ?_ ?_
          rotate_left
          · intro w'
            go_simp
            with_reducible rfl
          rotate_left
          · simp only [Act.put, List.setIfInBounds_toArray, List.set_cons_zero, List.set_cons_succ, i64_w, i32_w]
            rfl
          refine take_ (i := 1) (N := some 72) (v := ?_) (a' := ?_) #[true, true, false, true, false, false, false, false] rfl rfl (by kernel_rfl) (fun _ _ _ h => h) (Or.inl ⟨by rfl, ?_⟩) hHeld ?_ ?_
          rotate_left
          · intro w' s0
            go_simp
            with_reducible rfl
          rotate_left
          · simp only [Act.put, List.setIfInBounds_toArray, List.set_cons_zero, List.set_cons_succ, i64_w, i32_w]
            rfl
          refine take_ (i := 4) (N := some 75) (v := ?_) (a' := ?_) #[true, true, false, true, true, false, false, false] rfl rfl (by kernel_rfl) (fun _ _ _ h => h) (Or.inl ⟨by rfl, ?_⟩) hHeld ?_ ?_
          rotate_left
          · intro w' s0
            go_simp
            with_reducible rfl
          rotate_left
          · simp only [Act.put, List.setIfInBounds_toArray, List.set_cons_zero, List.set_cons_succ, i64_w, i32_w]
            rfl
          refine pure_ (i := 5) (N := some 76) (v := ?_) (a' := ?_) #[true, true, false, true, true, true, false, false] rfl rfl (by kernel_rfl) (fun _ _ _ h => h) (Or.inl ⟨by rfl, ?_⟩) ?_ ?_
          rotate_left
          · intro w'
            go_simp
            with_reducible rfl
          rotate_left
          · simp only [Act.put, List.setIfInBounds_toArray, List.set_cons_zero, List.set_cons_succ, i64_w, i32_w]
            rfl
          refine one_ (i := 2) (N := some 73) #[true, true, true, true, true, true, false, false] rfl rfl (by kernel_rfl) (by decide) (fun K hK => ?_)
          refine goes_ Try.func12 (by kernel_rfl) rfl #[.int .u8 (X : Int)] (by rfl) rfl rfl (by (try simp only [List.map_toArray, List.map_cons, List.map_nil]); first | done | rfl) ?_
          refine (block_f (X : Int) _).mono ?_
          rintro e w2 ⟨g2, c2, rfl, hc2, hC2, hb2, hf2⟩
          have HX2 := Aside0.mk (HX.out.below hb2)
          have HBX2 := Aside0.mk (below_step HBX.out hb2)
          have HXO2 := Aside0.mk (blk_below HXO.out hb2)
          have HC2 := Aside0.mk (And.intro hC2 hc2)
          have hcut := cut_to (P := Try.prog) 35 5 .i64 Try.underlying35 HI5.out (some ⟨g2, 0, none⟩) 256 c2 (X : Int) hX0 hX1 hc2
          have HF2 := Aside0.mk (Nat.le_trans HX.out.bel.size hf2)
          have HNB0 := Aside0.mk (show ¬ OS g2 from fun h9 => by have := HX.out.lt _ h9; omega)
          rw [Int.toNat_natCast] at hcut
          clear hc2 hC2 hb2 hf2 HX HBX HXO
          refine ⟨_, rfl, ?_⟩
          refine hK.out _ _ (((blk_cell HXO2.out 3).trans rfl)) (fun hHeld => ?_)
          clear hK K
          refine norm_ (a' := ?_) ?_ ?_
          rotate_left
          · show Act.put _ (some 73) _ = _
            simp only [Act.put, List.setIfInBounds_toArray, List.set_cons_zero, List.set_cons_succ, i64_w, i32_w]
            rfl
          refine pure_ (i := 6) (N := some 77) (v := ?_) (a' := ?_) #[true, true, true, true, true, true, true, false] rfl rfl (by kernel_rfl) (fun _ _ _ h => h) (Or.inl ⟨by rfl, ?_⟩) ?_ ?_
          rotate_left
          · intro w'
            go_simp
            with_reducible rfl
          rotate_left
          · simp only [Act.put, List.setIfInBounds_toArray, List.set_cons_zero, List.set_cons_succ, i64_w, i32_w]
            rfl
          refine pure_ (i := 7) (N := some 11) (v := ?_) (a' := ?_) #[true, true, true, true, true, true, true, true] rfl rfl (by kernel_rfl) (fun _ _ _ h => h) (Or.inl ⟨by rfl, ?_⟩) ?_ ?_
          rotate_left
          · intro w'
            go_simp
            with_reducible rfl
          rotate_left
          · simp only [Act.put, List.setIfInBounds_toArray, List.set_cons_zero, List.set_cons_succ, i64_w, i32_w]
            rfl
          refine done_ (by kernel_rfl) ?_
          have hTC := Kd.C_take (m := X) (show Kd.C kb w2 (some ⟨g2, 0, none⟩) (like (X : Int)).length (like (X : Int)) from by rw [like_len]; exact HC2.out.1) (by rw [like_len]; omega)
          have hTL : ((like (X : Int)).take X).length = X := by rw [List.length_take, like_len]; omega
          have HCB := Aside0.mk (show Kd.C kb w2 (some ⟨g2, 0, none⟩) X ((like (X : Int)).take X) from by rw [hTL] at hTC; exact hTC)
          have HXc := Aside0.mk (show X ≤ c2 from by have := HC2.out.2; omega)
          have HNB := Aside0.mk (show ∀ ad, some (⟨g2, 0, none⟩ : Addr) = some ad → 0 < X → ¬ OS ad.block from fun ad he _ => by injection he with he; subst he; exact HNB0.out)
          have HT1 := Aside0.mk (fun (W : World) (h : Two w0 B RB N d d OS W) (hC : Kd.C kb W (some ⟨g2, 0, none⟩) X ((like (X : Int)).take X)) => show Calls Try.prog 24 #[.pointer (some ⟨B, 0, none⟩), .int .i64 sn, .int .i64 sa, .slice (some ⟨g2, 0, none⟩) X c2] W _ from by
            have h9 := two_tamper (Ab := some ⟨g2, 0, none⟩) (cb := c2) (b := (like (X : Int)).take X) h sn sa (by rw [hTL]; exact hC) (by rw [hTL]; exact HXc.out)
            rw [hTL] at h9
            exact h9)
          have HT2 := Aside0.mk (fun (W : World) (OS' : Nat → Prop) (d' : Dv) (h : Two w0 B RB N d' d OS' W) (hC : Kd.C kb W (some ⟨g2, 0, none⟩) X ((like (X : Int)).take X)) => show Calls Try.prog 35 #[.pointer (some ⟨RB, 0, none⟩), .int .i64 sn, .int .i64 sa, .slice (some ⟨g2, 0, none⟩) X c2] W _ from by
            have h9 := two_rtamper (Ab := some ⟨g2, 0, none⟩) (cb := c2) (b := (like (X : Int)).take X) h sn sa (by rw [hTL]; exact hC)
            rw [hTL] at h9
            exact h9)
          have HX := HX2
          have HBX := HBX2
          have HXO := HXO2
          clear HX2 HBX2 HXO2 hTC hTL hcut
          go_upto_region 14 with fail
          refine start_ (n := 16) (S := fun w' => w'.cell? ⟨XB, 1, none⟩ = some (.int .i64 sn) ∧ w'.cell? ⟨XB, 2, none⟩ = some (.int .i64 sa)) (ds := [13]) #[false, false, false, false, false, false, false, false, false, false, false, false, false, false, false, false] (by kernel_rfl) rfl rfl ⟨((blk_cell HXO.out 1).trans rfl), ((blk_cell HXO.out 2).trans rfl)⟩ (fun hHeld => ?_)
          have HXd := Aside0.mk (HX.out.below (below_drew1 (Below.refl _ _)))
          have HBd := Aside0.mk (below_drew1 HBX.out)
          have HOd := Aside0.mk (blk_drew HXO.out)
          clear HX HBX HXO
          have HX := HXd
          have HBX := HBd
          have HXO := HOd
          clear HXd HBd HOd
          have HCd := Aside0.mk (Kd.C_drew HCB.out)
          clear HCB
          have HCB := HCd
          clear HCd
          generalize w2.drew = wD at hHeld HX HBX HXO HCB ⊢
          refine pure_ (i := 0) (N := some 78) (v := ?_) (a' := ?_) #[true, false, false, false, false, false, false, false, false, false, false, false, false, false, false, false] rfl rfl (by kernel_rfl) (fun _ _ _ h => h) (Or.inl ⟨by rfl, ?_⟩) ?_ ?_
          rotate_left
          · intro w'
            go_simp
            with_reducible rfl
          rotate_left
          · simp only [Act.put, List.setIfInBounds_toArray, List.set_cons_zero, List.set_cons_succ, i64_w, i32_w]
            rfl
          refine pure_ (i := 1) (N := some 79) (v := ?_) (a' := ?_) #[true, true, false, false, false, false, false, false, false, false, false, false, false, false, false, false] rfl rfl (by kernel_rfl) (fun _ _ _ h => h) (Or.inl ⟨by rfl, ?_⟩) ?_ ?_
          rotate_left
          · intro w'
            go_simp
            with_reducible rfl
          rotate_left
          · simp only [Act.put, List.setIfInBounds_toArray, List.set_cons_zero, List.set_cons_succ, i64_w, i32_w]
            rfl
          refine pure_ (i := 3) (N := some 81) (v := ?_) (a' := ?_) #[true, true, false, true, false, false, false, false, false, false, false, false, false, false, false, false] rfl rfl (by kernel_rfl) (fun _ _ _ h => h) (Or.inl ⟨by rfl, ?_⟩) ?_ ?_
          rotate_left
          · intro w'
            go_simp
            with_reducible rfl
          rotate_left
          · simp only [Act.put, List.setIfInBounds_toArray, List.set_cons_zero, List.set_cons_succ, i64_w, i32_w]
            rfl
          refine pure_ (i := 5) (N := some 83) (v := ?_) (a' := ?_) #[true, true, false, true, false, true, false, false, false, false, false, false, false, false, false, false] rfl rfl (by kernel_rfl) (fun _ _ _ h => h) (Or.inl ⟨by rfl, ?_⟩) ?_ ?_
          rotate_left
          · intro w'
            go_simp
            with_reducible rfl
          rotate_left
          · simp only [Act.put, List.setIfInBounds_toArray, List.set_cons_zero, List.set_cons_succ, i64_w, i32_w]
            rfl
          refine pure_ (i := 7) (N := some 85) (v := ?_) (a' := ?_) #[true, true, false, true, false, true, false, true, false, false, false, false, false, false, false, false] rfl rfl (by kernel_rfl) (fun _ _ _ h => h) (Or.inl ⟨by rfl, ?_⟩) ?_ ?_
          rotate_left
          · intro w'
            go_simp
            with_reducible rfl
          rotate_left
          · simp only [Act.put, List.setIfInBounds_toArray, List.set_cons_zero, List.set_cons_succ, i64_w, i32_w]
            rfl
          refine pure_ (i := 8) (N := some 86) (v := ?_) (a' := ?_) #[true, true, false, true, false, true, false, true, true, false, false, false, false, false, false, false] rfl rfl (by kernel_rfl) (fun _ _ _ h => h) (Or.inl ⟨by rfl, ?_⟩) ?_ ?_
          rotate_left
          · intro w'
            go_simp
            with_reducible rfl
          rotate_left
          · simp only [Act.put, List.setIfInBounds_toArray, List.set_cons_zero, List.set_cons_succ, i64_w, i32_w]
            rfl
          refine pure_ (i := 10) (N := some 88) (v := ?_) (a' := ?_) #[true, true, false, true, false, true, false, true, true, false, true, false, false, false, false, false] rfl rfl (by kernel_rfl) (fun _ _ _ h => h) (Or.inl ⟨by rfl, ?_⟩) ?_ ?_
          rotate_left
          · intro w'
            go_simp
            with_reducible rfl
          rotate_left
          · simp only [Act.put, List.setIfInBounds_toArray, List.set_cons_zero, List.set_cons_succ, i64_w, i32_w]
            rfl
          refine pure_ (i := 12) (N := some 90) (v := ?_) (a' := ?_) #[true, true, false, true, false, true, false, true, true, false, true, false, true, false, false, false] rfl rfl (by kernel_rfl) (fun _ _ _ h => h) (Or.inl ⟨by rfl, ?_⟩) ?_ ?_
          rotate_left
          · intro w'
            go_simp
            with_reducible rfl
          rotate_left
          · simp only [Act.put, List.setIfInBounds_toArray, List.set_cons_zero, List.set_cons_succ, i64_w, i32_w]
            rfl
          refine take_ (i := 2) (N := some 80) (v := ?_) (a' := ?_) #[true, true, true, true, false, true, false, true, true, false, true, false, true, false, false, false] rfl rfl (by kernel_rfl) (fun _ _ _ h => h) (Or.inl ⟨by rfl, ?_⟩) hHeld ?_ ?_
          rotate_left
          · rintro w' ⟨s0, s1⟩
            go_simp
            with_reducible rfl
          rotate_left
          · simp only [Act.put, List.setIfInBounds_toArray, List.set_cons_zero, List.set_cons_succ, i64_w, i32_w]
            rfl
          refine take_ (i := 4) (N := some 82) (v := ?_) (a' := ?_) #[true, true, true, true, true, true, false, true, true, false, true, false, true, false, false, false] rfl rfl (by kernel_rfl) (fun _ _ _ h => h) (Or.inl ⟨by rfl, ?_⟩) hHeld ?_ ?_
          rotate_left
          · rintro w' ⟨s0, s1⟩
            go_simp
            with_reducible rfl
          rotate_left
          · simp only [Act.put, List.setIfInBounds_toArray, List.set_cons_zero, List.set_cons_succ, i64_w, i32_w]
            rfl
          refine take_ (i := 9) (N := some 87) (v := ?_) (a' := ?_) #[true, true, true, true, true, true, false, true, true, true, true, false, true, false, false, false] rfl rfl (by kernel_rfl) (fun _ _ _ h => h) (Or.inl ⟨by rfl, ?_⟩) hHeld ?_ ?_
          rotate_left
          · rintro w' ⟨s0, s1⟩
            go_simp
            with_reducible rfl
          rotate_left
          · simp only [Act.put, List.setIfInBounds_toArray, List.set_cons_zero, List.set_cons_succ, i64_w, i32_w]
            rfl
          refine take_ (i := 11) (N := some 89) (v := ?_) (a' := ?_) #[true, true, true, true, true, true, false, true, true, true, true, true, true, false, false, false] rfl rfl (by kernel_rfl) (fun _ _ _ h => h) (Or.inl ⟨by rfl, ?_⟩) hHeld ?_ ?_
          rotate_left
          · rintro w' ⟨s0, s1⟩
            go_simp
            with_reducible rfl
          rotate_left
          · simp only [Act.put, List.setIfInBounds_toArray, List.set_cons_zero, List.set_cons_succ, i64_w, i32_w]
            rfl
          refine one_ (i := 6) (N := some 84) #[true, true, true, true, true, true, true, true, true, true, true, true, true, false, false, false] rfl rfl (by kernel_rfl) (by decide) (fun K hK => ?_)
          refine goes_ Try.func24 (by kernel_rfl) rfl #[.pointer (some ⟨B, 0, none⟩), .int .i64 sn, .int .i64 sa, .slice (some ⟨g2, 0, none⟩) X c2] (by rfl) rfl rfl (by (try simp only [List.map_toArray, List.map_cons, List.map_nil]); first | done | rfl) ?_
          refine (HT1.out _ HX.out HCB.out).mono ?_
          rintro e w3 ⟨rfl, OS2, h2, hc2, hk2⟩
          have H2 := Aside0.mk h2
          have HC2b := Aside0.mk (And.intro hc2 hk2)
          have HO2 := Aside0.mk (blk_kept HXO.out hk2 HNO.out)
          have HCB2 := Aside0.mk (C_outside HCB.out hk2 HNB.out)
          clear h2 hc2 hk2
          refine ⟨_, rfl, ?_⟩
          refine hK.out _ _ ⟨((blk_cell HO2.out 1).trans rfl), ((blk_cell HO2.out 2).trans rfl)⟩ (fun hHeld => ?_)
          clear hK K
          refine norm_ (a' := ?_) ?_ ?_
          rotate_left
          · show Act.put _ (some 84) _ = _
            simp only [Act.put, List.setIfInBounds_toArray, List.set_cons_zero, List.set_cons_succ, i64_w, i32_w]
            rfl
          refine last_ (i := 13) (N := some 91) #[true, true, true, true, true, true, true, true, true, true, true, true, true, true, false, false] rfl rfl (by kernel_rfl) (by decide) (fun K hK => ?_)
          refine goes_ Try.func35 (by kernel_rfl) rfl #[.pointer (some ⟨RB, 0, none⟩), .int .i64 sn, .int .i64 sa, .slice (some ⟨g2, 0, none⟩) X c2] (by rfl) rfl rfl (by (try simp only [List.map_toArray, List.map_cons, List.map_nil]); first | done | rfl) ?_
          refine (HT2.out _ _ _ H2.out HCB2.out).mono ?_
          rintro e w4 ⟨rfl, hA⟩
          have HA := Aside0.mk hA
          clear hA
          refine ⟨_, rfl, ?_⟩
          refine hK.out _ _ ?_
          clear hK K
          refine norm_ (a' := ?_) ?_ ?_
          rotate_left
          · show Act.put _ (some 91) _ = _
            simp only [Act.put, List.setIfInBounds_toArray, List.set_cons_zero, List.set_cons_succ, i64_w, i32_w]
            rfl
          refine pure_ (i := 14) (N := some 92) (v := ?_) (a' := ?_) #[true, true, true, true, true, true, true, true, true, true, true, true, true, true, true, false] rfl rfl (by kernel_rfl) (fun _ _ _ h => h) (Or.inl ⟨by rfl, ?_⟩) ?_ ?_
          rotate_left
          · intro w'
            go_simp
            with_reducible rfl
          rotate_left
          · simp only [Act.put, List.setIfInBounds_toArray, List.set_cons_zero, List.set_cons_succ, i64_w, i32_w]
            rfl
          refine pure_ (i := 15) (N := some 6) (v := ?_) (a' := ?_) #[true, true, true, true, true, true, true, true, true, true, true, true, true, true, true, true] rfl rfl (by kernel_rfl) (fun _ _ _ h => h) (Or.inl ⟨by rfl, ?_⟩) ?_ ?_
          rotate_left
          · intro w'
            go_simp
            with_reducible rfl
          rotate_left
          · simp only [Act.put, List.setIfInBounds_toArray, List.set_cons_zero, List.set_cons_succ, i64_w, i32_w]
            rfl
          refine done_ (by kernel_rfl) ?_
          go_wp2
          go_ret
          exact ⟨by simp, TwoAfter.ahead HBX.out (TwoAfter.then_ HC2b.out.1 HC2b.out.2 HA.out)⟩
        · rw [if_neg h5]
          have b5 : (z == 5) = false := beq_eq_false_iff_ne.mpr h5
          by_cases h6 : z = 6
          · rw [if_pos h6]
            have b6 : (z == 6) = true := beq_iff_eq.mpr h6
            clear h2 h3 h4 h5 h6 h
            go_enter Try.func18, Try.ntmps18
            go_wp2_with (first
              | (go_at_call 23; (with_reducible refine Calls.mono (two_put HX.out) ?_); rintro e w2 ⟨rfl, OS2, h2, hc2, hk2⟩; have H2 := Aside0.mk h2; have HC2 := Aside0.mk (And.intro hc2 hk2); clear h2 hc2 hk2)
              | (go_at_call 36; (with_reducible refine Calls.mono (two_rput H2.out) ?_); rintro e w3 ⟨rfl, hA⟩; have HA := Aside0.mk hA; clear hA))
            go_ret
            exact ⟨by simp, TwoAfter.ahead HBX.out (TwoAfter.then_ HC2.out.1 HC2.out.2 HA.out)⟩
          · rw [if_neg h6]
            have b6 : (z == 6) = false := beq_eq_false_iff_ne.mpr h6
            by_cases h7 : z = 7
            · rw [if_pos h7]
              have b7 : (z == 7) = true := beq_iff_eq.mpr h7
              clear h2 h3 h4 h5 h6 h7 h
              go_enter Try.func18, Try.ntmps18
              go_upto_region 20 with fail
              generalize w.alloc (.cells #[.int .u8 sk, .int .i64 sn, .int .i64 sa, .int .u8 sx, .int .u64 sp] 31) = wA at HX HBX HXO ⊢
              generalize hXB : w.heap.size = XB at HXO HNO ⊢
              clear hXB
              refine start_ (n := 10) (S := fun w' => w'.cell? ⟨XB, 2, none⟩ = some (.int .i64 sa)) (ds := [7]) #[false, false, false, false, false, false, false, false, false, false] (by kernel_rfl) rfl rfl (((blk_cell HXO.out 2).trans rfl)) (fun hHeld => ?_)
              have HXd := Aside0.mk (HX.out.below (below_drew1 (Below.refl _ _)))
              have HBd := Aside0.mk (below_drew1 HBX.out)
              have HOd := Aside0.mk (blk_drew HXO.out)
              clear HX HBX HXO
              have HX := HXd
              have HBX := HBd
              have HXO := HOd
              clear HXd HBd HOd
              generalize wA.drew = wD at hHeld HX HBX HXO ⊢
              refine pure_ (i := 0) (N := some 115) (v := ?_) (a' := ?_) #[true, false, false, false, false, false, false, false, false, false] rfl rfl (by kernel_rfl) (fun _ _ _ h => h) (Or.inl ⟨by rfl, ?_⟩) ?_ ?_
              rotate_left
              · intro w'
                go_simp
                with_reducible rfl
              rotate_left
              · simp only [Act.put, List.setIfInBounds_toArray, List.set_cons_zero, List.set_cons_succ, i64_w, i32_w]
                rfl
              refine pure_ (i := 1) (N := some 116) (v := ?_) (a' := ?_) #[true, true, false, false, false, false, false, false, false, false] rfl rfl (by kernel_rfl) (fun _ _ _ h => h) (Or.inl ⟨by rfl, ?_⟩) ?_ ?_
              rotate_left
              · intro w'
                go_simp
                with_reducible rfl
              rotate_left
              · simp only [Act.put, List.setIfInBounds_toArray, List.set_cons_zero, List.set_cons_succ, i64_w, i32_w]
                rfl
              refine pure_ (i := 4) (N := some 119) (v := ?_) (a' := ?_) #[true, true, false, false, true, false, false, false, false, false] rfl rfl (by kernel_rfl) (fun _ _ _ h => h) (Or.inl ⟨by rfl, ?_⟩) ?_ ?_
              rotate_left
              · intro w'
                go_simp
                with_reducible rfl
              rotate_left
              · simp only [Act.put, List.setIfInBounds_toArray, List.set_cons_zero, List.set_cons_succ, i64_w, i32_w]
                rfl
              refine pure_ (i := 5) (N := some 120) (v := ?_) (a' := ?_) #[true, true, false, false, true, true, false, false, false, false] rfl rfl (by kernel_rfl) (fun _ _ _ h => h) (Or.inl ⟨by rfl, ?_⟩) ?_ ?_
              rotate_left
              · intro w'
                go_simp
                with_reducible rfl
              rotate_left
              · simp only [Act.put, List.setIfInBounds_toArray, List.set_cons_zero, List.set_cons_succ, i64_w, i32_w]
                rfl
              refine take_ (i := 2) (N := some 117) (v := ?_) (a' := ?_) #[true, true, true, false, true, true, false, false, false, false] rfl rfl (by kernel_rfl) (fun _ _ _ h => h) (Or.inl ⟨by rfl, ?_⟩) hHeld ?_ ?_
              rotate_left
              · intro w' s0
                go_simp
                with_reducible rfl
              rotate_left
              · simp only [Act.put, List.setIfInBounds_toArray, List.set_cons_zero, List.set_cons_succ, i64_w, i32_w]
                rfl
              refine take_ (i := 6) (N := some 121) (v := ?_) (a' := ?_) #[true, true, true, false, true, true, true, false, false, false] rfl rfl (by kernel_rfl) (fun _ _ _ h => h) (Or.inl ⟨by rfl, ?_⟩) hHeld ?_ ?_
              rotate_left
              · intro w' s0
                go_simp
                with_reducible rfl
              rotate_left
              · simp only [Act.put, List.setIfInBounds_toArray, List.set_cons_zero, List.set_cons_succ, i64_w, i32_w]
                rfl
              refine one_ (i := 3) (N := some 118) #[true, true, true, true, true, true, true, false, false, false] rfl rfl (by kernel_rfl) (by decide) (fun K hK => ?_)
              refine goes_ Try.func25 (by kernel_rfl) rfl #[.pointer (some ⟨B, 0, none⟩), .int .i64 sa] (by rfl) rfl rfl (by (try simp only [List.map_toArray, List.map_cons, List.map_nil]); first | done | rfl) ?_
              refine (two_restore HX.out sa).mono ?_
              rintro e w2 ⟨rfl, OS2, h2, hc2, hk2⟩
              have H2 := Aside0.mk h2
              have HC2 := Aside0.mk (And.intro hc2 hk2)
              have HO2 := Aside0.mk (blk_kept HXO.out hk2 HNO.out)
              clear h2 hc2 hk2
              refine ⟨_, rfl, ?_⟩
              refine hK.out _ _ (((blk_cell HO2.out 2).trans rfl)) (fun hHeld => ?_)
              clear hK K
              refine norm_ (a' := ?_) ?_ ?_
              rotate_left
              · show Act.put _ (some 118) _ = _
                simp only [Act.put, List.setIfInBounds_toArray, List.set_cons_zero, List.set_cons_succ, i64_w, i32_w]
                rfl
              refine last_ (i := 7) (N := some 122) #[true, true, true, true, true, true, true, true, false, false] rfl rfl (by kernel_rfl) (by decide) (fun K hK => ?_)
              refine goes_ Try.func37 (by kernel_rfl) rfl #[.pointer (some ⟨RB, 0, none⟩), .int .i64 sa] (by rfl) rfl rfl (by (try simp only [List.map_toArray, List.map_cons, List.map_nil]); first | done | rfl) ?_
              refine (two_rrestore H2.out sa).mono ?_
              rintro e w3 ⟨rfl, hA⟩
              have HA := Aside0.mk hA
              clear hA
              refine ⟨_, rfl, ?_⟩
              refine hK.out _ _ ?_
              clear hK K
              refine norm_ (a' := ?_) ?_ ?_
              rotate_left
              · show Act.put _ (some 122) _ = _
                simp only [Act.put, List.setIfInBounds_toArray, List.set_cons_zero, List.set_cons_succ, i64_w, i32_w]
                rfl
              refine pure_ (i := 8) (N := some 123) (v := ?_) (a' := ?_) #[true, true, true, true, true, true, true, true, true, false] rfl rfl (by kernel_rfl) (fun _ _ _ h => h) (Or.inl ⟨by rfl, ?_⟩) ?_ ?_
              rotate_left
              · intro w'
                go_simp
                with_reducible rfl
              rotate_left
              · simp only [Act.put, List.setIfInBounds_toArray, List.set_cons_zero, List.set_cons_succ, i64_w, i32_w]
                rfl
              refine pure_ (i := 9) (N := some 6) (v := ?_) (a' := ?_) #[true, true, true, true, true, true, true, true, true, true] rfl rfl (by kernel_rfl) (fun _ _ _ h => h) (Or.inl ⟨by rfl, ?_⟩) ?_ ?_
              rotate_left
              · intro w'
                go_simp
                with_reducible rfl
              rotate_left
              · simp only [Act.put, List.setIfInBounds_toArray, List.set_cons_zero, List.set_cons_succ, i64_w, i32_w]
                rfl
              refine done_ (by kernel_rfl) ?_
              go_wp2
              go_ret
              exact ⟨by simp, TwoAfter.ahead HBX.out (TwoAfter.then_ HC2.out.1 HC2.out.2 HA.out)⟩
            · rw [if_neg h7]
              have b7 : (z == 7) = false := beq_eq_false_iff_ne.mpr h7
              clear h2 h3 h4 h5 h6 h7 h
              unfold wB
              have hty : Int.tmod sp 16 = sp % 16 := Int.tmod_eq_emod_of_nonneg HL.out.2.2.1
              obtain ⟨y, hy⟩ : ∃ y, y = sp % 16 := ⟨_, rfl⟩
              rw [← hy] at hty ⊢
              have hwy : IntKind.u64.wrap y = y := by simp [IntKind.wrap, IntKind.signed, IntKind.bits]; omega
              clear hy
              by_cases h5 : y = 5
              · rw [if_pos h5]
                have b9 : (y == 5) = true := beq_iff_eq.mpr h5
                clear h5
                obtain ⟨i0, hi0, _, hsz0, _⟩ := info_parts info5
                have HI5 := Aside0.mk (And.intro hi0 hsz0)
                clear hi0 hsz0
                go_enter Try.func18, Try.ntmps18
                go_upto_region 24 with (go_at_call 12; (with_reducible refine Calls.mono (block_f sx _) ?_); rintro e w2 ⟨g2, c2, rfl, hc2, hC2, hb2, hf2⟩; have HX2 := Aside0.mk (HX.out.below hb2); have HBX2 := Aside0.mk (below_step HBX.out hb2); have HXO2 := Aside0.mk (blk_below HXO.out hb2); have hx4 := (blk_cell HXO2.out 4).trans (show _ = some (Value.int .u64 sp) from rfl); have HCC := Aside0.mk (And.intro hC2 hc2); have HNB0 := Aside0.mk (show ¬ OS g2 from fun h9 => by have := HX.out.lt _ h9; omega); have hcut := cut_from (P := Try.prog) 35 5 .i64 Try.underlying35 HI5.out.1 1 HI5.out.2 (some ⟨g2, 0, none⟩) 256 c2 1 (by omega) (by omega); have hcb : (256 : Int) ≤ (c2 : Int) := (by omega); clear hc2 hC2 hb2 hf2 HX HBX HXO)
                generalize hXB : w.heap.size = XB at HXO2 HNO ⊢
                clear hXB
                have hDr := Kd.C_drop (m := 1) (c := c2) (show Kd.C kb w2 (some ⟨g2, 0, none⟩) (like sx).length (like sx) from by rw [like_len]; exact HCC.out.1) (by rw [like_len]; decide) (by rw [like_len]; exact HCC.out.2)
                have hDl : ((like sx).drop 1).length = 255 := by rw [List.length_drop, like_len]
                have HNB : Aside0 (∀ ad, (if c2 = 1 then (some ⟨g2, 0, none⟩ : Option Addr) else (some ⟨g2, 0, none⟩ : Option Addr).map (·.add (1 * kb.sz))) = some ad → 0 < 255 → ¬ OS ad.block) := ⟨fun ad he _ => by
                  split at he
                  · injection he with he; subst he; exact HNB0.out
                  · have he' : (⟨g2, 0, none⟩ : Addr).add (1 * kb.sz) = ad := by injection he
                    rw [← he', add_block]
                    exact HNB0.out⟩
                rw [hDl] at hDr
                have HCB : Aside0 (Kd.C kb w2 (if c2 = 1 then (some ⟨g2, 0, none⟩ : Option Addr) else (some ⟨g2, 0, none⟩ : Option Addr).map (·.add (1 * kb.sz))) 255 ((like sx).drop 1)) := ⟨hDr⟩
                have HLC := Aside0.mk (show 255 ≤ c2 - 1 from by have := HCC.out.2; omega)
                have hc1 : ¬ c2 = 1 := by have := HCC.out.2; omega
                rw [if_neg hc1] at HCB HNB
                clear hDr hcut hcb hx4 HCC hc1
                rw [show Option.map (fun x : Addr => x.add (1 * kb.sz)) (some ⟨g2, 0, none⟩) = some ⟨g2, 1, none⟩ from rfl] at HCB HNB
                generalize (some (⟨g2, 1, none⟩ : Addr)) = A9 at HCB HNB ⊢
                generalize c2 - 1 = c9 at HLC ⊢
                clear hDl
                have hTL : ((like sx).drop 1).length = 255 := by rw [List.length_drop, like_len]
                have HW1 := Aside0.mk (fun (W : World) (h : Two w0 B RB N d d OS W) (hC : Kd.C kb W A9 255 ((like sx).drop 1)) => show Calls Try.prog 11 #[.pointer (some ⟨B, 0, none⟩), .int .i64 sn, .slice A9 255 c9] W _ from by
                  have h9 := two_write (Ab := A9) (cb := c9) (b := (like sx).drop 1) h sn (by rw [hTL]; exact hC) (by rw [hTL]; exact HLC.out) (by have := HL.out.1; omega) (by have := HL.out.2.1; omega) (by rw [hTL]; decide)
                  rw [hTL] at h9
                  exact h9)
                have HW2 := Aside0.mk (fun (W : World) (OS' : Nat → Prop) (d' : Dv) (h : Two w0 B RB N d' d OS' W) (hC : Kd.C kb W A9 255 ((like sx).drop 1)) => show Calls Try.prog 38 #[.pointer (some ⟨RB, 0, none⟩), .int .i64 sn, .slice A9 255 c9] W _ from by
                  have h9 := two_rwrite (Ab := A9) (cb := c9) (b := (like sx).drop 1) h sn (by rw [hTL]; exact hC) (by have := HL.out.1; omega) (by have := HL.out.2.1; omega)
                  rw [hTL] at h9
                  exact h9)
                have HX := HX2
                have HBX := HBX2
                have HXO := HXO2
                clear HX2 HBX2 HXO2 hTL
                generalize (255 : Nat) = L9 at HW1 HW2 HCB HNB HLC ⊢
                refine start_ (n := 12) (S := fun w' => w'.cell? ⟨XB, 1, none⟩ = some (.int .i64 sn)) (ds := [9]) #[false, false, false, false, false, false, false, false, false, false, false, false] (by kernel_rfl) rfl rfl (((blk_cell HXO.out 1).trans rfl)) (fun hHeld => ?_)
                have HXd := Aside0.mk (HX.out.below (below_drew1 (Below.refl _ _)))
                have HBd := Aside0.mk (below_drew1 HBX.out)
                have HOd := Aside0.mk (blk_drew HXO.out)
                clear HX HBX HXO
                have HX := HXd
                have HBX := HBd
                have HXO := HOd
                clear HXd HBd HOd
                have HCd := Aside0.mk (Kd.C_drew HCB.out)
                clear HCB
                have HCB := HCd
                clear HCd
                generalize w2.drew = wD at hHeld HX HBX HXO HCB ⊢
                refine pure_ (i := 0) (N := some 133) (v := ?_) (a' := ?_) #[true, false, false, false, false, false, false, false, false, false, false, false] rfl rfl (by kernel_rfl) (fun _ _ _ h => h) (Or.inl ⟨by rfl, ?_⟩) ?_ ?_
                rotate_left
                · intro w'
                  go_simp
                  with_reducible rfl
                rotate_left
                · simp only [Act.put, List.setIfInBounds_toArray, List.set_cons_zero, List.set_cons_succ, i64_w, i32_w]
                  rfl
                refine pure_ (i := 1) (N := some 134) (v := ?_) (a' := ?_) #[true, true, false, false, false, false, false, false, false, false, false, false] rfl rfl (by kernel_rfl) (fun _ _ _ h => h) (Or.inl ⟨by rfl, ?_⟩) ?_ ?_
                rotate_left
                · intro w'
                  go_simp
                  with_reducible rfl
                rotate_left
                · simp only [Act.put, List.setIfInBounds_toArray, List.set_cons_zero, List.set_cons_succ, i64_w, i32_w]
                  rfl
                refine pure_ (i := 3) (N := some 136) (v := ?_) (a' := ?_) #[true, true, false, true, false, false, false, false, false, false, false, false] rfl rfl (by kernel_rfl) (fun _ _ _ h => h) (Or.inl ⟨by rfl, ?_⟩) ?_ ?_
                rotate_left
                · intro w'
                  go_simp
                  with_reducible rfl
                rotate_left
                · simp only [Act.put, List.setIfInBounds_toArray, List.set_cons_zero, List.set_cons_succ, i64_w, i32_w]
                  rfl
                refine pure_ (i := 5) (N := some 138) (v := ?_) (a' := ?_) #[true, true, false, true, false, true, false, false, false, false, false, false] rfl rfl (by kernel_rfl) (fun _ _ _ h => h) (Or.inl ⟨by rfl, ?_⟩) ?_ ?_
                rotate_left
                · intro w'
                  go_simp
                  with_reducible rfl
                rotate_left
                · simp only [Act.put, List.setIfInBounds_toArray, List.set_cons_zero, List.set_cons_succ, i64_w, i32_w]
                  rfl
                refine pure_ (i := 6) (N := some 139) (v := ?_) (a' := ?_) #[true, true, false, true, false, true, true, false, false, false, false, false] rfl rfl (by kernel_rfl) (fun _ _ _ h => h) (Or.inl ⟨by rfl, ?_⟩) ?_ ?_
                rotate_left
                · intro w'
                  go_simp
                  with_reducible rfl
                rotate_left
                · simp only [Act.put, List.setIfInBounds_toArray, List.set_cons_zero, List.set_cons_succ, i64_w, i32_w]
                  rfl
                refine pure_ (i := 8) (N := some 141) (v := ?_) (a' := ?_) #[true, true, false, true, false, true, true, false, true, false, false, false] rfl rfl (by kernel_rfl) (fun _ _ _ h => h) (Or.inl ⟨by rfl, ?_⟩) ?_ ?_
                rotate_left
                · intro w'
                  go_simp
                  with_reducible rfl
                rotate_left
                · simp only [Act.put, List.setIfInBounds_toArray, List.set_cons_zero, List.set_cons_succ, i64_w, i32_w]
                  rfl
                refine take_ (i := 2) (N := some 135) (v := ?_) (a' := ?_) #[true, true, true, true, false, true, true, false, true, false, false, false] rfl rfl (by kernel_rfl) (fun _ _ _ h => h) (Or.inl ⟨by rfl, ?_⟩) hHeld ?_ ?_
                rotate_left
                · intro w' s0
                  go_simp
                  with_reducible rfl
                rotate_left
                · simp only [Act.put, List.setIfInBounds_toArray, List.set_cons_zero, List.set_cons_succ, i64_w, i32_w]
                  rfl
                refine take_ (i := 7) (N := some 140) (v := ?_) (a' := ?_) #[true, true, true, true, false, true, true, true, true, false, false, false] rfl rfl (by kernel_rfl) (fun _ _ _ h => h) (Or.inl ⟨by rfl, ?_⟩) hHeld ?_ ?_
                rotate_left
                · intro w' s0
                  go_simp
                  with_reducible rfl
                rotate_left
                · simp only [Act.put, List.setIfInBounds_toArray, List.set_cons_zero, List.set_cons_succ, i64_w, i32_w]
                  rfl
                refine one_ (i := 4) (N := some 137) #[true, true, true, true, true, true, true, true, true, false, false, false] rfl rfl (by kernel_rfl) (by decide) (fun K hK => ?_)
                refine goes_ Try.func11 (by kernel_rfl) rfl #[.pointer (some ⟨B, 0, none⟩), .int .i64 sn, .slice A9 L9 c9] (by rfl) rfl rfl (by (try simp only [List.map_toArray, List.map_cons, List.map_nil]); first | done | rfl) ?_
                refine (HW1.out _ HX.out HCB.out).mono ?_
                rintro e w2 ⟨rfl, OS2, h2, hc2, hk2⟩
                have H2 := Aside0.mk h2
                have HC2 := Aside0.mk (And.intro hc2 hk2)
                have HO2 := Aside0.mk (blk_kept HXO.out hk2 HNO.out)
                have HCB2 := Aside0.mk (C_outside HCB.out hk2 HNB.out)
                clear h2 hc2 hk2
                refine ⟨_, rfl, ?_⟩
                refine hK.out _ _ (((blk_cell HO2.out 1).trans rfl)) (fun hHeld => ?_)
                clear hK K
                refine norm_ (a' := ?_) ?_ ?_
                rotate_left
                · show Act.put _ (some 137) _ = _
                  simp only [Act.put, List.setIfInBounds_toArray, List.set_cons_zero, List.set_cons_succ, i64_w, i32_w]
                  rfl
                refine last_ (i := 9) (N := some 142) #[true, true, true, true, true, true, true, true, true, true, false, false] rfl rfl (by kernel_rfl) (by decide) (fun K hK => ?_)
                refine goes_ Try.func38 (by kernel_rfl) rfl #[.pointer (some ⟨RB, 0, none⟩), .int .i64 sn, .slice A9 L9 c9] (by rfl) rfl rfl (by (try simp only [List.map_toArray, List.map_cons, List.map_nil]); first | done | rfl) ?_
                refine (HW2.out _ _ _ H2.out HCB2.out).mono ?_
                rintro e w3 ⟨rfl, hA⟩
                have HA := Aside0.mk hA
                clear hA
                refine ⟨_, rfl, ?_⟩
                refine hK.out _ _ ?_
                clear hK K
                refine norm_ (a' := ?_) ?_ ?_
                rotate_left
                · show Act.put _ (some 142) _ = _
                  simp only [Act.put, List.setIfInBounds_toArray, List.set_cons_zero, List.set_cons_succ, i64_w, i32_w]
                  rfl
                refine pure_ (i := 10) (N := some 143) (v := ?_) (a' := ?_) #[true, true, true, true, true, true, true, true, true, true, true, false] rfl rfl (by kernel_rfl) (fun _ _ _ h => h) (Or.inl ⟨by rfl, ?_⟩) ?_ ?_
                rotate_left
                · intro w'
                  go_simp
                  with_reducible rfl
                rotate_left
                · simp only [Act.put, List.setIfInBounds_toArray, List.set_cons_zero, List.set_cons_succ, i64_w, i32_w]
                  rfl
                refine pure_ (i := 11) (N := some 6) (v := ?_) (a' := ?_) #[true, true, true, true, true, true, true, true, true, true, true, true] rfl rfl (by kernel_rfl) (fun _ _ _ h => h) (Or.inl ⟨by rfl, ?_⟩) ?_ ?_
                rotate_left
                · intro w'
                  go_simp
                  with_reducible rfl
                rotate_left
                · simp only [Act.put, List.setIfInBounds_toArray, List.set_cons_zero, List.set_cons_succ, i64_w, i32_w]
                  rfl
                refine done_ (by kernel_rfl) ?_
                go_wp2
                go_ret
                exact ⟨by simp, TwoAfter.ahead HBX.out (TwoAfter.then_ HC2.out.1 HC2.out.2 HA.out)⟩
              · rw [if_neg h5]
                have b9 : (y == 5) = false := beq_eq_false_iff_ne.mpr h5
                clear h5
                go_enter Try.func18, Try.ntmps18
                go_upto_region 24 with (go_at_call 12; (with_reducible refine Calls.mono (block_f sx _) ?_); rintro e w2 ⟨g2, c2, rfl, hc2, hC2, hb2, hf2⟩; have HX2 := Aside0.mk (HX.out.below hb2); have HBX2 := Aside0.mk (below_step HBX.out hb2); have HXO2 := Aside0.mk (blk_below HXO.out hb2); have hx4 := (blk_cell HXO2.out 4).trans (show _ = some (Value.int .u64 sp) from rfl); have HCC := Aside0.mk (And.intro hC2 hc2); have HNB0 := Aside0.mk (show ¬ OS g2 from fun h9 => by have := HX.out.lt _ h9; omega); clear hc2 hC2 hb2 hf2 HX HBX HXO)
                generalize hXB : w.heap.size = XB at HXO2 HNO ⊢
                clear hXB hx4
                have HCB := Aside0.mk HCC.out.1
                have HLC := Aside0.mk HCC.out.2
                have HNB := Aside0.mk (show ∀ ad, some (⟨g2, 0, none⟩ : Addr) = some ad → 0 < 256 → ¬ OS ad.block from fun ad he _ => by injection he with he; subst he; exact HNB0.out)
                generalize (some (⟨g2, 0, none⟩ : Addr)) = A9 at HCB HNB ⊢
                obtain ⟨c9, hc9⟩ : ∃ c9, c9 = c2 := ⟨_, rfl⟩
                rw [← hc9] at HLC ⊢
                clear hc9 HCC
                have hTL : (like sx).length = 256 := like_len sx
                have HW1 := Aside0.mk (fun (W : World) (h : Two w0 B RB N d d OS W) (hC : Kd.C kb W A9 256 (like sx)) => show Calls Try.prog 11 #[.pointer (some ⟨B, 0, none⟩), .int .i64 sn, .slice A9 256 c9] W _ from by
                  have h9 := two_write (Ab := A9) (cb := c9) (b := like sx) h sn (by rw [hTL]; exact hC) (by rw [hTL]; exact HLC.out) (by have := HL.out.1; omega) (by have := HL.out.2.1; omega) (by rw [hTL]; decide)
                  rw [hTL] at h9
                  exact h9)
                have HW2 := Aside0.mk (fun (W : World) (OS' : Nat → Prop) (d' : Dv) (h : Two w0 B RB N d' d OS' W) (hC : Kd.C kb W A9 256 (like sx)) => show Calls Try.prog 38 #[.pointer (some ⟨RB, 0, none⟩), .int .i64 sn, .slice A9 256 c9] W _ from by
                  have h9 := two_rwrite (Ab := A9) (cb := c9) (b := like sx) h sn (by rw [hTL]; exact hC) (by have := HL.out.1; omega) (by have := HL.out.2.1; omega)
                  rw [hTL] at h9
                  exact h9)
                have HX := HX2
                have HBX := HBX2
                have HXO := HXO2
                clear HX2 HBX2 HXO2 hTL
                generalize (256 : Nat) = L9 at HW1 HW2 HCB HNB HLC ⊢
                refine start_ (n := 12) (S := fun w' => w'.cell? ⟨XB, 1, none⟩ = some (.int .i64 sn)) (ds := [9]) #[false, false, false, false, false, false, false, false, false, false, false, false] (by kernel_rfl) rfl rfl (((blk_cell HXO.out 1).trans rfl)) (fun hHeld => ?_)
                have HXd := Aside0.mk (HX.out.below (below_drew1 (Below.refl _ _)))
                have HBd := Aside0.mk (below_drew1 HBX.out)
                have HOd := Aside0.mk (blk_drew HXO.out)
                clear HX HBX HXO
                have HX := HXd
                have HBX := HBd
                have HXO := HOd
                clear HXd HBd HOd
                have HCd := Aside0.mk (Kd.C_drew HCB.out)
                clear HCB
                have HCB := HCd
                clear HCd
                generalize w2.drew = wD at hHeld HX HBX HXO HCB ⊢
                refine pure_ (i := 0) (N := some 133) (v := ?_) (a' := ?_) #[true, false, false, false, false, false, false, false, false, false, false, false] rfl rfl (by kernel_rfl) (fun _ _ _ h => h) (Or.inl ⟨by rfl, ?_⟩) ?_ ?_
                rotate_left
                · intro w'
                  go_simp
                  with_reducible rfl
                rotate_left
                · simp only [Act.put, List.setIfInBounds_toArray, List.set_cons_zero, List.set_cons_succ, i64_w, i32_w]
                  rfl
                refine pure_ (i := 1) (N := some 134) (v := ?_) (a' := ?_) #[true, true, false, false, false, false, false, false, false, false, false, false] rfl rfl (by kernel_rfl) (fun _ _ _ h => h) (Or.inl ⟨by rfl, ?_⟩) ?_ ?_
                rotate_left
                · intro w'
                  go_simp
                  with_reducible rfl
                rotate_left
                · simp only [Act.put, List.setIfInBounds_toArray, List.set_cons_zero, List.set_cons_succ, i64_w, i32_w]
                  rfl
                refine pure_ (i := 3) (N := some 136) (v := ?_) (a' := ?_) #[true, true, false, true, false, false, false, false, false, false, false, false] rfl rfl (by kernel_rfl) (fun _ _ _ h => h) (Or.inl ⟨by rfl, ?_⟩) ?_ ?_
                rotate_left
                · intro w'
                  go_simp
                  with_reducible rfl
                rotate_left
                · simp only [Act.put, List.setIfInBounds_toArray, List.set_cons_zero, List.set_cons_succ, i64_w, i32_w]
                  rfl
                refine pure_ (i := 5) (N := some 138) (v := ?_) (a' := ?_) #[true, true, false, true, false, true, false, false, false, false, false, false] rfl rfl (by kernel_rfl) (fun _ _ _ h => h) (Or.inl ⟨by rfl, ?_⟩) ?_ ?_
                rotate_left
                · intro w'
                  go_simp
                  with_reducible rfl
                rotate_left
                · simp only [Act.put, List.setIfInBounds_toArray, List.set_cons_zero, List.set_cons_succ, i64_w, i32_w]
                  rfl
                refine pure_ (i := 6) (N := some 139) (v := ?_) (a' := ?_) #[true, true, false, true, false, true, true, false, false, false, false, false] rfl rfl (by kernel_rfl) (fun _ _ _ h => h) (Or.inl ⟨by rfl, ?_⟩) ?_ ?_
                rotate_left
                · intro w'
                  go_simp
                  with_reducible rfl
                rotate_left
                · simp only [Act.put, List.setIfInBounds_toArray, List.set_cons_zero, List.set_cons_succ, i64_w, i32_w]
                  rfl
                refine pure_ (i := 8) (N := some 141) (v := ?_) (a' := ?_) #[true, true, false, true, false, true, true, false, true, false, false, false] rfl rfl (by kernel_rfl) (fun _ _ _ h => h) (Or.inl ⟨by rfl, ?_⟩) ?_ ?_
                rotate_left
                · intro w'
                  go_simp
                  with_reducible rfl
                rotate_left
                · simp only [Act.put, List.setIfInBounds_toArray, List.set_cons_zero, List.set_cons_succ, i64_w, i32_w]
                  rfl
                refine take_ (i := 2) (N := some 135) (v := ?_) (a' := ?_) #[true, true, true, true, false, true, true, false, true, false, false, false] rfl rfl (by kernel_rfl) (fun _ _ _ h => h) (Or.inl ⟨by rfl, ?_⟩) hHeld ?_ ?_
                rotate_left
                · intro w' s0
                  go_simp
                  with_reducible rfl
                rotate_left
                · simp only [Act.put, List.setIfInBounds_toArray, List.set_cons_zero, List.set_cons_succ, i64_w, i32_w]
                  rfl
                refine take_ (i := 7) (N := some 140) (v := ?_) (a' := ?_) #[true, true, true, true, false, true, true, true, true, false, false, false] rfl rfl (by kernel_rfl) (fun _ _ _ h => h) (Or.inl ⟨by rfl, ?_⟩) hHeld ?_ ?_
                rotate_left
                · intro w' s0
                  go_simp
                  with_reducible rfl
                rotate_left
                · simp only [Act.put, List.setIfInBounds_toArray, List.set_cons_zero, List.set_cons_succ, i64_w, i32_w]
                  rfl
                refine one_ (i := 4) (N := some 137) #[true, true, true, true, true, true, true, true, true, false, false, false] rfl rfl (by kernel_rfl) (by decide) (fun K hK => ?_)
                refine goes_ Try.func11 (by kernel_rfl) rfl #[.pointer (some ⟨B, 0, none⟩), .int .i64 sn, .slice A9 L9 c9] (by rfl) rfl rfl (by (try simp only [List.map_toArray, List.map_cons, List.map_nil]); first | done | rfl) ?_
                refine (HW1.out _ HX.out HCB.out).mono ?_
                rintro e w2 ⟨rfl, OS2, h2, hc2, hk2⟩
                have H2 := Aside0.mk h2
                have HC2 := Aside0.mk (And.intro hc2 hk2)
                have HO2 := Aside0.mk (blk_kept HXO.out hk2 HNO.out)
                have HCB2 := Aside0.mk (C_outside HCB.out hk2 HNB.out)
                clear h2 hc2 hk2
                refine ⟨_, rfl, ?_⟩
                refine hK.out _ _ (((blk_cell HO2.out 1).trans rfl)) (fun hHeld => ?_)
                clear hK K
                refine norm_ (a' := ?_) ?_ ?_
                rotate_left
                · show Act.put _ (some 137) _ = _
                  simp only [Act.put, List.setIfInBounds_toArray, List.set_cons_zero, List.set_cons_succ, i64_w, i32_w]
                  rfl
                refine last_ (i := 9) (N := some 142) #[true, true, true, true, true, true, true, true, true, true, false, false] rfl rfl (by kernel_rfl) (by decide) (fun K hK => ?_)
                refine goes_ Try.func38 (by kernel_rfl) rfl #[.pointer (some ⟨RB, 0, none⟩), .int .i64 sn, .slice A9 L9 c9] (by rfl) rfl rfl (by (try simp only [List.map_toArray, List.map_cons, List.map_nil]); first | done | rfl) ?_
                refine (HW2.out _ _ _ H2.out HCB2.out).mono ?_
                rintro e w3 ⟨rfl, hA⟩
                have HA := Aside0.mk hA
                clear hA
                refine ⟨_, rfl, ?_⟩
                refine hK.out _ _ ?_
                clear hK K
                refine norm_ (a' := ?_) ?_ ?_
                rotate_left
                · show Act.put _ (some 142) _ = _
                  simp only [Act.put, List.setIfInBounds_toArray, List.set_cons_zero, List.set_cons_succ, i64_w, i32_w]
                  rfl
                refine pure_ (i := 10) (N := some 143) (v := ?_) (a' := ?_) #[true, true, true, true, true, true, true, true, true, true, true, false] rfl rfl (by kernel_rfl) (fun _ _ _ h => h) (Or.inl ⟨by rfl, ?_⟩) ?_ ?_
                rotate_left
                · intro w'
                  go_simp
                  with_reducible rfl
                rotate_left
                · simp only [Act.put, List.setIfInBounds_toArray, List.set_cons_zero, List.set_cons_succ, i64_w, i32_w]
                  rfl
                refine pure_ (i := 11) (N := some 6) (v := ?_) (a' := ?_) #[true, true, true, true, true, true, true, true, true, true, true, true] rfl rfl (by kernel_rfl) (fun _ _ _ h => h) (Or.inl ⟨by rfl, ?_⟩) ?_ ?_
                rotate_left
                · intro w'
                  go_simp
                  with_reducible rfl
                rotate_left
                · simp only [Act.put, List.setIfInBounds_toArray, List.set_cons_zero, List.set_cons_succ, i64_w, i32_w]
                  rfl
                refine done_ (by kernel_rfl) ?_
                go_wp2
                go_ret
                exact ⟨by simp, TwoAfter.ahead HBX.out (TwoAfter.then_ HC2.out.1 HC2.out.2 HA.out)⟩
end
end Go.Proofs.Ytenbcpjlbfojlaa.DA
