/- The functions that the law reaches, as Lean functions, and that the code comes to their answers; written by wip/xprint.py (a program of this repository over the print of the kit): Lean checks it. -/
import Derived.Test.YtkmdccbjgnedjaaDoorPNx0
import Derived.Test.YtkmdccbjgnedjaaDoorPNx2
import Derived.Test.YtkmdccbjgnedjaaDoorPNx3
import Derived.Test.YtkmdccbjgnedjaaDoorPNx4
import Derived.Test.YtkmdccbjgnedjaaDoorPNx5
import Derived.Test.YtkmdccbjgnedjaaDoorPNx6
namespace Go.Proofs.YtkmdccbjgnedjaaDoor.PN
open Go.RowKit Go.Proofs.YtkmdccbjgnedjaaDoorW.PrintWords Go.Proofs.YtkmdccbjgnedjaaDoorW.PrintLast Go.Proofs.YtkmdccbjgnedjaaDoorW.PrintMore
attribute [local go_sem] max2_int min2_int max_two min_two max_three min_three max_four min_four   -- for this text's walks alone
set_option linter.unusedVariables false
set_option linter.unusedSimpArgs false

/-! ### carlinglaw24_NameSplits: function 5 -/
def carlinglaw24_NameSplits.f (k : Nat) (a0 : ByteArray) : Option (Bool) := if (a0.size : Int) > 1000 then ((carlinglaw24_alive.f k).bind fun t228 => (some t228)) else ((name_Split.f k a0).bind fun bt229 => ((carlingref24_Split.f k a0).bind fun bt234 => ((name_Last.f k a0).bind fun bt239 => ((carlingref24_Last.f k a0).bind fun bt244 => ((name_May.f a0).bind fun t249 => ((carlingref24_May.f k a0).bind fun t250 => (if t249 = t250 then ((carlinglaw24_same.f k bt229.1 bt234.1).bind fun t251 => (if t251 = true then (if (bt229.2.1 == bt234.2.1) = true then (if bt229.2.2 = bt234.2.2 then ((carlinglaw24_same.f k bt239.1 bt244.1).bind fun t252 => (if t252 = true then (if bt239.2.1.toList = bt244.2.1.toList then (if bt239.2.2 = bt244.2.2 then ((name_Slash.f a0).bind fun t253 => ((carlingref24_Slash.f a0).bind fun t254 => (if (t253 == t254) = true then ((carlinglaw24_alive.f k).bind fun t255 => (some t255)) else (none)))) else (none)) else (none)) else (none))) else (none)) else (none)) else (none))) else (none))))))))
theorem carlinglaw24_NameSplits.mono : ∀ a0 k, LeO (carlinglaw24_NameSplits.f k a0) (carlinglaw24_NameSplits.f (k + 1) a0) := by
  intro a0 k
  unfold carlinglaw24_NameSplits.f
  repeat' first
      | (with_reducible exact carlinglaw24_alive.mono _)
      | (with_reducible exact carlinglaw24_same.mono _ _ _)
      | (with_reducible exact carlingref24_Last.mono _ _)
      | (with_reducible exact carlingref24_May.mono _ _)
      | (with_reducible exact carlingref24_Split.mono _ _)
      | (with_reducible exact name_Last.mono _ _)
      | (with_reducible exact name_Split.mono _ _)
      | (with_reducible exact LeO.refl _)
      | (with_reducible exact LeO.none _)
      | (with_reducible refine LeO.ite ?_ ?_)
      | (with_reducible refine LeO.bind ?_ (fun _ => ?_))
      | exact carlinglaw24_alive.mono _
      | exact carlinglaw24_same.mono _ _ _
      | exact carlingref24_Last.mono _ _
      | exact carlingref24_May.mono _ _
      | exact carlingref24_Split.mono _ _
      | exact name_Last.mono _ _
      | exact name_Split.mono _ _
      | exact LeO.none _
      | refine LeO.ite ?_ ?_
      | refine LeO.bind ?_ (fun _ => ?_)
set_option maxHeartbeats 8000000 in
set_option maxRecDepth 100000 in
theorem carlinglaw24_NameSplits.calls (k : Nat) (a0 : ByteArray) (r : Bool) (w : World) (h : carlinglaw24_NameSplits.f k a0 = some r) :
    Calls Tryd.prog 5 #[.string a0] w fun e w' => e = .returned (.bool r) ∧ Below w.heap.size w w' := by
  have HB := Aside0.mk (Below.refl w.heap.size w)
  have H : (if (a0.size : Int) > 1000 then ((carlinglaw24_alive.f k).bind fun t228 => (some t228)) else ((name_Split.f k a0).bind fun bt229 => ((carlingref24_Split.f k a0).bind fun bt234 => ((name_Last.f k a0).bind fun bt239 => ((carlingref24_Last.f k a0).bind fun bt244 => ((name_May.f a0).bind fun t249 => ((carlingref24_May.f k a0).bind fun t250 => (if t249 = t250 then ((carlinglaw24_same.f k bt229.1 bt234.1).bind fun t251 => (if t251 = true then (if (bt229.2.1 == bt234.2.1) = true then (if bt229.2.2 = bt234.2.2 then ((carlinglaw24_same.f k bt239.1 bt244.1).bind fun t252 => (if t252 = true then (if bt239.2.1.toList = bt244.2.1.toList then (if bt239.2.2 = bt244.2.2 then ((name_Slash.f a0).bind fun t253 => ((carlingref24_Slash.f a0).bind fun t254 => (if (t253 == t254) = true then ((carlinglaw24_alive.f k).bind fun t255 => (some t255)) else (none)))) else (none)) else (none)) else (none))) else (none)) else (none)) else (none))) else (none))))))))) = some r := h
  clear h
  by_cases c2 : (a0.size : Int) > 1000
  · rw [if_pos c2] at H
    have c2b0 : decide (1000 < (a0.size : Int)) = true := decide_eq_true c2
    have c2b1 : decide (1000 < a0.size) = true := decide_eq_true (by omega)
    clear c2
    replace H := Option.bind_eq_some_iff.mp H
    obtain ⟨t228, A30, H⟩ := H
    replace H : (some t228) = some r := H
    have A3 := Aside0.mk A30
    clear A30
    obtain rfl := Option.some.inj H
    go_enter Tryd.func5, Tryd.ntmps5
    go_wp2_with (first | ((with_reducible refine gate_callee (f := 7) rfl ?_); refine goesL_ (some 18) rfl rfl Tryd.func7 (by kernel_rfl) rfl #[] rfl (by (try simp only [List.map_toArray, List.map_cons, List.map_nil]); first | done | rfl | (simp only [List.length_drop, List.length_take]; rfl)) ?_; (with_reducible refine (carlinglaw24_alive.calls k  t228 _ A3.out).mono ?_); rintro e w4 ⟨rfl, hb⟩; refine ⟨_, rfl, ?_⟩; have n0_ := Aside0.mk (below_step (by repeat (first | (with_reducible first | exact HB.out | apply below_alloc | apply pw_below_drewN | apply below_drew1) | exact HB.out)) hb); clear HB; have HB := n0_; clear n0_; (try clear hb); (try clear hb2); (try clear hk); (try clear hi)))
    go_ret
    exact ⟨by first | rfl | (simp [errW_none, errW_some] <;> rfl) | (simp [*, errW_none, errW_some] <;> rfl), by repeat (first | (with_reducible first | exact HB.out | apply below_alloc | apply pw_below_drewN | apply below_drew1) | exact HB.out)⟩
  · rw [if_neg c2] at H
    have c2b0 : decide (1000 < (a0.size : Int)) = false := decide_eq_false c2
    have c2b1 : decide (1000 < a0.size) = false := decide_eq_false (by omega)
    clear c2
    replace H := Option.bind_eq_some_iff.mp H
    obtain ⟨⟨t229, t230, t231⟩, A50, H⟩ := H
    replace H : ((carlingref24_Split.f k a0).bind fun bt234 => ((name_Last.f k a0).bind fun bt239 => ((carlingref24_Last.f k a0).bind fun bt244 => ((name_May.f a0).bind fun t249 => ((carlingref24_May.f k a0).bind fun t250 => (if t249 = t250 then ((carlinglaw24_same.f k t229 bt234.1).bind fun t251 => (if t251 = true then (if (t230 == bt234.2.1) = true then (if t231 = bt234.2.2 then ((carlinglaw24_same.f k bt239.1 bt244.1).bind fun t252 => (if t252 = true then (if bt239.2.1.toList = bt244.2.1.toList then (if bt239.2.2 = bt244.2.2 then ((name_Slash.f a0).bind fun t253 => ((carlingref24_Slash.f a0).bind fun t254 => (if (t253 == t254) = true then ((carlinglaw24_alive.f k).bind fun t255 => (some t255)) else (none)))) else (none)) else (none)) else (none))) else (none)) else (none)) else (none))) else (none))))))) = some r := H
    have A5 := Aside0.mk A50
    clear A50
    replace H := Option.bind_eq_some_iff.mp H
    obtain ⟨⟨t234, t235, t236⟩, A60, H⟩ := H
    replace H : ((name_Last.f k a0).bind fun bt239 => ((carlingref24_Last.f k a0).bind fun bt244 => ((name_May.f a0).bind fun t249 => ((carlingref24_May.f k a0).bind fun t250 => (if t249 = t250 then ((carlinglaw24_same.f k t229 t234).bind fun t251 => (if t251 = true then (if (t230 == t235) = true then (if t231 = t236 then ((carlinglaw24_same.f k bt239.1 bt244.1).bind fun t252 => (if t252 = true then (if bt239.2.1.toList = bt244.2.1.toList then (if bt239.2.2 = bt244.2.2 then ((name_Slash.f a0).bind fun t253 => ((carlingref24_Slash.f a0).bind fun t254 => (if (t253 == t254) = true then ((carlinglaw24_alive.f k).bind fun t255 => (some t255)) else (none)))) else (none)) else (none)) else (none))) else (none)) else (none)) else (none))) else (none)))))) = some r := H
    have A6 := Aside0.mk A60
    clear A60
    replace H := Option.bind_eq_some_iff.mp H
    obtain ⟨⟨t239, t240, t241⟩, A70, H⟩ := H
    replace H : ((carlingref24_Last.f k a0).bind fun bt244 => ((name_May.f a0).bind fun t249 => ((carlingref24_May.f k a0).bind fun t250 => (if t249 = t250 then ((carlinglaw24_same.f k t229 t234).bind fun t251 => (if t251 = true then (if (t230 == t235) = true then (if t231 = t236 then ((carlinglaw24_same.f k t239 bt244.1).bind fun t252 => (if t252 = true then (if t240.toList = bt244.2.1.toList then (if t241 = bt244.2.2 then ((name_Slash.f a0).bind fun t253 => ((carlingref24_Slash.f a0).bind fun t254 => (if (t253 == t254) = true then ((carlinglaw24_alive.f k).bind fun t255 => (some t255)) else (none)))) else (none)) else (none)) else (none))) else (none)) else (none)) else (none))) else (none))))) = some r := H
    have A7 := Aside0.mk A70
    clear A70
    replace H := Option.bind_eq_some_iff.mp H
    obtain ⟨⟨t244, t245, t246⟩, A80, H⟩ := H
    replace H : ((name_May.f a0).bind fun t249 => ((carlingref24_May.f k a0).bind fun t250 => (if t249 = t250 then ((carlinglaw24_same.f k t229 t234).bind fun t251 => (if t251 = true then (if (t230 == t235) = true then (if t231 = t236 then ((carlinglaw24_same.f k t239 t244).bind fun t252 => (if t252 = true then (if t240.toList = t245.toList then (if t241 = t246 then ((name_Slash.f a0).bind fun t253 => ((carlingref24_Slash.f a0).bind fun t254 => (if (t253 == t254) = true then ((carlinglaw24_alive.f k).bind fun t255 => (some t255)) else (none)))) else (none)) else (none)) else (none))) else (none)) else (none)) else (none))) else (none)))) = some r := H
    have A8 := Aside0.mk A80
    clear A80
    replace H := Option.bind_eq_some_iff.mp H
    obtain ⟨t249, A90, H⟩ := H
    replace H : ((carlingref24_May.f k a0).bind fun t250 => (if t249 = t250 then ((carlinglaw24_same.f k t229 t234).bind fun t251 => (if t251 = true then (if (t230 == t235) = true then (if t231 = t236 then ((carlinglaw24_same.f k t239 t244).bind fun t252 => (if t252 = true then (if t240.toList = t245.toList then (if t241 = t246 then ((name_Slash.f a0).bind fun t253 => ((carlingref24_Slash.f a0).bind fun t254 => (if (t253 == t254) = true then ((carlinglaw24_alive.f k).bind fun t255 => (some t255)) else (none)))) else (none)) else (none)) else (none))) else (none)) else (none)) else (none))) else (none))) = some r := H
    have A9 := Aside0.mk A90
    clear A90
    replace H := Option.bind_eq_some_iff.mp H
    obtain ⟨t250, A100, H⟩ := H
    replace H : (if t249 = t250 then ((carlinglaw24_same.f k t229 t234).bind fun t251 => (if t251 = true then (if (t230 == t235) = true then (if t231 = t236 then ((carlinglaw24_same.f k t239 t244).bind fun t252 => (if t252 = true then (if t240.toList = t245.toList then (if t241 = t246 then ((name_Slash.f a0).bind fun t253 => ((carlingref24_Slash.f a0).bind fun t254 => (if (t253 == t254) = true then ((carlinglaw24_alive.f k).bind fun t255 => (some t255)) else (none)))) else (none)) else (none)) else (none))) else (none)) else (none)) else (none))) else (none)) = some r := H
    have A10 := Aside0.mk A100
    clear A100
    by_cases c11 : t249 = t250
    · rw [if_pos c11] at H
      have c11b0 : (t249 == t250) = true := beq_iff_eq.mpr c11
      have c11b1 : (t249 != t250) = false := bne_eq_false_iff_eq.mpr c11
      clear c11
      replace H := Option.bind_eq_some_iff.mp H
      obtain ⟨t251, A120, H⟩ := H
      replace H : (if t251 = true then (if (t230 == t235) = true then (if t231 = t236 then ((carlinglaw24_same.f k t239 t244).bind fun t252 => (if t252 = true then (if t240.toList = t245.toList then (if t241 = t246 then ((name_Slash.f a0).bind fun t253 => ((carlingref24_Slash.f a0).bind fun t254 => (if (t253 == t254) = true then ((carlinglaw24_alive.f k).bind fun t255 => (some t255)) else (none)))) else (none)) else (none)) else (none))) else (none)) else (none)) else (none)) = some r := H
      have A12 := Aside0.mk A120
      clear A120
      by_cases c13 : t251 = true
      · subst c13
        have H1 : (if (t230 == t235) = true then (if t231 = t236 then ((carlinglaw24_same.f k t239 t244).bind fun t252 => (if t252 = true then (if t240.toList = t245.toList then (if t241 = t246 then ((name_Slash.f a0).bind fun t253 => ((carlingref24_Slash.f a0).bind fun t254 => (if (t253 == t254) = true then ((carlinglaw24_alive.f k).bind fun t255 => (some t255)) else (none)))) else (none)) else (none)) else (none))) else (none)) else (none)) = some r := by rw [if_pos rfl] at H; exact H
        clear H
        have H := H1
        clear H1
        by_cases c14 : (t230 == t235) = true
        · rw [if_pos c14] at H
          have c14b0 : (t230 == t235) = true := c14
          (try (have c14b1 : decide (t230 = t235) = true := by simpa using c14))
          (try (have c14b2 : (t230 == t235) = true := by simpa using c14))
          clear c14
          by_cases c15 : t231 = t236
          · rw [if_pos c15] at H
            have c15b0 : (t231 == t236) = true := beq_iff_eq.mpr c15
            have c15b1 : (t231 != t236) = false := bne_eq_false_iff_eq.mpr c15
            clear c15
            replace H := Option.bind_eq_some_iff.mp H
            obtain ⟨t252, A160, H⟩ := H
            replace H : (if t252 = true then (if t240.toList = t245.toList then (if t241 = t246 then ((name_Slash.f a0).bind fun t253 => ((carlingref24_Slash.f a0).bind fun t254 => (if (t253 == t254) = true then ((carlinglaw24_alive.f k).bind fun t255 => (some t255)) else (none)))) else (none)) else (none)) else (none)) = some r := H
            have A16 := Aside0.mk A160
            clear A160
            by_cases c17 : t252 = true
            · subst c17
              have H1 : (if t240.toList = t245.toList then (if t241 = t246 then ((name_Slash.f a0).bind fun t253 => ((carlingref24_Slash.f a0).bind fun t254 => (if (t253 == t254) = true then ((carlinglaw24_alive.f k).bind fun t255 => (some t255)) else (none)))) else (none)) else (none)) = some r := by rw [if_pos rfl] at H; exact H
              clear H
              have H := H1
              clear H1
              by_cases c18 : t240.toList = t245.toList
              · rw [if_pos c18] at H
                have c18b0 : (t240.toList == t245.toList) = true := beq_iff_eq.mpr c18
                have c18b1 : (t240.toList != t245.toList) = false := bne_eq_false_iff_eq.mpr c18
                clear c18
                by_cases c19 : t241 = t246
                · rw [if_pos c19] at H
                  have c19b0 : (t241 == t246) = true := beq_iff_eq.mpr c19
                  have c19b1 : (t241 != t246) = false := bne_eq_false_iff_eq.mpr c19
                  clear c19
                  replace H := Option.bind_eq_some_iff.mp H
                  obtain ⟨t253, A200, H⟩ := H
                  replace H : ((carlingref24_Slash.f a0).bind fun t254 => (if (t253 == t254) = true then ((carlinglaw24_alive.f k).bind fun t255 => (some t255)) else (none))) = some r := H
                  have A20 := Aside0.mk A200
                  clear A200
                  replace H := Option.bind_eq_some_iff.mp H
                  obtain ⟨t254, A210, H⟩ := H
                  replace H : (if (t253 == t254) = true then ((carlinglaw24_alive.f k).bind fun t255 => (some t255)) else (none)) = some r := H
                  have A21 := Aside0.mk A210
                  clear A210
                  by_cases c22 : (t253 == t254) = true
                  · rw [if_pos c22] at H
                    have c22b0 : (t253 == t254) = true := c22
                    (try (have c22b1 : decide (t253 = t254) = true := by simpa using c22))
                    (try (have c22b2 : (t253 == t254) = true := by simpa using c22))
                    clear c22
                    replace H := Option.bind_eq_some_iff.mp H
                    obtain ⟨t255, A230, H⟩ := H
                    replace H : (some t255) = some r := H
                    have A23 := Aside0.mk A230
                    clear A230
                    obtain rfl := Option.some.inj H
                    go_enter Tryd.func5, Tryd.ntmps5
                    go_wp2_with (first | ((with_reducible refine gate_callee (f := 12) rfl ?_); refine goesL_ (some 21) rfl rfl Tryd.func12 (by kernel_rfl) rfl #[.string a0] rfl (by (try simp only [List.map_toArray, List.map_cons, List.map_nil]); first | done | rfl | (simp only [List.length_drop, List.length_take]; rfl)) ?_; (with_reducible refine (name_Split.calls k a0 t229 t230 t231 _ A5.out).mono ?_); rintro e w24 ⟨v232, rfl, ho0, hb⟩; refine ⟨_, rfl, ?_⟩; have n0_ := Aside0.mk (Kd.R_lower ho0 (below_size (by repeat (first | (with_reducible first | exact HB.out | apply below_alloc | apply pw_below_drewN | apply below_drew1) | exact HB.out)))); have n1_ := Aside0.mk (below_step (by repeat (first | (with_reducible first | exact HB.out | apply below_alloc | apply pw_below_drewN | apply below_drew1) | exact HB.out)) hb); clear HB; have HO233 := n0_; have HB := n1_; clear n0_ n1_; (try clear hb); (try clear hb2); (try clear hk); (try clear hi); (try clear ho0)) | ((with_reducible refine gate_callee (f := 15) rfl ?_); refine goesL_ (some 27) rfl rfl Tryd.func15 (by kernel_rfl) rfl #[.string a0] rfl (by (try simp only [List.map_toArray, List.map_cons, List.map_nil]); first | done | rfl | (simp only [List.length_drop, List.length_take]; rfl)) ?_; (with_reducible refine (carlingref24_Split.calls k a0 t234 t235 t236 _ A6.out).mono ?_); rintro e w25 ⟨v237, rfl, ho0, hb⟩; refine ⟨_, rfl, ?_⟩; have n0_ := Aside0.mk (Kd.R_elder' (by (with_reducible repeat (first | apply Kd.R_alloc | apply Kd.R_drewN | apply Kd.R_drew)); exact HO233.out) (Kd.R_base ho0) hb); have n1_ := Aside0.mk (Kd.R_lower (Kd.R_new' ho0 (Kd.R_lt (by (with_reducible repeat (first | apply Kd.R_alloc | apply Kd.R_drewN | apply Kd.R_drew)); exact HO233.out))) (below_size (by repeat (first | (with_reducible first | exact HB.out | apply below_alloc | apply pw_below_drewN | apply below_drew1) | exact HB.out)))); have n2_ := Aside0.mk (below_step (by repeat (first | (with_reducible first | exact HB.out | apply below_alloc | apply pw_below_drewN | apply below_drew1) | exact HB.out)) hb); clear HO233; clear HB; have HO233 := n0_; have HO238 := n1_; have HB := n2_; clear n0_ n1_ n2_; (try clear hb); (try clear hb2); (try clear hk); (try clear hi); (try clear ho0)) | ((with_reducible refine gate_callee (f := 16) rfl ?_); refine goesL_ (some 33) rfl rfl Tryd.func16 (by kernel_rfl) rfl #[.string a0] rfl (by (try simp only [List.map_toArray, List.map_cons, List.map_nil]); first | done | rfl | (simp only [List.length_drop, List.length_take]; rfl)) ?_; (with_reducible refine (name_Last.calls k a0 t239 t240 t241 _ A7.out).mono ?_); rintro e w26 ⟨v242, rfl, ho0, hb⟩; refine ⟨_, rfl, ?_⟩; have n0_ := Aside0.mk (Kd.R_elder' (by (with_reducible repeat (first | apply Kd.R_alloc | apply Kd.R_drewN | apply Kd.R_drew)); exact HO233.out) (Kd.R_base ho0) hb); have n1_ := Aside0.mk (Kd.R_elder' (by (with_reducible repeat (first | apply Kd.R_alloc | apply Kd.R_drewN | apply Kd.R_drew)); exact HO238.out) (Kd.R_base ho0) hb); have n2_ := Aside0.mk (Kd.R_lower (Kd.R_new' (Kd.R_new' ho0 (Kd.R_lt (by (with_reducible repeat (first | apply Kd.R_alloc | apply Kd.R_drewN | apply Kd.R_drew)); exact HO233.out))) (Kd.R_lt (by (with_reducible repeat (first | apply Kd.R_alloc | apply Kd.R_drewN | apply Kd.R_drew)); exact HO238.out))) (below_size (by repeat (first | (with_reducible first | exact HB.out | apply below_alloc | apply pw_below_drewN | apply below_drew1) | exact HB.out)))); have n3_ := Aside0.mk (below_step (by repeat (first | (with_reducible first | exact HB.out | apply below_alloc | apply pw_below_drewN | apply below_drew1) | exact HB.out)) hb); clear HO233; clear HO238; clear HB; have HO233 := n0_; have HO238 := n1_; have HO243 := n2_; have HB := n3_; clear n0_ n1_ n2_ n3_; (try clear hb); (try clear hb2); (try clear hk); (try clear hi); (try clear ho0)) | ((with_reducible refine gate_callee (f := 17) rfl ?_); refine goesL_ (some 39) rfl rfl Tryd.func17 (by kernel_rfl) rfl #[.string a0] rfl (by (try simp only [List.map_toArray, List.map_cons, List.map_nil]); first | done | rfl | (simp only [List.length_drop, List.length_take]; rfl)) ?_; (with_reducible refine (carlingref24_Last.calls k a0 t244 t245 t246 _ A8.out).mono ?_); rintro e w27 ⟨v247, rfl, ho0, hb⟩; refine ⟨_, rfl, ?_⟩; have n0_ := Aside0.mk (Kd.R_elder' (by (with_reducible repeat (first | apply Kd.R_alloc | apply Kd.R_drewN | apply Kd.R_drew)); exact HO233.out) (Kd.R_base ho0) hb); have n1_ := Aside0.mk (Kd.R_elder' (by (with_reducible repeat (first | apply Kd.R_alloc | apply Kd.R_drewN | apply Kd.R_drew)); exact HO238.out) (Kd.R_base ho0) hb); have n2_ := Aside0.mk (Kd.R_elder' (by (with_reducible repeat (first | apply Kd.R_alloc | apply Kd.R_drewN | apply Kd.R_drew)); exact HO243.out) (Kd.R_base ho0) hb); have n3_ := Aside0.mk (Kd.R_lower (Kd.R_new' (Kd.R_new' (Kd.R_new' ho0 (Kd.R_lt (by (with_reducible repeat (first | apply Kd.R_alloc | apply Kd.R_drewN | apply Kd.R_drew)); exact HO233.out))) (Kd.R_lt (by (with_reducible repeat (first | apply Kd.R_alloc | apply Kd.R_drewN | apply Kd.R_drew)); exact HO238.out))) (Kd.R_lt (by (with_reducible repeat (first | apply Kd.R_alloc | apply Kd.R_drewN | apply Kd.R_drew)); exact HO243.out))) (below_size (by repeat (first | (with_reducible first | exact HB.out | apply below_alloc | apply pw_below_drewN | apply below_drew1) | exact HB.out)))); have n4_ := Aside0.mk (below_step (by repeat (first | (with_reducible first | exact HB.out | apply below_alloc | apply pw_below_drewN | apply below_drew1) | exact HB.out)) hb); clear HO233; clear HO238; clear HO243; clear HB; have HO233 := n0_; have HO238 := n1_; have HO243 := n2_; have HO248 := n3_; have HB := n4_; clear n0_ n1_ n2_ n3_ n4_; (try clear hb); (try clear hb2); (try clear hk); (try clear hi); (try clear ho0)) | ((with_reducible refine gate_callee (f := 13) rfl ?_); refine goesL_ (some 44) rfl rfl Tryd.func13 (by kernel_rfl) rfl #[.string a0] rfl (by (try simp only [List.map_toArray, List.map_cons, List.map_nil]); first | done | rfl | (simp only [List.length_drop, List.length_take]; rfl)) ?_; (with_reducible refine (name_May.calls a0 t249 _ A9.out).mono ?_); rintro e w28 ⟨rfl, hb⟩; refine ⟨_, rfl, ?_⟩; have n0_ := Aside0.mk (Kd.R_below (by (with_reducible repeat (first | apply Kd.R_alloc | apply Kd.R_drewN | apply Kd.R_drew)); exact HO233.out) hb); have n1_ := Aside0.mk (Kd.R_below (by (with_reducible repeat (first | apply Kd.R_alloc | apply Kd.R_drewN | apply Kd.R_drew)); exact HO238.out) hb); have n2_ := Aside0.mk (Kd.R_below (by (with_reducible repeat (first | apply Kd.R_alloc | apply Kd.R_drewN | apply Kd.R_drew)); exact HO243.out) hb); have n3_ := Aside0.mk (Kd.R_below (by (with_reducible repeat (first | apply Kd.R_alloc | apply Kd.R_drewN | apply Kd.R_drew)); exact HO248.out) hb); have n4_ := Aside0.mk (below_step (by repeat (first | (with_reducible first | exact HB.out | apply below_alloc | apply pw_below_drewN | apply below_drew1) | exact HB.out)) hb); clear HO233; clear HO238; clear HO243; clear HO248; clear HB; have HO233 := n0_; have HO238 := n1_; have HO243 := n2_; have HO248 := n3_; have HB := n4_; clear n0_ n1_ n2_ n3_ n4_; (try clear hb); (try clear hb2); (try clear hk); (try clear hi)) | ((with_reducible refine gate_callee (f := 18) rfl ?_); refine goesL_ (some 46) rfl rfl Tryd.func18 (by kernel_rfl) rfl #[.string a0] rfl (by (try simp only [List.map_toArray, List.map_cons, List.map_nil]); first | done | rfl | (simp only [List.length_drop, List.length_take]; rfl)) ?_; (with_reducible refine (carlingref24_May.calls k a0 t250 _ A10.out).mono ?_); rintro e w' ⟨rfl, ⟨nd, rfl⟩⟩; refine ⟨_, rfl, ?_⟩; obtain ⟨Ao29, co29, eo29⟩ := Kd.R_slice HO233.out; subst eo29; obtain ⟨Ao30, co30, eo30⟩ := Kd.R_slice HO238.out; subst eo30) | (go_at_call 14; (with_reducible refine (carlinglaw24_same.calls k _ _ t229 _ _ t234 true _ ?side1 ?side2 ?side3 ?side4 A12.out).mono ?_); (case side1 => repeat (first | exact (Kd.R_reads' HO233.out).2.2 | (with_reducible refine Kd.C_alloc ?_ _) | (with_reducible refine Kd.C_drewN ?_ _) | (with_reducible refine Kd.C_drew ?_))); (case side2 => exact (Kd.R_reads' HO233.out).2.1); (case side3 => repeat (first | exact (Kd.R_reads' HO238.out).2.2 | (with_reducible refine Kd.C_alloc ?_ _) | (with_reducible refine Kd.C_drewN ?_ _) | (with_reducible refine Kd.C_drew ?_))); (case side4 => exact (Kd.R_reads' HO238.out).2.1); rintro e w' ⟨rfl, ⟨nd, rfl⟩⟩; obtain ⟨Ao31, co31, eo31⟩ := Kd.R_slice HO243.out; subst eo31; obtain ⟨Ao32, co32, eo32⟩ := Kd.R_slice HO248.out; subst eo32) | (go_at_call 14; (with_reducible refine (carlinglaw24_same.calls k _ _ t239 _ _ t244 true _ ?side1 ?side2 ?side3 ?side4 A16.out).mono ?_); (case side1 => repeat (first | exact (Kd.R_reads' HO243.out).2.2 | (with_reducible refine Kd.C_alloc ?_ _) | (with_reducible refine Kd.C_drewN ?_ _) | (with_reducible refine Kd.C_drew ?_))); (case side2 => exact (Kd.R_reads' HO243.out).2.1); (case side3 => repeat (first | exact (Kd.R_reads' HO248.out).2.2 | (with_reducible refine Kd.C_alloc ?_ _) | (with_reducible refine Kd.C_drewN ?_ _) | (with_reducible refine Kd.C_drew ?_))); (case side4 => exact (Kd.R_reads' HO248.out).2.1); rintro e w' ⟨rfl, ⟨nd, rfl⟩⟩) | (go_at_call 19; (with_reducible refine (name_Slash.calls a0 t253 _ A20.out).mono ?_); rintro e w' ⟨rfl, ⟨nd, rfl⟩⟩) | (go_at_call 20; (with_reducible refine (carlingref24_Slash.calls a0 t254 _ A21.out).mono ?_); rintro e w' ⟨rfl, ⟨nd, rfl⟩⟩) | (go_at_call 7; (with_reducible refine (carlinglaw24_alive.calls k  t255 _ A23.out).mono ?_); rintro e w33 ⟨rfl, hb⟩; have n0_ := Aside0.mk (Kd.R_below (by (with_reducible repeat (first | apply Kd.R_alloc | apply Kd.R_drewN | apply Kd.R_drew)); exact HO233.out) hb); have n1_ := Aside0.mk (Kd.R_below (by (with_reducible repeat (first | apply Kd.R_alloc | apply Kd.R_drewN | apply Kd.R_drew)); exact HO238.out) hb); have n2_ := Aside0.mk (Kd.R_below (by (with_reducible repeat (first | apply Kd.R_alloc | apply Kd.R_drewN | apply Kd.R_drew)); exact HO243.out) hb); have n3_ := Aside0.mk (Kd.R_below (by (with_reducible repeat (first | apply Kd.R_alloc | apply Kd.R_drewN | apply Kd.R_drew)); exact HO248.out) hb); have n4_ := Aside0.mk (below_step (by repeat (first | (with_reducible first | exact HB.out | apply below_alloc | apply pw_below_drewN | apply below_drew1) | exact HB.out)) hb); clear HO233; clear HO238; clear HO243; clear HO248; clear HB; have HO233 := n0_; have HO238 := n1_; have HO243 := n2_; have HO248 := n3_; have HB := n4_; clear n0_ n1_ n2_ n3_ n4_; (try clear hb); (try clear hb2); (try clear hk); (try clear hi)))
                    go_ret
                    exact ⟨by first | rfl | (simp [errW_none, errW_some] <;> rfl) | (simp [*, errW_none, errW_some] <;> rfl), by repeat (first | (with_reducible first | exact HB.out | apply below_alloc | apply pw_below_drewN | apply below_drew1) | exact HB.out)⟩
                  · rw [if_neg c22] at H
                    exact absurd H (by simp)
                · rw [if_neg c19] at H
                  exact absurd H (by simp)
              · rw [if_neg c18] at H
                exact absurd H (by simp)
            · replace c17 := Bool.eq_false_iff.mpr c17
              subst c17
              have H1 : (none) = some r := by rw [if_neg (show ¬ (false = true) by decide)] at H; exact H
              clear H
              have H := H1
              clear H1
              exact absurd H (by simp)
          · rw [if_neg c15] at H
            exact absurd H (by simp)
        · rw [if_neg c14] at H
          exact absurd H (by simp)
      · replace c13 := Bool.eq_false_iff.mpr c13
        subst c13
        have H1 : (none) = some r := by rw [if_neg (show ¬ (false = true) by decide)] at H; exact H
        clear H
        have H := H1
        clear H1
        exact absurd H (by simp)
    · rw [if_neg c11] at H
      exact absurd H (by simp)

/-- THE ONE PURE STATEMENT of carlinglaw24_NameSplits: yours. -/
def carlinglaw24_NameSplits.Pure : Prop := ∀ (a0 : ByteArray), a0.size ≤ 140737488351232 → ∃ k, carlinglaw24_NameSplits.f k a0 = some true
theorem carlinglaw24_NameSplits.walk (P : carlinglaw24_NameSplits.Pure) (a0 : ByteArray) (w : World) (w0 : a0.size ≤ 140737488351232) :
    Calls Tryd.prog 5 #[.string a0] w fun e w' => e = .returned (.bool true) ∧ Below w.heap.size w w' := by
  obtain ⟨k, h⟩ := P a0 w0
  refine (carlinglaw24_NameSplits.calls k a0 true w h).mono ?_
  rintro e w' ⟨rfl, hd⟩
  exact ⟨rfl, hd⟩

/-! ### carlinglaw24_NameLasts: function 6 -/
def carlinglaw24_NameLasts.j0 : Nat → List ByteArray → ByteArray → Int → List ByteArray → Bool → Option (Bool)
  | 0, _, _, _, _, _ => none
  | k + 1, x3, x4, x5, x6, x50 => if x50 = true then (if x5 = 1 then (if (x3.length : Int) = 0 then (if x4.toList = ([] : List UInt8) then ((carlinglaw24_alive.f k).bind fun t268 => (some t268)) else (none)) else (none)) else (none)) else (if x5 = 0 then (if ([] : List ByteArray).length + x3.length < 8796093022208 then ((some (([] : List ByteArray) ++ x3 : List ByteArray)).bind fun y269 => (if y269.length < 8796093022208 then ((carlinglaw24_same.f k (y269 ++ [x4]) x6).bind fun t275 => (if t275 = true then ((name_May.f x4).bind fun t276 => (if t276 = 0 then ((carlinglaw24_alive.f k).bind fun t277 => (some t277)) else (none))) else (none))) else (none))) else (none)) else (none))
def carlinglaw24_NameLasts.f (k : Nat) (a0 : ByteArray) : Option (Bool) := (name_Last.f k a0).bind fun bt256 => ((name_Split.f k a0).bind fun bt261 => (if bt261.2.2 = 0 then (if (bt261.1.length : Int) = 0 then (carlinglaw24_NameLasts.j0 k bt256.1 bt256.2.1 bt256.2.2 bt261.1 true) else (if 0 ≤ (wrap64 ((bt261.1.length : Int) - 1)) then (if (wrap64 ((bt261.1.length : Int) - 1)) < (bt261.1.length : Int) then (carlinglaw24_NameLasts.j0 k bt256.1 bt256.2.1 bt256.2.2 bt261.1 ((rdOf ByteArray.empty bt261.1 (wrap64 ((bt261.1.length : Int) - 1))).toList == ([46, 46] : List UInt8))) else (none)) else (none))) else (if bt256.2.2 = bt261.2.2 then (if (bt256.1.length : Int) = 0 then (if bt256.2.1.toList = ([] : List UInt8) then ((carlinglaw24_alive.f k).bind fun t266 => (some t266)) else (none)) else (none)) else (none))))
theorem carlinglaw24_NameLasts.mono_l : ∀ k, (∀ y0 y1 y2 y3 y4, LeO (carlinglaw24_NameLasts.j0 k y0 y1 y2 y3 y4) (carlinglaw24_NameLasts.j0 (k + 1) y0 y1 y2 y3 y4))
  | 0 => fun _ _ _ _ _ r h => by simp [carlinglaw24_NameLasts.j0] at h
  | k + 1 => by
    have ih0 := carlinglaw24_NameLasts.mono_l k
    · intro y0 y1 y2 y3 y4
      unfold carlinglaw24_NameLasts.j0
      repeat' first
      | (with_reducible exact ih0 _ _ _ _ _)
      | (with_reducible exact carlinglaw24_alive.mono _)
      | (with_reducible exact carlinglaw24_same.mono _ _ _)
      | (with_reducible exact name_Last.mono _ _)
      | (with_reducible exact name_Split.mono _ _)
      | (with_reducible exact LeO.refl _)
      | (with_reducible exact LeO.none _)
      | (with_reducible refine LeO.ite ?_ ?_)
      | (with_reducible refine LeO.bind ?_ (fun _ => ?_))
      | exact ih0 _ _ _ _ _
      | exact carlinglaw24_alive.mono _
      | exact carlinglaw24_same.mono _ _ _
      | exact name_Last.mono _ _
      | exact name_Split.mono _ _
      | exact LeO.none _
      | refine LeO.ite ?_ ?_
      | refine LeO.bind ?_ (fun _ => ?_)
theorem carlinglaw24_NameLasts.mono : ∀ a0 k, LeO (carlinglaw24_NameLasts.f k a0) (carlinglaw24_NameLasts.f (k + 1) a0) := by
  intro a0 k
  have ih0 := carlinglaw24_NameLasts.mono_l k
  unfold carlinglaw24_NameLasts.f
  repeat' first
      | (with_reducible exact ih0 _ _ _ _ _)
      | (with_reducible exact carlinglaw24_alive.mono _)
      | (with_reducible exact carlinglaw24_same.mono _ _ _)
      | (with_reducible exact name_Last.mono _ _)
      | (with_reducible exact name_Split.mono _ _)
      | (with_reducible exact LeO.refl _)
      | (with_reducible exact LeO.none _)
      | (with_reducible refine LeO.ite ?_ ?_)
      | (with_reducible refine LeO.bind ?_ (fun _ => ?_))
      | exact ih0 _ _ _ _ _
      | exact carlinglaw24_alive.mono _
      | exact carlinglaw24_same.mono _ _ _
      | exact name_Last.mono _ _
      | exact name_Split.mono _ _
      | exact LeO.none _
      | refine LeO.ite ?_ ?_
      | refine LeO.bind ?_ (fun _ => ?_)
set_option maxHeartbeats 8000000 in
set_option maxRecDepth 100000 in
theorem carlinglaw24_NameLasts.calls (k : Nat) (a0 : ByteArray) (r : Bool) (w : World) (h : carlinglaw24_NameLasts.f k a0 = some r) :
    Calls Tryd.prog 6 #[.string a0] w fun e w' => e = .returned (.bool r) ∧ Below w.heap.size w w' := by
  have HB := Aside0.mk (Below.refl w.heap.size w)
  have H : ((name_Last.f k a0).bind fun bt256 => ((name_Split.f k a0).bind fun bt261 => (if bt261.2.2 = 0 then (if (bt261.1.length : Int) = 0 then (carlinglaw24_NameLasts.j0 k bt256.1 bt256.2.1 bt256.2.2 bt261.1 true) else (if 0 ≤ (wrap64 ((bt261.1.length : Int) - 1)) then (if (wrap64 ((bt261.1.length : Int) - 1)) < (bt261.1.length : Int) then (carlinglaw24_NameLasts.j0 k bt256.1 bt256.2.1 bt256.2.2 bt261.1 ((rdOf ByteArray.empty bt261.1 (wrap64 ((bt261.1.length : Int) - 1))).toList == ([46, 46] : List UInt8))) else (none)) else (none))) else (if bt256.2.2 = bt261.2.2 then (if (bt256.1.length : Int) = 0 then (if bt256.2.1.toList = ([] : List UInt8) then ((carlinglaw24_alive.f k).bind fun t266 => (some t266)) else (none)) else (none)) else (none))))) = some r := h
  clear h
  replace H := Option.bind_eq_some_iff.mp H
  obtain ⟨⟨t256, t257, t258⟩, A20, H⟩ := H
  replace H : ((name_Split.f k a0).bind fun bt261 => (if bt261.2.2 = 0 then (if (bt261.1.length : Int) = 0 then (carlinglaw24_NameLasts.j0 k t256 t257 t258 bt261.1 true) else (if 0 ≤ (wrap64 ((bt261.1.length : Int) - 1)) then (if (wrap64 ((bt261.1.length : Int) - 1)) < (bt261.1.length : Int) then (carlinglaw24_NameLasts.j0 k t256 t257 t258 bt261.1 ((rdOf ByteArray.empty bt261.1 (wrap64 ((bt261.1.length : Int) - 1))).toList == ([46, 46] : List UInt8))) else (none)) else (none))) else (if t258 = bt261.2.2 then (if (t256.length : Int) = 0 then (if t257.toList = ([] : List UInt8) then ((carlinglaw24_alive.f k).bind fun t266 => (some t266)) else (none)) else (none)) else (none)))) = some r := H
  have A2 := Aside0.mk A20
  clear A20
  replace H := Option.bind_eq_some_iff.mp H
  obtain ⟨⟨t261, t262, t263⟩, A30, H⟩ := H
  replace H : (if t263 = 0 then (if (t261.length : Int) = 0 then (carlinglaw24_NameLasts.j0 k t256 t257 t258 t261 true) else (if 0 ≤ (wrap64 ((t261.length : Int) - 1)) then (if (wrap64 ((t261.length : Int) - 1)) < (t261.length : Int) then (carlinglaw24_NameLasts.j0 k t256 t257 t258 t261 ((rdOf ByteArray.empty t261 (wrap64 ((t261.length : Int) - 1))).toList == ([46, 46] : List UInt8))) else (none)) else (none))) else (if t258 = t263 then (if (t256.length : Int) = 0 then (if t257.toList = ([] : List UInt8) then ((carlinglaw24_alive.f k).bind fun t266 => (some t266)) else (none)) else (none)) else (none))) = some r := H
  have A3 := Aside0.mk A30
  clear A30
  by_cases c4 : t263 = 0
  · rw [if_pos c4] at H
    have c4b0 : (t263 == 0) = true := beq_iff_eq.mpr c4
    have c4b1 : (t263 != 0) = false := bne_eq_false_iff_eq.mpr c4
    clear c4
    have HC5 := Aside0.mk H
    clear H
    go_enter Tryd.func6, Tryd.ntmps6
    go_upto_region 6 with (first | ((with_reducible refine gate_callee (f := 16) rfl ?_); refine goesL_ (some 12) rfl rfl Tryd.func16 (by kernel_rfl) rfl #[.string a0] rfl (by (try simp only [List.map_toArray, List.map_cons, List.map_nil]); first | done | rfl | (simp only [List.length_drop, List.length_take]; rfl)) ?_; (with_reducible refine (name_Last.calls k a0 t256 t257 t258 _ A2.out).mono ?_); rintro e w6 ⟨v259, rfl, ho0, hb⟩; refine ⟨_, rfl, ?_⟩; have n0_ := Aside0.mk (Kd.R_lower ho0 (below_size (by repeat (first | (with_reducible first | exact HB.out | apply below_alloc | apply pw_below_drewN | apply below_drew1) | exact HB.out)))); have n1_ := Aside0.mk (below_step (by repeat (first | (with_reducible first | exact HB.out | apply below_alloc | apply pw_below_drewN | apply below_drew1) | exact HB.out)) hb); clear HB; have HO260 := n0_; have HB := n1_; clear n0_ n1_; (try clear hb); (try clear hb2); (try clear hk); (try clear hi); (try clear ho0)) | ((with_reducible refine gate_callee (f := 12) rfl ?_); refine goesL_ (some 18) rfl rfl Tryd.func12 (by kernel_rfl) rfl #[.string a0] rfl (by (try simp only [List.map_toArray, List.map_cons, List.map_nil]); first | done | rfl | (simp only [List.length_drop, List.length_take]; rfl)) ?_; (with_reducible refine (name_Split.calls k a0 t261 t262 t263 _ A3.out).mono ?_); rintro e w7 ⟨v264, rfl, ho0, hb⟩; refine ⟨_, rfl, ?_⟩; have n0_ := Aside0.mk (Kd.R_elder' (by (with_reducible repeat (first | apply Kd.R_alloc | apply Kd.R_drewN | apply Kd.R_drew)); exact HO260.out) (Kd.R_base ho0) hb); have n1_ := Aside0.mk (Kd.R_lower (Kd.R_new' ho0 (Kd.R_lt (by (with_reducible repeat (first | apply Kd.R_alloc | apply Kd.R_drewN | apply Kd.R_drew)); exact HO260.out))) (below_size (by repeat (first | (with_reducible first | exact HB.out | apply below_alloc | apply pw_below_drewN | apply below_drew1) | exact HB.out)))); have n2_ := Aside0.mk (below_step (by repeat (first | (with_reducible first | exact HB.out | apply below_alloc | apply pw_below_drewN | apply below_drew1) | exact HB.out)) hb); clear HO260; clear HB; have HO260 := n0_; have HO265 := n1_; have HB := n2_; clear n0_ n1_ n2_; (try clear hb); (try clear hb2); (try clear hk); (try clear hi); (try clear ho0); obtain ⟨Ao8, co8, eo8⟩ := Kd.R_slice HO265.out; subst eo8))
    (try simp only [Act.put, List.setIfInBounds_toArray, List.set_cons_zero, List.set_cons_succ])
    go_cut [50] (fun v50 wc => ∃ (kq : Nat) (x50_4 : Bool), v50 = .bool x50_4 ∧ Aside0 (carlinglaw24_NameLasts.j0 kq t256 t257 t258 t261 x50_4 = some r) ∧ Aside0 (kq ≤ k) ∧ Aside0 (Kd.R Kd.string 9 wc w.heap.size (fun k_ => some k_ ≠ ((.slice Ao8 t261.length co8) : Value).ownBlock) v259 t256) ∧ Aside0 (Kd.R Kd.string 9 wc w.heap.size (fun k_ => some k_ ≠ (v259 : Value).ownBlock) (.slice Ao8 t261.length co8) t261) ∧ Aside0 (Below w.heap.size w wc))
    case first =>
      have H := HC5.out
      clear HC5
      by_cases c9 : (t261.length : Int) = 0
      · rw [if_pos c9] at H
        have c9b0 : ((t261.length : Int) == 0) = true := beq_iff_eq.mpr c9
        have c9b1 : ((t261.length : Int) != 0) = false := bne_eq_false_iff_eq.mpr c9
        clear c9
        (first | rw [c9b0] | (simp only [i64_w, i32_w]; rw [c9b0]) | rw [c9b1] | skip)
        have H' := Aside0.mk H
        clear H
        go_wp2
        go_meet
        case rel => exact ⟨_, (true), (by first | rfl | (simp; done) | (simp [*]; done)), H', ⟨by first | omega | exact Nat.le_refl _⟩, ⟨by (with_reducible repeat (first | apply Kd.R_alloc | apply Kd.R_drewN | apply Kd.R_drew)); exact Kd.R_mono HO260.out (fun _ hk => hk.2)⟩, ⟨by (with_reducible repeat (first | apply Kd.R_alloc | apply Kd.R_drewN | apply Kd.R_drew)); exact Kd.R_mono HO265.out (fun _ hk => hk.2)⟩, ⟨by repeat (first | (with_reducible first | exact HB.out | apply below_alloc | apply pw_below_drewN | apply below_drew1) | exact HB.out)⟩⟩
      · rw [if_neg c9] at H
        have c9b0 : ((t261.length : Int) == 0) = false := beq_eq_false_iff_ne.mpr c9
        have c9b1 : ((t261.length : Int) != 0) = true := bne_iff_ne.mpr c9
        have c9b2 : ¬ (t261 = []) := fun h_ => c9 (by rw [h_]; rfl)
        (first | rw [c9b0] | (simp only [i64_w, i32_w]; rw [c9b0]) | rw [c9b1] | skip)
        obtain ⟨ji10, hji10⟩ : ∃ j_ : Int, (wrap64 ((t261.length : Int) - 1)) = j_ := ⟨_, rfl⟩
        replace H : (if 0 ≤ (ji10) then (if (ji10) < (t261.length : Int) then (carlinglaw24_NameLasts.j0 k t256 t257 t258 t261 ((rdOf ByteArray.empty t261 (ji10)).toList == ([46, 46] : List UInt8))) else (none)) else (none)) = some r := by first | (rw [hji10] at H; exact H) | (simp only [hji10] at H ⊢; exact H)
        have hji10w : (IntKind.i64.wrap ((t261.length : Int) - 1)) = ji10 := (i64_w _).trans hji10
        by_cases c11 : 0 ≤ (ji10)
        · rw [if_pos c11] at H
          have c11b0 : decide (0 ≤ (ji10)) = true := decide_eq_true c11
          clear c11
          by_cases c12 : (ji10) < (t261.length : Int)
          · rw [if_pos c12] at H
            have c12b0 : decide ((ji10) < (t261.length : Int)) = true := decide_eq_true c12
            clear c12
            have H' := Aside0.mk H
            clear H
            have p267 : 0 ≤ ((ji10) : Int) := of_decide_eq_true (by first | (with_reducible assumption) | assumption)
            have q267 : (ji10) < (t261.length : Int) := of_decide_eq_true (by first | (with_reducible assumption) | assumption)
            obtain ⟨ad267, e267, hx267_0⟩ := Kd.at_string (Kd.R_reads' HO265.out).2.2 (ji10) p267 q267
            cases e267
            replace p267 := eq_true p267
            replace q267 := eq_true q267
            go_wp2
            go_meet
            case rel => exact ⟨_, (((rdOf ByteArray.empty t261 (ji10)).toList == ([46, 46] : List UInt8))), (by first | rfl | (simp; done) | (simp only [← hji10] <;> (first | rfl | simp)) | (simp [*]; done)), H', ⟨by first | omega | exact Nat.le_refl _⟩, ⟨by (with_reducible repeat (first | apply Kd.R_alloc | apply Kd.R_drewN | apply Kd.R_drew)); exact Kd.R_mono HO260.out (fun _ hk => hk.2)⟩, ⟨by (with_reducible repeat (first | apply Kd.R_alloc | apply Kd.R_drewN | apply Kd.R_drew)); exact Kd.R_mono HO265.out (fun _ hk => hk.2)⟩, ⟨by repeat (first | (with_reducible first | exact HB.out | apply below_alloc | apply pw_below_drewN | apply below_drew1) | exact HB.out)⟩⟩
          · rw [if_neg c12] at H
            exact absurd H (by simp)
        · rw [if_neg c11] at H
          exact absurd H (by simp)
    case rest =>
      clear HC5
      try clear c1
      try clear p2
      try clear q2
      try clear hx2
      try clear c4
      try clear c4b0
      try clear c4b1
      try clear c6
      try clear p6
      try clear c9
      try clear c9b0
      try clear c9b1
      try clear c9b2
      try clear c11
      try clear c11b0
      try clear c12
      try clear c12b0
      try clear hx267_0
      try clear p267
      try clear q267
      obtain ⟨kq, x50_4, rfl, HA, HJ4, HO_3, HO_6, HB⟩ := hcut
      cases kq with
      | zero => exact absurd HA.out (by simp [carlinglaw24_NameLasts.j0])
      | succ kj4 =>
        have H := HA.out
        clear HA
        simp only [carlinglaw24_NameLasts.j0] at H
        by_cases c13 : x50_4 = true
        · subst c13
          have H1 : (if t258 = 1 then (if (t256.length : Int) = 0 then (if t257.toList = ([] : List UInt8) then ((carlinglaw24_alive.f kj4).bind fun t268 => (some t268)) else (none)) else (none)) else (none)) = some r := by rw [if_pos rfl] at H; exact H
          clear H
          have H := H1
          clear H1
          by_cases c14 : t258 = 1
          · rw [if_pos c14] at H
            have c14b0 : (t258 == 1) = true := beq_iff_eq.mpr c14
            have c14b1 : (t258 != 1) = false := bne_eq_false_iff_eq.mpr c14
            clear c14
            by_cases c15 : (t256.length : Int) = 0
            · rw [if_pos c15] at H
              have c15b0 : ((t256.length : Int) == 0) = true := beq_iff_eq.mpr c15
              have c15b1 : ((t256.length : Int) != 0) = false := bne_eq_false_iff_eq.mpr c15
              clear c15
              by_cases c16 : t257.toList = ([] : List UInt8)
              · rw [if_pos c16] at H
                have c16b0 : (t257.toList == ([] : List UInt8)) = true := beq_iff_eq.mpr c16
                have c16b1 : (t257.toList != ([] : List UInt8)) = false := bne_eq_false_iff_eq.mpr c16
                clear c16
                replace H := Option.bind_eq_some_iff.mp H
                obtain ⟨t268, A170, H⟩ := H
                replace H : (some t268) = some r := H
                have A17 := Aside0.mk A170
                clear A170
                obtain rfl := Option.some.inj H
                obtain ⟨Ao18, co18, eo18⟩ := Kd.R_slice HO_3.out
                subst eo18
                go_wp2_with (first | (go_at_call 7; (with_reducible refine (carlinglaw24_alive.calls kj4  t268 _ A17.out).mono ?_); rintro e w19 ⟨rfl, hb⟩; have n0_ := Aside0.mk (Kd.R_below (by (with_reducible repeat (first | apply Kd.R_alloc | apply Kd.R_drewN | apply Kd.R_drew)); exact HO_3.out) hb); have n1_ := Aside0.mk (Kd.R_below (by (with_reducible repeat (first | apply Kd.R_alloc | apply Kd.R_drewN | apply Kd.R_drew)); exact HO_6.out) hb); have n2_ := Aside0.mk (below_step (by repeat (first | (with_reducible first | exact HB.out | apply below_alloc | apply pw_below_drewN | apply below_drew1) | exact HB.out)) hb); clear HO_3; clear HO_6; clear HB; have HO_3 := n0_; have HO_6 := n1_; have HB := n2_; clear n0_ n1_ n2_; (try clear hb); (try clear hb2); (try clear hk); (try clear hi)))
                go_ret
                exact ⟨by first | rfl | (simp [errW_none, errW_some] <;> rfl) | (simp [*, errW_none, errW_some] <;> rfl), by repeat (first | (with_reducible first | exact HB.out | apply below_alloc | apply pw_below_drewN | apply below_drew1) | exact HB.out)⟩
              · rw [if_neg c16] at H
                exact absurd H (by simp)
            · rw [if_neg c15] at H
              exact absurd H (by simp)
          · rw [if_neg c14] at H
            exact absurd H (by simp)
        · replace c13 := Bool.eq_false_iff.mpr c13
          subst c13
          have H1 : (if t258 = 0 then (if ([] : List ByteArray).length + t256.length < 8796093022208 then ((some (([] : List ByteArray) ++ t256 : List ByteArray)).bind fun y269 => (if y269.length < 8796093022208 then ((carlinglaw24_same.f kj4 (y269 ++ [t257]) t261).bind fun t275 => (if t275 = true then ((name_May.f t257).bind fun t276 => (if t276 = 0 then ((carlinglaw24_alive.f kj4).bind fun t277 => (some t277)) else (none))) else (none))) else (none))) else (none)) else (none)) = some r := by rw [if_neg (show ¬ (false = true) by decide)] at H; exact H
          clear H
          have H := H1
          clear H1
          by_cases c20 : t258 = 0
          · rw [if_pos c20] at H
            have c20b0 : (t258 == 0) = true := beq_iff_eq.mpr c20
            have c20b1 : (t258 != 0) = false := bne_eq_false_iff_eq.mpr c20
            clear c20
            by_cases c21 : ([] : List ByteArray).length + t256.length < 8796093022208
            · rw [if_pos c21] at H
              have LMc21 := Aside0.mk c21
              clear c21
              obtain ⟨y269, hy269⟩ : ∃ y_ : List ByteArray, y_ = (([] : List ByteArray) ++ t256) := ⟨_, rfl⟩
              replace H : (if y269.length < 8796093022208 then ((carlinglaw24_same.f kj4 (y269 ++ [t257]) t261).bind fun t275 => (if t275 = true then ((name_May.f t257).bind fun t276 => (if t276 = 0 then ((carlinglaw24_alive.f kj4).bind fun t277 => (some t277)) else (none))) else (none))) else (none)) = some r := by first | (rw [hy269]; with_reducible exact H) | (have H2_ := (Option.bind_some _ _).symm.trans H; rw [hy269]; with_reducible exact H2_) | (have H2_ := (Option.bind_some _ _).symm.trans H; with_reducible exact H2_) | with_reducible exact H | (rw [hy269]; exact H) | exact H
              have Ny269 := Aside0.mk hy269
              clear hy269
              by_cases c22 : y269.length < 8796093022208
              · rw [if_pos c22] at H
                have LMc22 := Aside0.mk c22
                clear c22
                obtain ⟨y272, hy272⟩ : ∃ y_ : List ByteArray, y_ = (y269 ++ [t257]) := ⟨_, rfl⟩
                replace H : ((carlinglaw24_same.f kj4 y272 t261).bind fun t275 => (if t275 = true then ((name_May.f t257).bind fun t276 => (if t276 = 0 then ((carlinglaw24_alive.f kj4).bind fun t277 => (some t277)) else (none))) else (none))) = some r := by first | (rw [hy272]; with_reducible exact H) | (have H2_ := (Option.bind_some _ _).symm.trans H; rw [hy272]; with_reducible exact H2_) | (have H2_ := (Option.bind_some _ _).symm.trans H; with_reducible exact H2_) | with_reducible exact H | (rw [hy272]; exact H) | exact H
                have Ny272 := Aside0.mk hy272
                clear hy272
                replace H := Option.bind_eq_some_iff.mp H
                obtain ⟨t275, A230, H⟩ := H
                replace H : (if t275 = true then ((name_May.f t257).bind fun t276 => (if t276 = 0 then ((carlinglaw24_alive.f kj4).bind fun t277 => (some t277)) else (none))) else (none)) = some r := H
                have A23 := Aside0.mk A230
                clear A230
                by_cases c24 : t275 = true
                · subst c24
                  have H1 : ((name_May.f t257).bind fun t276 => (if t276 = 0 then ((carlinglaw24_alive.f kj4).bind fun t277 => (some t277)) else (none))) = some r := by rw [if_pos rfl] at H; exact H
                  clear H
                  have H := H1
                  clear H1
                  replace H := Option.bind_eq_some_iff.mp H
                  obtain ⟨t276, A250, H⟩ := H
                  replace H : (if t276 = 0 then ((carlinglaw24_alive.f kj4).bind fun t277 => (some t277)) else (none)) = some r := H
                  have A25 := Aside0.mk A250
                  clear A250
                  by_cases c26 : t276 = 0
                  · rw [if_pos c26] at H
                    have c26b0 : (t276 == 0) = true := beq_iff_eq.mpr c26
                    have c26b1 : (t276 != 0) = false := bne_eq_false_iff_eq.mpr c26
                    clear c26
                    replace H := Option.bind_eq_some_iff.mp H
                    obtain ⟨t277, A270, H⟩ := H
                    replace H : (some t277) = some r := H
                    have A27 := Aside0.mk A270
                    clear A270
                    obtain rfl := Option.some.inj H
                    obtain ⟨Ao29, co29, eo29⟩ := Kd.R_slice HO_3.out
                    subst eo29
                    go_wp2_with (first | ((with_reducible refine gate_builtin (b := .append) (xs := #[.const (.slice none 0 0), .tmp 68]) rfl ?_); (try (refine gate_guard (by rfl) ?_; dsimp only)); at_builtin; refine Kd.R_append_rows Kd.string (w0 := w) w.heap.size rfl (.const (.slice none 0 0)) (.tmp 68) 22 9 (.string ⟨#[]⟩) 16 rfl Tryd.underlying22 info9 rfl (by decide) (by omega) (.slice none 0 0) ([] : List ByteArray) t256 _ _ _ (fun k_ => some k_ ≠ (.slice Ao29 t256.length co29 : Value).ownBlock ∧ some k_ ≠ (.slice Ao8 t261.length co8 : Value).ownBlock) (fun _ => False) rfl rfl ?aO ?aR (fun _ _ h => h) (fun _ h => h.elim) ?aF ?aB ?aS ?aL ?_; (case aR => repeat (first | exact (Kd.R_reads' HO_3.out).2.2 | (with_reducible refine Kd.C_alloc ?_ _) | (with_reducible refine Kd.C_drewN ?_ _) | (with_reducible refine Kd.C_drew ?_))); (case aB => exact (by repeat (first | (with_reducible first | exact HB.out | apply below_alloc | apply pw_below_drewN | apply below_drew1) | exact HB.out))); (case aF => exact (fun k_ hk => ⟨Kd.fresh' (Kd.R_lt (by (with_reducible repeat (first | apply Kd.R_alloc | apply Kd.R_drewN | apply Kd.R_drew)); exact HO_3.out)) k_ hk, Kd.fresh' (Kd.R_lt (by (with_reducible repeat (first | apply Kd.R_alloc | apply Kd.R_drewN | apply Kd.R_drew)); exact HO_6.out)) k_ hk⟩)); (case aO => exact ((Kd.R_nil _ _ _ _ (fun k_ => some k_ ≠ (.slice Ao29 t256.length co29 : Value).ownBlock ∧ some k_ ≠ (.slice Ao8 t261.length co8 : Value).ownBlock)))); (case aS => exact (below_size (by repeat (first | (with_reducible first | exact HB.out | apply below_alloc | apply pw_below_drewN | apply below_drew1) | exact HB.out)))); (case aL => have := LMc21.out; omega); intro v270 w28 ho hb hg hat; rw [← Ny269.out] at ho; have n0_ := Aside0.mk (Kd.R_after (Kd.R_apart_nil (by (with_reducible repeat (first | apply Kd.R_alloc | apply Kd.R_drewN | apply Kd.R_drew)); exact HO_3.out)) hg hat); have n1_ := Aside0.mk (Kd.R_after (Kd.R_apart_nil (by (with_reducible repeat (first | apply Kd.R_alloc | apply Kd.R_drewN | apply Kd.R_drew)); exact HO_6.out)) hg hat); have n2_ := Aside0.mk (hb); have n3_ := Aside0.mk (ho); clear HO_3; clear HO_6; clear HB; have HO_3 := n0_; have HO_6 := n1_; have HB := n2_; have HO271 := n3_; clear n0_ n1_ n2_ n3_; clear ho hb hg hat) | ((with_reducible refine gate_builtin (b := .append) (xs := #[.tmp 69, .tmp 71]) rfl ?_); (try (refine gate_guard (by rfl) ?_; dsimp only)); at_builtin; refine Kd.R_append Kd.string (w0 := w) w.heap.size rfl (.tmp 69) (.tmp 71) 22 9 (.string ⟨#[]⟩) 16 rfl Tryd.underlying22 info9 rfl (by decide) (by omega) v270 y269 t257 [.string t257] (fun k_ => some k_ ≠ (.slice Ao29 t256.length co29 : Value).ownBlock ∧ some k_ ≠ (.slice Ao8 t261.length co8 : Value).ownBlock) (fun _ => False) rfl rfl ?aP (fun _ hk => hk.elim) ?aF ?aO ?aB ?aS ?aL ?_; (case aP => exact rfl); (case aB => exact (by repeat (first | (with_reducible first | exact HB.out | apply below_alloc | apply pw_below_drewN | apply below_drew1) | exact HB.out))); (case aF => exact (fun k_ hk => ⟨Kd.fresh' (Kd.R_lt (by (with_reducible repeat (first | apply Kd.R_alloc | apply Kd.R_drewN | apply Kd.R_drew)); exact HO_3.out)) k_ hk, Kd.fresh' (Kd.R_lt (by (with_reducible repeat (first | apply Kd.R_alloc | apply Kd.R_drewN | apply Kd.R_drew)); exact HO_6.out)) k_ hk⟩)); (case aO => exact (by (with_reducible repeat (first | apply Kd.R_alloc | apply Kd.R_drewN | apply Kd.R_drew)); exact HO271.out)); (case aS => exact (below_size (by repeat (first | (with_reducible first | exact HB.out | apply below_alloc | apply pw_below_drewN | apply below_drew1) | exact HB.out)))); (case aL => have := LMc22.out; omega); intro v273 w30 ho hb hg hat; rw [← Ny272.out] at ho; have n0_ := Aside0.mk (Kd.R_after (ok := (fun k_ => some k_ ≠ (.slice Ao8 t261.length co8 : Value).ownBlock)) (by (with_reducible repeat (first | apply Kd.R_alloc | apply Kd.R_drewN | apply Kd.R_drew)); exact HO_3.out) hg hat); have n1_ := Aside0.mk (Kd.R_after (ok := (fun k_ => some k_ ≠ (.slice Ao29 t256.length co29 : Value).ownBlock)) (by (with_reducible repeat (first | apply Kd.R_alloc | apply Kd.R_drewN | apply Kd.R_drew)); exact HO_6.out) hg hat); have n2_ := Aside0.mk (hb); have n3_ := Aside0.mk (ho); clear HO_3; clear HO_6; clear HB; clear HO271; have HO_3 := n0_; have HO_6 := n1_; have HB := n2_; have HO274 := n3_; clear n0_ n1_ n2_ n3_; clear ho hb hg hat; obtain ⟨Ao31, co31, eo31⟩ := Kd.R_slice HO274.out; subst eo31) | (go_at_call 14; (with_reducible refine (carlinglaw24_same.calls kj4 _ _ y272 _ _ t261 true _ ?side1 ?side2 ?side3 ?side4 A23.out).mono ?_); (case side1 => repeat (first | exact (Kd.R_reads' HO274.out).2.2 | (with_reducible refine Kd.C_alloc ?_ _) | (with_reducible refine Kd.C_drewN ?_ _) | (with_reducible refine Kd.C_drew ?_))); (case side2 => exact (Kd.R_reads' HO274.out).2.1); (case side3 => repeat (first | exact (Kd.R_reads' HO_6.out).2.2 | (with_reducible refine Kd.C_alloc ?_ _) | (with_reducible refine Kd.C_drewN ?_ _) | (with_reducible refine Kd.C_drew ?_))); (case side4 => exact (Kd.R_reads' HO_6.out).2.1); rintro e w' ⟨rfl, ⟨nd, rfl⟩⟩) | (go_at_call 13; (with_reducible refine (name_May.calls t257 t276 _ A25.out).mono ?_); rintro e w32 ⟨rfl, hb⟩; have n0_ := Aside0.mk (Kd.R_below (by (with_reducible repeat (first | apply Kd.R_alloc | apply Kd.R_drewN | apply Kd.R_drew)); exact HO_3.out) hb); have n1_ := Aside0.mk (Kd.R_below (by (with_reducible repeat (first | apply Kd.R_alloc | apply Kd.R_drewN | apply Kd.R_drew)); exact HO_6.out) hb); have n2_ := Aside0.mk (Kd.R_below (by (with_reducible repeat (first | apply Kd.R_alloc | apply Kd.R_drewN | apply Kd.R_drew)); exact HO274.out) hb); have n3_ := Aside0.mk (below_step (by repeat (first | (with_reducible first | exact HB.out | apply below_alloc | apply pw_below_drewN | apply below_drew1) | exact HB.out)) hb); clear HO_3; clear HO_6; clear HO274; clear HB; have HO_3 := n0_; have HO_6 := n1_; have HO274 := n2_; have HB := n3_; clear n0_ n1_ n2_ n3_; (try clear hb); (try clear hb2); (try clear hk); (try clear hi)) | (go_at_call 7; (with_reducible refine (carlinglaw24_alive.calls kj4  t277 _ A27.out).mono ?_); rintro e w33 ⟨rfl, hb⟩; have n0_ := Aside0.mk (Kd.R_below (by (with_reducible repeat (first | apply Kd.R_alloc | apply Kd.R_drewN | apply Kd.R_drew)); exact HO_3.out) hb); have n1_ := Aside0.mk (Kd.R_below (by (with_reducible repeat (first | apply Kd.R_alloc | apply Kd.R_drewN | apply Kd.R_drew)); exact HO_6.out) hb); have n2_ := Aside0.mk (Kd.R_below (by (with_reducible repeat (first | apply Kd.R_alloc | apply Kd.R_drewN | apply Kd.R_drew)); exact HO274.out) hb); have n3_ := Aside0.mk (below_step (by repeat (first | (with_reducible first | exact HB.out | apply below_alloc | apply pw_below_drewN | apply below_drew1) | exact HB.out)) hb); clear HO_3; clear HO_6; clear HO274; clear HB; have HO_3 := n0_; have HO_6 := n1_; have HO274 := n2_; have HB := n3_; clear n0_ n1_ n2_ n3_; (try clear hb); (try clear hb2); (try clear hk); (try clear hi)))
                    go_ret
                    exact ⟨by first | rfl | (simp [errW_none, errW_some] <;> rfl) | (simp [*, errW_none, errW_some] <;> rfl), by repeat (first | (with_reducible first | exact HB.out | apply below_alloc | apply pw_below_drewN | apply below_drew1) | exact HB.out)⟩
                  · rw [if_neg c26] at H
                    exact absurd H (by simp)
                · replace c24 := Bool.eq_false_iff.mpr c24
                  subst c24
                  have H1 : (none) = some r := by rw [if_neg (show ¬ (false = true) by decide)] at H; exact H
                  clear H
                  have H := H1
                  clear H1
                  exact absurd H (by simp)
              · rw [if_neg c22] at H
                exact absurd H (by simp)
            · rw [if_neg c21] at H
              exact absurd H (by simp)
          · rw [if_neg c20] at H
            exact absurd H (by simp)
  · rw [if_neg c4] at H
    have c4b0 : (t263 == 0) = false := beq_eq_false_iff_ne.mpr c4
    have c4b1 : (t263 != 0) = true := bne_iff_ne.mpr c4
    by_cases c34 : t258 = t263
    · rw [if_pos c34] at H
      have c34b0 : (t258 == t263) = true := beq_iff_eq.mpr c34
      have c34b1 : (t258 != t263) = false := bne_eq_false_iff_eq.mpr c34
      clear c34
      by_cases c35 : (t256.length : Int) = 0
      · rw [if_pos c35] at H
        have c35b0 : ((t256.length : Int) == 0) = true := beq_iff_eq.mpr c35
        have c35b1 : ((t256.length : Int) != 0) = false := bne_eq_false_iff_eq.mpr c35
        clear c35
        by_cases c36 : t257.toList = ([] : List UInt8)
        · rw [if_pos c36] at H
          have c36b0 : (t257.toList == ([] : List UInt8)) = true := beq_iff_eq.mpr c36
          have c36b1 : (t257.toList != ([] : List UInt8)) = false := bne_eq_false_iff_eq.mpr c36
          clear c36
          replace H := Option.bind_eq_some_iff.mp H
          obtain ⟨t266, A370, H⟩ := H
          replace H : (some t266) = some r := H
          have A37 := Aside0.mk A370
          clear A370
          obtain rfl := Option.some.inj H
          go_enter Tryd.func6, Tryd.ntmps6
          go_wp2_with (first | ((with_reducible refine gate_callee (f := 16) rfl ?_); refine goesL_ (some 12) rfl rfl Tryd.func16 (by kernel_rfl) rfl #[.string a0] rfl (by (try simp only [List.map_toArray, List.map_cons, List.map_nil]); first | done | rfl | (simp only [List.length_drop, List.length_take]; rfl)) ?_; (with_reducible refine (name_Last.calls k a0 t256 t257 t258 _ A2.out).mono ?_); rintro e w38 ⟨v259, rfl, ho0, hb⟩; refine ⟨_, rfl, ?_⟩; have n0_ := Aside0.mk (Kd.R_lower ho0 (below_size (by repeat (first | (with_reducible first | exact HB.out | apply below_alloc | apply pw_below_drewN | apply below_drew1) | exact HB.out)))); have n1_ := Aside0.mk (below_step (by repeat (first | (with_reducible first | exact HB.out | apply below_alloc | apply pw_below_drewN | apply below_drew1) | exact HB.out)) hb); clear HB; have HO260 := n0_; have HB := n1_; clear n0_ n1_; (try clear hb); (try clear hb2); (try clear hk); (try clear hi); (try clear ho0)) | ((with_reducible refine gate_callee (f := 12) rfl ?_); refine goesL_ (some 18) rfl rfl Tryd.func12 (by kernel_rfl) rfl #[.string a0] rfl (by (try simp only [List.map_toArray, List.map_cons, List.map_nil]); first | done | rfl | (simp only [List.length_drop, List.length_take]; rfl)) ?_; (with_reducible refine (name_Split.calls k a0 t261 t262 t263 _ A3.out).mono ?_); rintro e w39 ⟨v264, rfl, ho0, hb⟩; refine ⟨_, rfl, ?_⟩; have n0_ := Aside0.mk (Kd.R_elder' (by (with_reducible repeat (first | apply Kd.R_alloc | apply Kd.R_drewN | apply Kd.R_drew)); exact HO260.out) (Kd.R_base ho0) hb); have n1_ := Aside0.mk (Kd.R_lower (Kd.R_new' ho0 (Kd.R_lt (by (with_reducible repeat (first | apply Kd.R_alloc | apply Kd.R_drewN | apply Kd.R_drew)); exact HO260.out))) (below_size (by repeat (first | (with_reducible first | exact HB.out | apply below_alloc | apply pw_below_drewN | apply below_drew1) | exact HB.out)))); have n2_ := Aside0.mk (below_step (by repeat (first | (with_reducible first | exact HB.out | apply below_alloc | apply pw_below_drewN | apply below_drew1) | exact HB.out)) hb); clear HO260; clear HB; have HO260 := n0_; have HO265 := n1_; have HB := n2_; clear n0_ n1_ n2_; (try clear hb); (try clear hb2); (try clear hk); (try clear hi); (try clear ho0); obtain ⟨Ao40, co40, eo40⟩ := Kd.R_slice HO260.out; subst eo40) | (go_at_call 7; (with_reducible refine (carlinglaw24_alive.calls k  t266 _ A37.out).mono ?_); rintro e w41 ⟨rfl, hb⟩; have n0_ := Aside0.mk (Kd.R_below (by (with_reducible repeat (first | apply Kd.R_alloc | apply Kd.R_drewN | apply Kd.R_drew)); exact HO260.out) hb); have n1_ := Aside0.mk (Kd.R_below (by (with_reducible repeat (first | apply Kd.R_alloc | apply Kd.R_drewN | apply Kd.R_drew)); exact HO265.out) hb); have n2_ := Aside0.mk (below_step (by repeat (first | (with_reducible first | exact HB.out | apply below_alloc | apply pw_below_drewN | apply below_drew1) | exact HB.out)) hb); clear HO260; clear HO265; clear HB; have HO260 := n0_; have HO265 := n1_; have HB := n2_; clear n0_ n1_ n2_; (try clear hb); (try clear hb2); (try clear hk); (try clear hi)))
          go_ret
          exact ⟨by first | rfl | (simp [errW_none, errW_some] <;> rfl) | (simp [*, errW_none, errW_some] <;> rfl), by repeat (first | (with_reducible first | exact HB.out | apply below_alloc | apply pw_below_drewN | apply below_drew1) | exact HB.out)⟩
        · rw [if_neg c36] at H
          exact absurd H (by simp)
      · rw [if_neg c35] at H
        exact absurd H (by simp)
    · rw [if_neg c34] at H
      exact absurd H (by simp)

/-- THE ONE PURE STATEMENT of carlinglaw24_NameLasts: yours. -/
def carlinglaw24_NameLasts.Pure : Prop := ∀ (a0 : ByteArray), a0.size ≤ 140737488351232 → ∃ k, carlinglaw24_NameLasts.f k a0 = some true
theorem carlinglaw24_NameLasts.walk (P : carlinglaw24_NameLasts.Pure) (a0 : ByteArray) (w : World) (w0 : a0.size ≤ 140737488351232) :
    Calls Tryd.prog 6 #[.string a0] w fun e w' => e = .returned (.bool true) ∧ Below w.heap.size w w' := by
  obtain ⟨k, h⟩ := P a0 w0
  refine (carlinglaw24_NameLasts.calls k a0 true w h).mono ?_
  rintro e w' ⟨rfl, hd⟩
  exact ⟨rfl, hd⟩

end Go.Proofs.YtkmdccbjgnedjaaDoor.PN
