/- ShapeItems, over numbers and lists alone: the program's answers on an item are the document's. For all whole numbers. -/
import Derived.Test.YthpmlhiilmaigaaSD
import Derived.Test.YthpmlhiilmaigaaPSx10
namespace Go.Proofs.Ythpmlhiilmaigaa.Pure
open Go.RowKit Go.Proofs.YthpmlhiilmaigaaW.PrintWords Go.Proofs.YthpmlhiilmaigaaW.PrintLast Go.Proofs.YthpmlhiilmaigaaW.PrintMore Go.Proofs.Ythpmlhiilmaigaa.PS Go.Proofs.Ythpmlhiilmaigaa.SA Go.Proofs.Ythpmlhiilmaigaa.SB Go.Proofs.Ythpmlhiilmaigaa.SC Go.Proofs.Ythpmlhiilmaigaa.SD

theorem big_all : ∀ i : Fin 156, (carlingref12_New.f 400 (61 + (i.val : Int))).map (fun r => r.2.2.2) = some 0 := by decide +kernel
theorem rnew_big {p : Int} (h1 : 61 ≤ p) (h2 : p ≤ 216) : ∃ a L F, Ev (fun k => carlingref12_New.f k p) (a, L, F, 0) := by
  have hc := big_all ⟨(p - 61).toNat, by omega⟩
  rw [show 61 + (((p - 61).toNat : Nat) : Int) = p from by omega] at hc
  cases hr : carlingref12_New.f 400 p with
  | none => rw [hr] at hc; cases hc
  | some r =>
    rw [hr, Option.map_some, Option.some.injEq] at hc
    obtain ⟨r1, L, F, r4⟩ := r
    simp only at hc
    subst hc
    exact ⟨r1, L, F, Ev.of (carlingref12_New.mono _) hr⟩
section
variable {p x y : Int} (h : Sh p x y) {L F : List Int} (hR : Ref p x y L F)
include h hR
theorem tail_ev (i : Int) : Ev (fun k => carlinglaw12_ShapeItems.l0 k i 3 (cl p x y) p L F) true := by
  have hn := nn_b h
  obtain ⟨Ka, ha⟩ := Ev.out alive_ev
  obtain ⟨K1, h1⟩ := Ev.out (kids_ev h i)
  obtain ⟨K2, h2⟩ := Ev.out (rkids_ev h hR i)
  have hb3 : (kids p x y i).length ≤ 1000 := by
    unfold kids; split
    · simp
    · have hb := kids_b h (i := i) (by omega)
      rw [rangeL_len]; omega
  have hl := lev_b (p := p) (x := x) (y := y) i
  have htb := top_b (x := x) (y := y)
  obtain ⟨K3, h3⟩ := Ev.out (same_self (l := kids p x y i) hb3)
  obtain ⟨K4, h4⟩ := Ev.out (path_ev h (i := i))
  obtain ⟨K5, h5⟩ := Ev.out (rpath_ev h hR (i := i))
  have hb6 : (if lev p x y i = 0 then chain p x y 5 i else []).length ≤ 1000 := by
    split
    · have : ∀ (d : Nat) (j : Int), (chain p x y d j).length ≤ d + 1 := by
        intro d
        induction d with
        | zero => intro j; simp [chain]
        | succ d ih =>
          intro j
          have := ih (par p x y j).1
          simp only [chain]
          split <;> simp <;> omega
      have := this 5 i
      omega
    · simp
  obtain ⟨K6, h6⟩ := Ev.out (same_self (l := if lev p x y i = 0 then chain p x y 5 i else []) hb6)
  obtain ⟨K7, h7⟩ := Ev.out (under_ev h 4 i (by omega))
  obtain ⟨K8, h8⟩ := Ev.out (runder_ev h hR i)
  have hp2 := h.p2
  have hb9 : (under p x y i).length ≤ 1000 := by
    unfold under; split
    · simp
    · rw [rangeL_len]
      unfold ut uf mn
      rcases pw_or (t := lev p x y i) (by omega) (by omega) with e | e | e | e <;> rw [e] <;> split <;> omega
  obtain ⟨K9, h9⟩ := Ev.out (same_self (l := under p x y i) hb9)
  refine Ev.mk (K1 + K2 + K3 + K4 + K5 + K6 + K7 + K8 + K9 + Ka + 1) (fun k hk => ?_)
  obtain ⟨k, rfl⟩ : ∃ m, k = m + 1 := ⟨k - 1, by omega⟩
  simp only [carlinglaw12_ShapeItems.l0]
  rw [if_neg (by omega), h1 _ (by omega), Option.bind_some, h2 _ (by omega), Option.bind_some, h3 _ (by omega), Option.bind_some, if_pos rfl, h4 _ (by omega), Option.bind_some, h5 _ (by omega), Option.bind_some, h6 _ (by omega), Option.bind_some, if_pos rfl, h7 _ (by omega), Option.bind_some, h8 _ (by omega), Option.bind_some, h9 _ (by omega), Option.bind_some, if_pos rfl, ha _ (by omega)]; rfl
theorem blocks_ev (i : Int) : ∀ (d : Nat) (q : Int), -1 ≤ q → 3 - q = d → Ev (fun k => carlinglaw12_ShapeItems.l0 k i q (cl p x y) p L F) true := by
  intro d
  induction d with
  | zero =>
    intro q h0 hd
    have : q = 3 := by omega
    subst this
    exact tail_ev h hR i
  | succ d ih =>
    intro q h0 hd
    obtain ⟨K1, h1⟩ := Ev.out (block_ev h i q)
    obtain ⟨K2, h2⟩ := Ev.out (ih (q + 1) (by omega) (by omega))
    refine Ev.mk (K1 + K2 + 1) (fun k hk => ?_)
    obtain ⟨k, rfl⟩ : ∃ m, k = m + 1 := ⟨k - 1, by omega⟩
    simp only [carlinglaw12_ShapeItems.l0]
    rw [if_pos (by omega), h1 _ (by omega), Option.bind_some, rblock_eq h hR, Option.bind_some, if_pos rfl, w64 (by omega) (by omega)]
    exact h2 _ (by omega)
theorem two_ev (i b : Int) (hb : -9223372036854775808 ≤ b ∧ b ≤ 9223372036854775807) : Ev (fun k => carlinglaw12_ShapeItems.j2 k i b (lev p x y i) (cl p x y) p L F) true := by
  obtain ⟨K1, h1⟩ := Ev.out (par_ev h i)
  obtain ⟨K2, h2⟩ := Ev.out (rpar_ev h hR i)
  obtain ⟨K3, h3⟩ := Ev.out (ritem_ev h hR b)
  obtain ⟨K4, h4⟩ := Ev.out (level_ev h i)
  obtain ⟨K5, h5⟩ := Ev.out (blocks_ev h hR i 4 (-1) (by omega) (by omega))
  refine Ev.mk (K1 + K2 + K3 + K4 + K5 + 2) (fun k hk => ?_)
  obtain ⟨k, rfl⟩ : ∃ m, k = m + 2 := ⟨k - 2, by omega⟩
  simp only [carlinglaw12_ShapeItems.j2]
  rw [h1 _ (by omega), Option.bind_some, h2 _ (by omega), Option.bind_some, item_eq h hb, Option.bind_some, h3 _ (by omega), Option.bind_some, h4 _ (by omega), Option.bind_some, if_pos rfl, if_pos rfl, if_pos rfl, if_neg (by simp), if_pos rfl, if_pos rfl, bne_self_eq_false]
  simp only [carlinglaw12_ShapeItems.j3]
  rw [if_neg (by simp)]
  exact h5 _ (by omega)
theorem zero_ev (i b e : Int) (hb : -9223372036854775808 ≤ b ∧ b ≤ 9223372036854775807) (f : Int) : Ev (fun k => carlinglaw12_ShapeItems.j0 k i b e f false (cl p x y) p L F) true := by
  obtain ⟨K, hK⟩ := Ev.out (two_ev h hR i b hb)
  refine Ev.mk (K + 2) (fun k hk => ?_)
  obtain ⟨k, rfl⟩ : ∃ m, k = m + 2 := ⟨k - 2, by omega⟩
  have hin := in_iff h (i := i)
  have hll := hR.ll
  have hl := lev_b (p := p) (x := x) (y := y) i
  have hno : ∀ hh : ¬ (0 ≤ i ∧ i < nn p x y), carlinglaw12_ShapeItems.j1 (k + 1) i b (-1) false (cl p x y) p L F = some true := by
    intro hh
    simp only [carlinglaw12_ShapeItems.j1]
    rw [if_neg (by simp), show (-1 : Int) = lev p x y i from by omega]
    exact hK _ (by omega)
  simp only [carlinglaw12_ShapeItems.j0]
  rw [if_neg (by simp)]
  by_cases h0 : i ≥ 0
  · rw [if_pos h0]
    by_cases h1 : i < nn p x y
    · rw [decide_eq_true (by omega)]
      simp only [carlinglaw12_ShapeItems.j1]
      rw [if_pos trivial, if_pos h0, if_pos (by omega), hR.lv i h0 h1]
      exact hK _ (by omega)
    · rw [decide_eq_false (by omega)]
      exact hno (by omega)
  · rw [if_neg h0]
    exact hno (by omega)
end
theorem out_ev (i b e : Int) (p : Int) (c L F : List Int) : Ev (fun k => carlinglaw12_ShapeItems.j0 k i b e e true c p L F) true := by
  obtain ⟨Ka, ha⟩ := Ev.out alive_ev
  refine Ev.mk (Ka + 1) (fun k hk => ?_)
  obtain ⟨k, rfl⟩ : ∃ m, k = m + 1 := ⟨k - 1, by omega⟩
  simp only [carlinglaw12_ShapeItems.j0]
  rw [if_pos trivial, if_pos trivial, ha _ (by omega)]; rfl
theorem ShapeItems : carlinglaw12_ShapeItems.Pure := by
  intro p i b _ _ wb
  have hb : -9223372036854775808 ≤ b ∧ b ≤ 9223372036854775807 := by
    have h1 : (-9223372036854775808 : Int) ≤ b := of_decide_eq_true (Bool.and_eq_true_iff.1 wb).1
    have h2 : b ≤ (9223372036854775807 : Int) := of_decide_eq_true (Bool.and_eq_true_iff.1 wb).2
    exact ⟨h1, h2⟩
  by_cases h216 : p < 1 ∨ p > 216
  · obtain ⟨K, hK⟩ := Ev.out (new_no h216)
    obtain ⟨K2, hK2⟩ := Ev.out (rnew_no h216)
    obtain ⟨K3, hK3⟩ := Ev.out (out_ev i b 1 0 [] [] [])
    refine ⟨K + K2 + K3, ?_⟩
    unfold carlinglaw12_ShapeItems.f
    rw [hK _ (by omega), Option.bind_some, hK2 _ (by omega), Option.bind_some, if_neg (by simp)]
    exact hK3 _ (by omega)
  · have hnew := new_ev (p := p) (by omega) (by omega)
    obtain ⟨K, hK⟩ := Ev.out hnew
    by_cases h60 : p > 60
    · obtain ⟨a, L, F, hr⟩ := rnew_big (p := p) (by omega) (by omega)
      obtain ⟨K2, hK2⟩ := Ev.out hr
      obtain ⟨K3, hK3⟩ := Ev.out (out_ev i b 0 a (lst p) L F)
      refine ⟨K + K2 + K3, ?_⟩
      unfold carlinglaw12_ShapeItems.f
      rw [hK _ (by omega), Option.bind_some, hK2 _ (by omega), Option.bind_some, if_pos rfl, if_pos rfl, decide_eq_true h60]
      exact hK3 _ (by omega)
    · have h := Sh.of (p := p) (by omega) (by omega)
      obtain ⟨L, F, hr, hR⟩ := rnew_ev (p := p) (by omega) (by omega)
      obtain ⟨K2, hK2⟩ := Ev.out hr
      obtain ⟨K3, hK3⟩ := Ev.out (zero_ev h hR i b 0 hb 0)
      refine ⟨K + K2 + K3, ?_⟩
      unfold carlinglaw12_ShapeItems.f
      rw [hK _ (by omega), Option.bind_some, hK2 _ (by omega), Option.bind_some, if_pos rfl, if_pos rfl, decide_eq_false h60]
      exact hK3 _ (by omega)
end Go.Proofs.Ythpmlhiilmaigaa.Pure
