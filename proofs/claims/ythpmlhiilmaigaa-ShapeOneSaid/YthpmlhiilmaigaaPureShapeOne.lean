/- ShapeOne, over numbers and lists alone: each item but the root is a child of one node, and items and blocks lead to each other. For all whole numbers. -/
import Derived.Test.YthpmlhiilmaigaaSO
import Derived.Test.YthpmlhiilmaigaaSB
namespace Go.Proofs.Ythpmlhiilmaigaa.Pure
open Go.RowKit Go.Proofs.YthpmlhiilmaigaaW.PrintWords Go.Proofs.YthpmlhiilmaigaaW.PrintLast Go.Proofs.YthpmlhiilmaigaaW.PrintMore Go.Proofs.Ythpmlhiilmaigaa.PS Go.Proofs.Ythpmlhiilmaigaa.SA Go.Proofs.Ythpmlhiilmaigaa.SB

theorem unif {n : Nat} {P : Nat → Nat → Prop} (h : ∀ i, i < n → ∃ K, ∀ k, K ≤ k → P i k) : ∃ K, ∀ k, K ≤ k → ∀ i, i < n → P i k := by
  induction n with
  | zero => exact ⟨0, fun _ _ i hi => absurd hi (by omega)⟩
  | succ n ih =>
    obtain ⟨K, hK⟩ := ih (fun i hi => h i (by omega))
    obtain ⟨K2, hK2⟩ := h n (by omega)
    refine ⟨K + K2, fun k hk i hi => ?_⟩
    by_cases hin : i = n
    · subst hin; exact hK2 k (by omega)
    · exact hK k (by omega) i (by omega)
section
variable {p x y : Int} (h : Sh p x y)
/-- Where the children of item i begin, where all items stand one behind the other. -/
def vv (p x y : Int) (i : Nat) : Nat := if nn p x y ≤ i then (nn p x y - 1).toNat else if lev p x y i < 1 then 0 else (kfrom p x y i).toNat
include h
theorem vv_step {i : Nat} (hi : (i : Int) < nn p x y) : vv p x y (i + 1) = vv p x y i + if lev p x y i < 1 then 0 else (kmany p x y i).toNat := by
  have hl := lev_b (p := p) (x := x) (y := y) i
  have hno := lev_no h (i := (i : Int))
  have htb := top_b (x := x) (y := y)
  have hnn : nn p x y = bt p x y (top x y) := rfl
  have hnb := nn_b h
  obtain ⟨t, ht⟩ : ∃ t, t = lev p x y i := ⟨_, rfl⟩
  have ht0 : 0 ≤ t := by omega
  have hti := (lev_iff h (i := (i : Int)) (t := t) ht0 (by omega)).1 ht.symm
  have hle : bt p x y (t + 1) ≤ nn p x y := by
    by_cases h1 : t + 1 = top x y
    · rw [h1, hnn]; omega
    · have := bt_mono h (s := t + 1) (t := top x y) (by omega) (by omega) (by omega); rw [hnn]; omega
  have hcast : ((i + 1 : Nat) : Int) = (i : Int) + 1 := by omega
  have hkf : kfrom p x y i = bt p x y (t - 1) + 6 * (i - bt p x y t) := by unfold kfrom; rw [ht]
  have hkm : kmany p x y i = mn 6 (bt p x y t - kfrom p x y i) := by unfold kmany; rw [ht]
  have hvi : vv p x y i = if t < 1 then 0 else (kfrom p x y i).toNat := by
    unfold vv; rw [if_neg (by omega), ← ht]
  rw [hvi, ← ht]
  rcases Int.lt_or_le ((i : Int) + 1) (bt p x y (t + 1)) with hc | hc
  · have hln : lev p x y ((i : Int) + 1) = t := (lev_iff h (i := (i : Int) + 1) (t := t) ht0 (by omega)).2 ⟨by omega, hc⟩
    have hv1 : vv p x y (i + 1) = if t < 1 then 0 else (kfrom p x y ((i : Int) + 1)).toNat := by
      unfold vv; rw [hcast, if_neg (by omega), hln]
    rw [hv1]
    by_cases h1 : t < 1
    · rw [if_pos h1, if_pos h1, if_pos h1]
    · rw [if_neg h1, if_neg h1, if_neg h1]
      have hb := kids_b h (i := (i : Int) + 1) (by omega)
      have hb0 := kids_b h (i := (i : Int)) (by omega)
      rw [hln] at hb
      have hkf1 : kfrom p x y ((i : Int) + 1) = kfrom p x y i + 6 := by rw [hkf]; unfold kfrom; rw [hln]; omega
      have : kmany p x y i = 6 := by rw [hkm]; unfold mn; split <;> omega
      omega
  · have hie : (i : Int) + 1 = bt p x y (t + 1) := by omega
    by_cases htop : t + 1 = top x y
    · have hne := nn_eq h
      have hst := bt_step h (t := t) (by omega) (by omega)
      rw [htop] at hst hie
      rw [← hnn] at hst hie
      rw [show top x y - 1 = t from by omega] at hne
      have hv1 : vv p x y (i + 1) = (nn p x y - 1).toNat := by unfold vv; rw [hcast, if_pos (by omega)]
      have hb0 := kids_b h (i := (i : Int)) (by omega)
      have : kmany p x y i = bt p x y t - kfrom p x y i := by rw [hkm]; unfold mn; split <;> omega
      rw [hv1, if_neg (by omega), if_neg (by omega)]
      omega
    · have hln : lev p x y ((i : Int) + 1) = t + 1 := by
        have hm := bt_mono h (s := t + 1) (t := t + 1 + 1) (by omega) (by omega) (by omega)
        exact (lev_iff h (i := (i : Int) + 1) (t := t + 1) (by omega) (by omega)).2 ⟨by omega, by omega⟩
      have hlt1 : (i : Int) + 1 < nn p x y := by
        have hm := bt_mono h (s := t + 1) (t := top x y) (by omega) (by omega) (by omega)
        rw [hnn]; omega
      have hkf1 : kfrom p x y ((i : Int) + 1) = bt p x y t := by
        unfold kfrom; rw [hln, show t + 1 - 1 = t from by omega, ← hie]; omega
      have hv1 : vv p x y (i + 1) = (bt p x y t).toNat := by
        unfold vv; rw [hcast, if_neg (by omega), hln, if_neg (by omega), hkf1]
      rw [hv1]
      by_cases h1 : t < 1
      · have : t = 0 := by omega
        rw [if_pos h1, if_pos h1, this]; rfl
      · have hst := bt_step h (t := t) (by omega) (by omega)
        have hb0 := kids_b h (i := (i : Int)) (by omega)
        have : kmany p x y i = bt p x y t - kfrom p x y i := by rw [hkm]; unfold mn; split <;> omega
        rw [if_neg h1, if_neg h1]
        omega
theorem vv_at {i : Nat} (hi : (i : Int) < nn p x y) (h1 : 1 ≤ lev p x y i) : (vv p x y i : Int) = kfrom p x y i := by
  have hb := kids_b h h1
  unfold vv; rw [if_neg (by omega), if_neg (by omega)]; omega
theorem kid_facts {i m : Nat} (hi : (i : Int) < nn p x y) (hm0 : vv p x y i ≤ m) (hm1 : m < vv p x y (i + 1)) : par p x y (m : Int) = ((i : Int), (m : Int) - vv p x y i, true) ∧ lev p x y (m : Int) = lev p x y (i : Int) - 1 := by
  have hs := vv_step h hi
  by_cases h1 : lev p x y i < 1
  · rw [if_pos h1] at hs; omega
  · rw [if_neg h1] at hs
    have hv := vv_at h hi (by omega)
    have hb := kids_b h (i := (i : Int)) (by omega)
    have hp := par_idx h (i := (i : Int)) (k := (m : Int)) (by omega) ⟨by omega, by omega⟩
    rw [← hv] at hp
    have hpl := par_lev h (k := (m : Int)) (by rw [hp])
    rw [hp] at hpl
    exact ⟨hp, by have := hpl.1; simp only at this; omega⟩
theorem facts (hnew : Ev (fun k => shape_New.f k p) (cl p x y, 0)) : ∃ k, SO.Facts k p (cl p x y) (nn p x y).toNat (vv p x y) (lev p x y) := by
  have hnb := nn_b h
  have htb := top_b (x := x) (y := y)
  obtain ⟨K0, h0⟩ := Ev.out hnew
  obtain ⟨K1, h1⟩ := unif (n := (nn p x y).toNat) (P := fun i k => shape_Shape_Kids.f k (cl p x y) (i : Int) = some (kids p x y i)) (fun i _ => kids_ev h (i : Int))
  obtain ⟨K2, h2⟩ := unif (n := (nn p x y).toNat) (P := fun i k => shape_Shape_Parent.f k (cl p x y) (i : Int) = some (par p x y i)) (fun i _ => par_ev h (i : Int))
  obtain ⟨K3, h3⟩ := unif (n := (nn p x y).toNat) (P := fun i k => shape_Shape_Level.f k (cl p x y) (i : Int) = some (lev p x y i)) (fun i _ => level_ev h (i : Int))
  obtain ⟨K4, h4⟩ := unif (n := (nn p x y).toNat) (P := fun i k => shape_Shape_Block.f k (cl p x y) (i : Int) 0 = some (if lev p x y i < 0 ∨ (0 : Int) < 0 ∨ (0 : Int) > 1 then -1 else 2 + 2 * (i : Int) + 0)) (fun i _ => block_ev h (i : Int) 0)
  obtain ⟨K5, h5⟩ := unif (n := (nn p x y).toNat) (P := fun i k => shape_Shape_Block.f k (cl p x y) (i : Int) 1 = some (if lev p x y i < 0 ∨ (1 : Int) < 0 ∨ (1 : Int) > 1 then -1 else 2 + 2 * (i : Int) + 1)) (fun i _ => block_ev h (i : Int) 1)
  obtain ⟨K6, h6⟩ := Ev.out alive_ev
  obtain ⟨k, hk⟩ : ∃ k, k = K0 + K1 + K2 + K3 + K4 + K5 + K6 := ⟨_, rfl⟩
  have hnc : (((nn p x y).toNat : Nat) : Int) = nn p x y := by omega
  have hlev : ∀ i : Nat, i < (nn p x y).toNat → 0 ≤ lev p x y i := fun i hi => by have := lev_no h (i := (i : Int)); omega
  have hend : vv p x y (nn p x y).toNat = (nn p x y - 1).toNat := by unfold vv; rw [if_pos (by omega)]
  have hup : ∀ d i : Nat, i + d = (nn p x y).toNat → vv p x y i ≤ (nn p x y - 1).toNat := by
    intro d
    induction d with
    | zero => intro i hi; rw [show i = (nn p x y).toNat from by omega, hend]; omega
    | succ d ih =>
      intro i hi
      have hs := vv_step h (i := i) (by omega)
      have := ih (i + 1) (by omega)
      omega
  refine ⟨k, ⟨h0 k (by omega), by omega, by rw [hnc]; exact items_eq h, by rw [hnc]; exact root_eq h, ?_, ?_, ?_, ?_, ?_, ?_, ?_, ?_, ?_, ?_, h6 k (by omega)⟩⟩
  · have hp1 := h.p1
    have : lev p x y 0 = 0 := (lev_iff h (i := 0) (t := 0) (by omega) (by omega)).2 ⟨by show SA.bt p x y 0 ≤ 0; unfold SA.bt; rw [if_pos (by omega)]; omega, by show (0 : Int) < SA.bt p x y (0 + 1); unfold SA.bt; rw [if_neg (by omega), if_pos (by omega)]; omega⟩
    unfold vv
    rw [if_neg (by omega), if_pos (by simp; omega)]
  · intro i hi
    have hs := vv_step h (i := i) (by omega)
    have := hup ((nn p x y).toNat - (i + 1)) (i + 1) (by omega)
    omega
  · rw [hend]; omega
  · intro i hi
    have hs := vv_step h (i := i) (by omega)
    rw [h1 k (by omega) i hi]
    congr 1
    unfold kids
    by_cases h9 : lev p x y i < 1
    · rw [if_pos h9] at hs ⊢
      rw [hs, Nat.add_zero, Nat.sub_self]; rfl
    · rw [if_neg h9] at hs ⊢
      rw [vv_at h (by omega) (by omega), hs, Nat.add_sub_cancel_left]
  · intro i m hi hm0 hm1
    have := hup ((nn p x y).toNat - (i + 1)) (i + 1) (by omega)
    rw [h2 k (by omega) m (by omega), (kid_facts h (by omega) hm0 hm1).1]
  · intro m hm
    exact h3 k (by omega) m hm
  · intro m
    have := lev_b (p := p) (x := x) (y := y) m
    omega
  · intro i m hi hm0 hm1
    exact (kid_facts h (by omega) hm0 hm1).2
  · intro i q hi hq
    have hl := hlev i hi
    rcases (show q = 0 ∨ q = 1 from by omega) with rfl | rfl
    · have := h4 k (by omega) i hi
      rw [if_neg (by omega)] at this
      exact this
    · have := h5 k (by omega) i hi
      rw [if_neg (by omega)] at this
      exact this
  · intro i q hi hq
    rw [item_eq h ⟨by omega, by omega⟩, if_neg (by omega)]
    congr 1
    exact Prod.ext (by simp only; omega) (Prod.ext (by simp only; omega) rfl)
end
theorem law_calls (p : Int) (w : World) : Calls Try.prog 3 #[.int .i64 p] w fun e w' => e = .returned (.bool true) ∧ Below w.heap.size w w' := by
  by_cases hp : p < 1 ∨ p > 216
  · obtain ⟨K, hK⟩ := Ev.out (new_no hp)
    obtain ⟨K2, hK2⟩ := Ev.out alive_ev
    exact SO.one_no (k := K + K2) (hK _ (by omega)) (hK2 _ (by omega)) w
  · have h := Sh.of (p := p) (by omega) (by omega)
    obtain ⟨k, F⟩ := facts h (new_ev (p := p) (by omega) (by omega))
    exact SO.one_calls F w
end Go.Proofs.Ythpmlhiilmaigaa.Pure
