/- What the printed functions of the shape return, in closed form. -/
import Derived.Test.YthpmlhiilmaigaaSA
import Derived.Test.YthpmlhiilmaigaaPSx1
import Derived.Test.YthpmlhiilmaigaaPSx2
import Derived.Test.YthpmlhiilmaigaaPSx3
namespace Go.Proofs.Ythpmlhiilmaigaa.SB
open Go.RowKit Go.Proofs.YthpmlhiilmaigaaW.PrintWords Go.Proofs.YthpmlhiilmaigaaW.PrintLast Go.Proofs.YthpmlhiilmaigaaW.PrintMore Go.Proofs.Ythpmlhiilmaigaa.PS Go.Proofs.Ythpmlhiilmaigaa.SA

def lst (p : Int) : List Int := cl p ((p + 5) / 6) (((p + 5) / 6 + 5) / 6)
theorem new_all : ∀ i : Fin 216, shape_New.f 20 (1 + (i.val : Int)) = some (lst (1 + (i.val : Int)), 0) := by decide +kernel
theorem new_ev {p : Int} (h1 : 1 ≤ p) (h2 : p ≤ 216) : Ev (fun k => shape_New.f k p) (lst p, 0) := by
  have := new_all ⟨(p - 1).toNat, by omega⟩
  rw [show 1 + (((p - 1).toNat : Nat) : Int) = p from by omega] at this
  exact Ev.of (shape_New.mono p) this
theorem new_no {n : Int} (h : n < 1 ∨ n > 216) : Ev (fun k => shape_New.f k n) ([], 1) := by
  refine Ev.mk 1 (fun k hk => ?_)
  obtain ⟨k, rfl⟩ : ∃ m, k = m + 1 := ⟨k - 1, by omega⟩
  unfold shape_New.f
  by_cases h1 : n < 1
  · rw [if_pos h1]; simp only [shape_New.j0, if_true]
  · rw [if_neg h1, decide_eq_true (show n > 216 by omega)]; simp only [shape_New.j0, if_true]
section
variable {p x y : Int} (h : Sh p x y)
include h
omit h in
theorem levels_eq : shape_Shape_Levels.f (cl p x y) = some (top x y) := by
  have ht := top_b (x := x) (y := y)
  unfold shape_Shape_Levels.f
  rw [cl_len, w64 (by omega) (by omega)]
  congr 1
  unfold mx; split <;> omega
theorem items_eq : shape_Shape_Items.f (cl p x y) = some (nn p x y) := by
  have ht := top_b (x := x) (y := y)
  unfold shape_Shape_Items.f
  rw [cl_len, if_neg (by omega), w64 (by omega) (by omega), if_pos (by omega), if_pos (by omega), rd_cl h (by omega) (by omega)]
  rw [show top x y + 1 - 1 = top x y from by omega]; rfl
theorem root_eq : shape_Shape_Root.f (cl p x y) = some (nn p x y - 1) := by
  have hn := nn_b h
  unfold shape_Shape_Root.f
  rw [items_eq h, Option.bind_some, w64 (by omega) (by omega)]; rfl
theorem blocks_eq : shape_Shape_Blocks.f (cl p x y) = some (2 + 2 * nn p x y) := by
  have hn := nn_b h
  unfold shape_Shape_Blocks.f
  rw [items_eq h, Option.bind_some, if_neg (by omega), Option.bind_some, w64 (n := 2 * _) (by omega) (by omega), w64 (by omega) (by omega)]
/-- Ahead of level t nothing has been met. -/
theorem level_loop {i : Int} (hi : 0 ≤ i) : ∀ (d : Nat) (t : Int), 0 ≤ t → top x y - t = d → (∀ s, 0 ≤ s → s < t → bt p x y (s + 1) ≤ i) → Ev (fun k => shape_Shape_Level.l0 k i (top x y) t (cl p x y)) (lev p x y i) := by
  have ht := top_b (x := x) (y := y)
  intro d
  induction d with
  | zero =>
    intro t h0 hd hno
    have hl : lev p x y i = -1 := by
      have hb := lev_b (p := p) (x := x) (y := y) i
      rcases Int.lt_or_le (lev p x y i) 0 with h1 | h1
      · omega
      · have := (lev_iff h h1 hb.2).1 rfl
        have h2 := hno _ h1 (by omega)
        omega
    rw [hl]
    exact Ev.step (f := fun _ => some (-1)) (fun k => by simp only [shape_Shape_Level.l0]; rw [if_neg (by omega)]) (Ev.now _)
  | succ d ih =>
    intro t h0 hd hno
    by_cases hc : i < bt p x y (t + 1)
    · have hl : lev p x y i = t := (lev_iff h h0 (by omega)).2 ⟨by
        by_cases e : t = 0
        · subst e
          have : bt p x y 0 = 0 := rfl
          omega
        · have := hno (t - 1) (by omega) (by omega)
          rwa [show t - 1 + 1 = t from by omega] at this, hc⟩
      rw [hl]
      refine Ev.step (f := fun _ => some t) (fun k => ?_) (Ev.now _)
      simp only [shape_Shape_Level.l0]
      rw [if_pos (by omega), w64 (by omega) (by omega), if_pos (by omega), cl_len, if_pos (by omega), rd_cl h (by omega) (by omega), if_pos hc]
    · refine Ev.step (f := fun k => shape_Shape_Level.l0 k i (top x y) (t + 1) (cl p x y)) (fun k => ?_) (ih (t + 1) (by omega) (by omega) (fun s h1 h2 => by
        by_cases e : s = t
        · rw [e]; omega
        · exact hno s h1 (by omega)))
      simp only [shape_Shape_Level.l0]
      rw [if_pos (by omega), w64 (by omega) (by omega), if_pos (by omega), cl_len, if_pos (by omega), rd_cl h (by omega) (by omega), if_neg hc]
theorem level_ev (i : Int) : Ev (fun k => shape_Shape_Level.f k (cl p x y) i) (lev p x y i) := by
  have ht := top_b (x := x) (y := y)
  by_cases hi : i < 0
  · have : lev p x y i = -1 := if_pos hi
    rw [this]
    exact Ev.mk 0 (fun k _ => by unfold shape_Shape_Level.f; rw [if_pos hi])
  · obtain ⟨K, hK⟩ := Ev.out (level_loop h (i := i) (by omega) (top x y).toNat 0 (by omega) (by omega) (fun s h1 h2 => by omega))
    refine Ev.mk K (fun k hk => ?_)
    unfold shape_Shape_Level.f
    rw [if_neg hi, levels_eq (p := p), Option.bind_some]
    exact hK k hk
theorem kids_loop {i : Int} (h1 : 1 ≤ lev p x y i) : ∀ (d : Nat) (c : Nat), (kmany p x y i).toNat = c + d → Ev (fun k => shape_Shape_Kids.l0 k (lev p x y i) (kfrom p x y i) (rangeL (kfrom p x y i) c) (kfrom p x y i + c) (cl p x y)) (kids p x y i) := by
  have hb := kids_b h h1
  have hl := lev_b (p := p) (x := x) (y := y) i
  have ht := top_b (x := x) (y := y)
  have hbt := bt_b h (lev p x y i)
  have hmn : mn (kfrom p x y i + 6) (bt p x y (lev p x y i)) = kfrom p x y i + kmany p x y i := by
    unfold kmany mn
    split <;> split <;> omega
  have hkd : kids p x y i = rangeL (kfrom p x y i) (kmany p x y i).toNat := if_neg (by omega)
  rw [hkd]
  intro d
  induction d with
  | zero =>
    intro c hc
    rw [hc]
    refine Ev.step (f := fun _ => some (rangeL (kfrom p x y i) c)) (fun k => ?_) (Ev.now _)
    simp only [shape_Shape_Kids.l0]
    rw [if_pos (by omega), cl_len, if_pos (by omega), w64 (by omega) (by omega), rd_cl h (by omega) (by omega), hmn, if_neg (by omega)]
  | succ d ih =>
    intro c hc
    refine Ev.step (f := fun k => shape_Shape_Kids.l0 k (lev p x y i) (kfrom p x y i) (rangeL (kfrom p x y i) (c + 1)) (kfrom p x y i + ((c + 1 : Nat) : Int)) (cl p x y)) (fun k => ?_) (ih (c + 1) (by omega))
    simp only [shape_Shape_Kids.l0]
    rw [if_pos (by omega), cl_len, if_pos (by omega), w64 (n := kfrom p x y i + 6) (by omega) (by omega), rd_cl h (by omega) (by omega), hmn, if_pos (by omega), if_pos (by rw [rangeL_len]; omega), w64 (by omega) (by omega), rangeL_snoc, show kfrom p x y i + (c : Int) + 1 = kfrom p x y i + ((c + 1 : Nat) : Int) from by omega]
theorem kids_ev (i : Int) : Ev (fun k => shape_Shape_Kids.f k (cl p x y) i) (kids p x y i) := by
  obtain ⟨K, hK⟩ := Ev.out (level_ev h i)
  have hl := lev_b (p := p) (x := x) (y := y) i
  have ht := top_b (x := x) (y := y)
  by_cases h1 : lev p x y i < 1
  · have : kids p x y i = [] := if_pos h1
    rw [this]
    refine Ev.mk K (fun k hk => ?_)
    unfold shape_Shape_Kids.f
    rw [hK k hk, Option.bind_some, if_pos h1]
  · have hb1 := bt_b h (lev p x y i - 1)
    have hb2 := bt_b h (lev p x y i)
    have hi := (lev_iff h (i := i) (t := lev p x y i) (by omega) (by omega)).1 rfl
    have hb3 := bt_b h (lev p x y i + 1)
    have hkf : kfrom p x y i = bt p x y (lev p x y i - 1) + 6 * (i - bt p x y (lev p x y i)) := rfl
    have hkb := kids_b h (i := i) (by omega)
    obtain ⟨K2, hK2⟩ := Ev.out (kids_loop h (i := i) (by omega) (kmany p x y i).toNat 0 (by omega))
    simp only [rangeL, Int.natCast_zero, Int.add_zero] at hK2
    refine Ev.mk (K + K2) (fun k hk => ?_)
    unfold shape_Shape_Kids.f
    rw [hK k (by omega), Option.bind_some, if_neg h1, w64 (n := lev p x y i - 1) (by omega) (by omega), if_pos (by omega), cl_len, if_pos (by omega), if_pos (by omega), if_pos (by omega), rd_cl h (t := lev p x y i - 1) (by omega) (by omega), rd_cl h (t := lev p x y i) (by omega) (by omega), w64 (n := i - _) (by omega) (by omega), w64 (n := 6 * _) (by omega) (by omega), w64 (n := bt p x y (lev p x y i - 1) + _) (by omega) (by omega), ← hkf]
    exact hK2 k (by omega)
theorem par_ev (i : Int) : Ev (fun k => shape_Shape_Parent.f k (cl p x y) i) (par p x y i) := by
  obtain ⟨K, hK⟩ := Ev.out (level_ev h i)
  have hl := lev_b (p := p) (x := x) (y := y) i
  have ht := top_b (x := x) (y := y)
  refine Ev.mk K (fun k hk => ?_)
  unfold shape_Shape_Parent.f par
  rw [hK k hk, Option.bind_some]
  by_cases h1 : lev p x y i < 0
  · rw [if_pos h1, if_pos (.inl h1)]
  · rw [if_neg h1, root_eq h, Option.bind_some]
    by_cases h2 : i = nn p x y - 1
    · rw [if_pos h2, if_pos (.inr h2)]
    · have hi := (lev_iff h (i := i) (t := lev p x y i) (by omega) (by omega)).1 rfl
      have hb2 := bt_b h (lev p x y i)
      have hb3 := bt_b h (lev p x y i + 1)
      rw [if_neg (show ¬ (lev p x y i < 0 ∨ i = nn p x y - 1) by omega), if_neg h2, if_pos (by omega), cl_len, if_pos (by omega), w64 (n := lev p x y i + 1) (by omega) (by omega), if_pos (by omega), if_pos (by omega), rd_cl h (t := lev p x y i + 1) (by omega) (by omega), rd_cl h (t := lev p x y i) (by omega) (by omega), w64 (n := i - _) (by omega) (by omega), Int.tdiv_eq_ediv_of_nonneg (by omega), Int.tmod_eq_emod_of_nonneg (by omega), w64 (n := (i - _) / 6) (by omega) (by omega), w64 (by omega) (by omega)]
theorem block_ev (i q : Int) : Ev (fun k => shape_Shape_Block.f k (cl p x y) i q) (if lev p x y i < 0 ∨ q < 0 ∨ q > 1 then -1 else 2 + 2 * i + q) := by
  obtain ⟨K, hK⟩ := Ev.out (level_ev h i)
  have hn := nn_b h
  refine Ev.mk K (fun k hk => ?_)
  unfold shape_Shape_Block.f
  rw [hK k hk, Option.bind_some]
  by_cases h1 : lev p x y i < 0
  · rw [if_pos h1, if_pos (.inl h1)]
  · by_cases h2 : q < 0
    · rw [if_neg h1, if_pos h2, if_pos (.inr (.inl h2))]
    · by_cases h3 : q > 1
      · rw [if_neg h1, if_neg h2, if_pos h3, if_pos (.inr (.inr h3))]
      · have h4 := lev_no h (i := i)
        rw [if_neg h1, if_neg h2, if_neg h3, if_neg (by omega), w64 (n := 2 * i) (by omega) (by omega), w64 (n := 2 + 2 * i) (by omega) (by omega), w64 (by omega) (by omega)]
theorem item_eq {b : Int} (hb : -9223372036854775808 ≤ b ∧ b ≤ 9223372036854775807) : shape_Shape_Item.f (cl p x y) b = some (if b < 2 ∨ b ≥ 2 + 2 * nn p x y then (0, 0, false) else ((b - 2) / 2, (b - 2) % 2, true)) := by
  have hn := nn_b h
  unfold shape_Shape_Item.f
  by_cases h1 : b < 2
  · rw [if_pos h1, if_pos (.inl h1)]
  · rw [if_neg h1, blocks_eq h, Option.bind_some]
    by_cases h2 : b ≥ 2 + 2 * nn p x y
    · rw [if_pos h2, if_pos (.inr h2)]
    · rw [if_neg h2, if_neg (by omega), w64 (n := b - 2) (by omega) (by omega), Int.tdiv_eq_ediv_of_nonneg (by omega), Int.tmod_eq_emod_of_nonneg (by omega), w64 (by omega) (by omega)]
/-- A path, by parents. -/
theorem path_loop : ∀ (d : Nat) (i : Int) (acc : List Int), acc.length + d ≤ 100 → top x y - lev p x y i ≤ d →
    Ev (fun k => shape_Shape_Path.l0 k acc (par p x y i).1 (par p x y i).2.2 (cl p x y)) (acc ++ (chain p x y d i).tail) := by
  intro d
  induction d with
  | zero =>
    intro i acc ha hd
    have := lev_b (p := p) (x := x) (y := y) i
    omega
  | succ d ih =>
    intro i acc ha hd
    cases hp : (par p x y i).2.2 with
    | false =>
      refine Ev.step (f := fun _ => some acc) (fun k => by simp only [shape_Shape_Path.l0]; rw [if_neg (by simp)]) ?_
      have : chain p x y (d + 1) i = [i] := by rw [chain, hp]; rfl
      rw [this]
      simpa using Ev.now acc
    | true =>
      have hlv := par_lev h hp
      obtain ⟨j, hj⟩ : ∃ j, j = (par p x y i).1 := ⟨_, rfl⟩
      rw [← hj] at hlv ⊢
      obtain ⟨K, hK⟩ := Ev.out (par_ev h j)
      obtain ⟨l1, l2, l3⟩ := hlv
      have hd1 : 1 ≤ d := by omega
      obtain ⟨d, rfl⟩ : ∃ m, d = m + 1 := ⟨d - 1, by omega⟩
      by_cases hlast : top x y - lev p x y j ≤ (d + 1 : Nat)
      · obtain ⟨K2, hK2⟩ := Ev.out (ih j (acc ++ [j]) (by simp; omega) hlast)
        refine Ev.mk (K + K2 + 1) (fun k hk => ?_)
        obtain ⟨k, rfl⟩ : ∃ m, k = m + 1 := ⟨k - 1, by omega⟩
        simp only [shape_Shape_Path.l0]
        rw [if_pos trivial, if_pos (by omega), hK k (by omega), Option.bind_some, hK2 k (by omega)]
        have e1 : chain p x y (d + 1 + 1) i = i :: chain p x y (d + 1) j := by rw [chain, hp, ← hj]; rfl
        have e2 : chain p x y (d + 1) j = j :: (chain p x y (d + 1) j).tail := by
          rw [chain]; split <;> rfl
        rw [e1]
        simp only [List.tail_cons]
        rw [List.append_assoc, List.singleton_append, ← e2]
      · omega
theorem path_ev {i : Int} : Ev (fun k => shape_Shape_Path.f k (cl p x y) i) (if lev p x y i = 0 then chain p x y 5 i else []) := by
  obtain ⟨K, hK⟩ := Ev.out (level_ev h i)
  by_cases h1 : lev p x y i = 0
  · have ht := top_b (x := x) (y := y)
    obtain ⟨K1, hK1⟩ := Ev.out (par_ev h i)
    obtain ⟨K2, hK2⟩ := Ev.out (path_loop h 5 i [i] (by simp) (by omega))
    rw [if_pos h1]
    refine Ev.mk (K + K1 + K2) (fun k hk => ?_)
    unfold shape_Shape_Path.f
    rw [hK k (by omega), Option.bind_some, if_pos h1, hK1 k (by omega), Option.bind_some, hK2 k (by omega)]
    have e2 : chain p x y 5 i = i :: (chain p x y 5 i).tail := by
      rw [chain]; split <;> rfl
    rw [List.singleton_append, ← e2]
  · rw [if_neg h1]
    refine Ev.mk K (fun k hk => ?_)
    unfold shape_Shape_Path.f
    rw [hK k (by omega), Option.bind_some, if_neg h1]
end
theorem alive_ev : Ev (fun k => carlinglaw12_alive.f k) true := Ev.of (k := 60) (fun k => carlinglaw12_alive.mono k) (by decide +kernel)
end Go.Proofs.Ythpmlhiilmaigaa.SB
