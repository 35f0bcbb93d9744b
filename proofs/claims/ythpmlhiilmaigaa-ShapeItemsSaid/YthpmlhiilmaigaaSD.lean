/- What the document's functions on shapes return, in closed form: the same. -/
import Derived.Test.YthpmlhiilmaigaaSC
import Derived.Test.YthpmlhiilmaigaaPSx5
import Derived.Test.YthpmlhiilmaigaaPSx7
import Derived.Test.YthpmlhiilmaigaaPSx8
import Derived.Test.YthpmlhiilmaigaaPSx9
namespace Go.Proofs.Ythpmlhiilmaigaa.SD
open Go.RowKit Go.Proofs.YthpmlhiilmaigaaW.PrintWords Go.Proofs.YthpmlhiilmaigaaW.PrintLast Go.Proofs.YthpmlhiilmaigaaW.PrintMore Go.Proofs.Ythpmlhiilmaigaa.PS Go.Proofs.Ythpmlhiilmaigaa.SA Go.Proofs.Ythpmlhiilmaigaa.SB Go.Proofs.Ythpmlhiilmaigaa.SC

/-- The document's lists: of each item its level, and its first child. -/
structure Ref (p x y : Int) (L F : List Int) : Prop where
  ll : (L.length : Int) = nn p x y
  fl : (F.length : Int) = nn p x y
  lv : ∀ i, 0 ≤ i → i < nn p x y → rd L i = lev p x y i
  ft : ∀ i, 0 ≤ i → i < nn p x y → rd F i = if lev p x y i < 1 then -1 else kfrom p x y i
def checkRef (p x y : Int) (r : Int × List Int × List Int × Int) : Bool :=
  r.1 == p && r.2.2.2 == 0 && (r.2.1.length : Int) == nn p x y && (r.2.2.1.length : Int) == nn p x y &&
    (List.range (nn p x y).toNat).all fun i => rd r.2.1 i == lev p x y i && rd r.2.2.1 i == if lev p x y i < 1 then -1 else kfrom p x y i
def checkNew (p : Int) : Bool := match carlingref12_New.f 400 p with
  | some r => checkRef p ((p + 5) / 6) (((p + 5) / 6 + 5) / 6) r
  | none => false
theorem check_all : ∀ i : Fin 60, checkNew (1 + (i.val : Int)) = true := by decide +kernel
theorem rnew_ev {p : Int} (h1 : 1 ≤ p) (h2 : p ≤ 60) : ∃ L F, Ev (fun k => carlingref12_New.f k p) (p, L, F, 0) ∧ Ref p ((p + 5) / 6) (((p + 5) / 6 + 5) / 6) L F := by
  have hc := check_all ⟨(p - 1).toNat, by omega⟩
  rw [show 1 + (((p - 1).toNat : Nat) : Int) = p from by omega] at hc
  unfold checkNew at hc
  cases hr : carlingref12_New.f 400 p with
  | none => rw [hr] at hc; cases hc
  | some r =>
    rw [hr] at hc
    simp only [checkRef, Bool.and_eq_true, beq_iff_eq, List.all_eq_true, List.mem_range] at hc
    obtain ⟨⟨⟨⟨c1, c2⟩, c3⟩, c4⟩, c5⟩ := hc
    obtain ⟨r1, L, F, r4⟩ := r
    simp only at c1 c2 c3 c4 c5
    subst c1 c2
    refine ⟨L, F, Ev.of (carlingref12_New.mono _) hr, ⟨c3, c4, fun i hi0 hi1 => ?_, fun i hi0 hi1 => ?_⟩⟩
    · have := (c5 i.toNat (by omega)).1
      rwa [show ((i.toNat : Nat) : Int) = i from by omega] at this
    · have := (c5 i.toNat (by omega)).2
      rwa [show ((i.toNat : Nat) : Int) = i from by omega] at this
theorem rnew_no {n : Int} (h : n < 1 ∨ n > 216) : Ev (fun k => carlingref12_New.f k n) (0, [], [], 1) := by
  refine Ev.mk 1 (fun k hk => ?_)
  obtain ⟨k, rfl⟩ : ∃ m, k = m + 1 := ⟨k - 1, by omega⟩
  unfold carlingref12_New.f
  by_cases h1 : n < 1
  · rw [if_pos h1]; simp only [carlingref12_New.j0, if_true]
  · rw [if_neg h1, decide_eq_true (show n > 216 by omega)]; simp only [carlingref12_New.j0, if_true]
section
variable {p x y : Int} (h : Sh p x y) {L F : List Int} (hR : Ref p x y L F)
include h hR
omit h in
theorem has_eq (i : Int) : carlingref12_Shape_has.f p L F i = some (decide (0 ≤ i ∧ i < nn p x y)) := by
  unfold carlingref12_Shape_has.f
  by_cases h0 : i ≥ 0
  · rw [if_pos h0, hR.ll]; congr 1; exact decide_eq_decide.2 ⟨fun h => ⟨h0, h⟩, fun h => h.2⟩
  · rw [if_neg h0, decide_eq_false (by omega)]
omit hR in
theorem in_iff {i : Int} : (0 ≤ i ∧ i < nn p x y) ↔ 0 ≤ lev p x y i := by
  have := lev_no h (i := i)
  have hl := lev_b (p := p) (x := x) (y := y) i
  omega
theorem rkids_loop {i : Int} (h1 : 1 ≤ lev p x y i) : ∀ (d c : Nat), (kmany p x y i).toNat = c + d → Ev (fun k => carlingref12_Shape_Kids.l0 k i (rangeL (kfrom p x y i) c) (kfrom p x y i + c) p L F) (kids p x y i) := by
  have hb := kids_b h h1
  have hl := lev_b (p := p) (x := x) (y := y) i
  have hin := (in_iff h (i := i)).2 (by omega)
  have hkd : kids p x y i = rangeL (kfrom p x y i) (kmany p x y i).toNat := if_neg (by omega)
  have hn := nn_b h
  have hi := (lev_iff h (i := i) (t := lev p x y i) (by omega) (by omega)).1 rfl
  have hli := hR.lv i hin.1 hin.2
  have hll := hR.ll
  have htb := top_b (x := x) (y := y)
  rw [hkd]
  intro d
  induction d with
  | zero =>
    intro c hc
    rw [hc]
    refine Ev.step (f := fun _ => some (rangeL (kfrom p x y i) c)) (fun k => ?_) (Ev.now _)
    simp only [carlingref12_Shape_Kids.l0]
    rw [rangeL_len]
    by_cases h6 : (c : Int) < 6
    · rw [if_pos h6]
      by_cases hk : kfrom p x y i + c < i
      · have hkb : kfrom p x y i + c = SA.bt p x y (lev p x y i) := by omega
        have hlk : lev p x y (kfrom p x y i + c) = lev p x y i := (lev_iff h (by omega) (by omega)).2 ⟨by omega, by omega⟩
        have hlr := hR.lv (kfrom p x y i + c) (by omega) (by omega)
        rw [if_pos hk, if_pos (by omega), if_pos (by omega), if_pos (by omega), if_pos (by omega), hlr, hli, hlk, w64 (by omega) (by omega), if_neg (by omega)]
      · rw [if_neg hk]
    · rw [if_neg h6]
  | succ d ih =>
    intro c hc
    have hm1 := bt_mono h (s := lev p x y i - 1) (t := lev p x y i) (by omega) (by omega) (by omega)
    have hlk : lev p x y (kfrom p x y i + c) = lev p x y i - 1 := (lev_iff h (by omega) (by omega)).2 ⟨by omega, by rw [show lev p x y i - 1 + 1 = lev p x y i from by omega]; omega⟩
    have hlr := hR.lv (kfrom p x y i + c) (by omega) (by omega)
    refine Ev.step (f := fun k => carlingref12_Shape_Kids.l0 k i (rangeL (kfrom p x y i) (c + 1)) (kfrom p x y i + ((c + 1 : Nat) : Int)) p L F) (fun k => ?_) (ih (c + 1) (by omega))
    simp only [carlingref12_Shape_Kids.l0]
    rw [rangeL_len, if_pos (by omega), if_pos (by omega), if_pos (by omega), if_pos (by omega), if_pos (by omega), if_pos (by omega), hlr, hli, hlk, w64 (n := lev p x y i - 1) (by omega) (by omega), if_pos rfl, if_pos (by omega), rangeL_snoc, w64 (by omega) (by omega), show kfrom p x y i + (c : Int) + 1 = kfrom p x y i + ((c + 1 : Nat) : Int) from by omega]
theorem rkids_ev (i : Int) : Ev (fun k => carlingref12_Shape_Kids.f k p L F i) (kids p x y i) := by
  have hl := lev_b (p := p) (x := x) (y := y) i
  by_cases hin : 0 ≤ i ∧ i < nn p x y
  · have hlv := (in_iff h (i := i)).1 hin
    have hft := hR.ft i hin.1 hin.2
    have hfl := hR.fl
    by_cases h1 : lev p x y i < 1
    · rw [if_pos h1] at hft
      rw [show kids p x y i = [] from if_pos h1]
      refine Ev.mk 1 (fun k hk => ?_)
      obtain ⟨k, rfl⟩ : ∃ m, k = m + 1 := ⟨k - 1, by omega⟩
      unfold carlingref12_Shape_Kids.f
      rw [has_eq hR, Option.bind_some, if_pos (decide_eq_true hin), if_pos hin.1, if_pos (by omega), hft]
      simp only [carlingref12_Shape_Kids.j0]
      rw [if_pos (by decide)]
    · rw [if_neg h1] at hft
      have hb := kids_b h (i := i) (by omega)
      obtain ⟨K, hK⟩ := Ev.out (rkids_loop h hR (i := i) (by omega) (kmany p x y i).toNat 0 (by omega))
      simp only [rangeL, Int.natCast_zero, Int.add_zero] at hK
      refine Ev.mk (K + 1) (fun k hk => ?_)
      obtain ⟨k, rfl⟩ : ∃ m, k = m + 1 := ⟨k - 1, by omega⟩
      unfold carlingref12_Shape_Kids.f
      rw [has_eq hR, Option.bind_some, if_pos (decide_eq_true hin), if_pos hin.1, if_pos (by omega), hft]
      simp only [carlingref12_Shape_Kids.j0]
      rw [if_neg (by simp; omega), if_pos hin.1, if_pos (by omega), hft]
      exact hK k (by omega)
  · have hlv : lev p x y i < 0 := by
      rcases Int.lt_or_le (lev p x y i) 0 with h9 | h9
      · exact h9
      · exact absurd ((in_iff h).2 h9) hin
    rw [show kids p x y i = [] from if_pos (by omega)]
    refine Ev.mk 1 (fun k hk => ?_)
    obtain ⟨k, rfl⟩ : ∃ m, k = m + 1 := ⟨k - 1, by omega⟩
    unfold carlingref12_Shape_Kids.f
    rw [has_eq hR, Option.bind_some, if_neg (by simpa using hin)]
    simp only [carlingref12_Shape_Kids.j0, if_true]
omit h hR in
/-- A search through a list without the item goes on. -/
theorem rpar_skip {i q : Int} {u : Int} {n : Nat} (hn : n ≤ 10) (hno : ¬ (u ≤ i ∧ i < u + n)) {r : Int × Int × Bool} (hnext : Ev (fun k => carlingref12_Shape_Parent.l0 k i (wrap64 (q + 1)) p L F) r) :
    ∀ (d c : Nat), n = c + d → Ev (fun k => carlingref12_Shape_Parent.l1 k i q (rangeL u n) c p L F) r := by
  intro d
  induction d with
  | zero =>
    intro c hc
    refine Ev.step (f := _) (fun k => ?_) hnext
    simp only [carlingref12_Shape_Parent.l1]
    rw [rangeL_len, if_neg (by omega)]
  | succ d ih =>
    intro c hc
    refine Ev.step (f := fun k => carlingref12_Shape_Parent.l1 k i q (rangeL u n) ((c + 1 : Nat) : Int) p L F) (fun k => ?_) (ih (c + 1) (by omega))
    simp only [carlingref12_Shape_Parent.l1]
    rw [rangeL_len, if_pos (by omega), if_pos (by omega), rangeL_rd (by omega) (by omega), if_neg (by omega), w64 (by omega) (by omega), show (c : Int) + 1 = ((c + 1 : Nat) : Int) from by omega]
omit h hR in
theorem rpar_hit {i q : Int} {u : Int} {n : Nat} (hn : n ≤ 10) (hin : u ≤ i ∧ i < u + n) :
    ∀ (d c : Nat), (i - u).toNat = c + d → Ev (fun k => carlingref12_Shape_Parent.l1 k i q (rangeL u n) c p L F) (q, i - u, true) := by
  intro d
  induction d with
  | zero =>
    intro c hc
    refine Ev.step (f := fun _ => some (q, i - u, true)) (fun k => ?_) (Ev.now _)
    simp only [carlingref12_Shape_Parent.l1]
    rw [rangeL_len, if_pos (by omega), if_pos (by omega), rangeL_rd (by omega) (by omega), if_pos (by omega), show i - u = (c : Int) from by omega]
  | succ d ih =>
    intro c hc
    refine Ev.step (f := fun k => carlingref12_Shape_Parent.l1 k i q (rangeL u n) ((c + 1 : Nat) : Int) p L F) (fun k => ?_) (ih (c + 1) (by omega))
    simp only [carlingref12_Shape_Parent.l1]
    rw [rangeL_len, if_pos (by omega), if_pos (by omega), rangeL_rd (by omega) (by omega), if_neg (by omega), w64 (by omega) (by omega), show (c : Int) + 1 = ((c + 1 : Nat) : Int) from by omega]
omit h hR in
theorem par_no {i : Int} (hp : (par p x y i).2.2 = false) : par p x y i = (0, 0, false) := by
  unfold par at hp ⊢
  by_cases hc : lev p x y i < 0 ∨ i = nn p x y - 1
  · rw [if_pos hc]
  · rw [if_neg hc] at hp; cases hp
theorem rpar_loop {i : Int} : ∀ (d : Nat) (q : Int), 0 ≤ q → nn p x y - q = d → ((par p x y i).2.2 = true → q ≤ (par p x y i).1) → Ev (fun k => carlingref12_Shape_Parent.l0 k i q p L F) (par p x y i) := by
  have hn := nn_b h
  have hll := hR.ll
  intro d
  induction d with
  | zero =>
    intro q h0 hd hno
    have hp : (par p x y i).2.2 = false := by
      cases hp : (par p x y i).2.2 with
      | false => rfl
      | true =>
        have h1 := hno hp
        have h2 := (par_lev h hp)
        have h3 := (in_iff h (i := (par p x y i).1)).2 (by omega)
        omega
    rw [par_no hp]
    refine Ev.step (f := fun _ => some (0, 0, false)) (fun k => ?_) (Ev.now _)
    simp only [carlingref12_Shape_Parent.l0]
    rw [if_neg (by omega)]
  | succ d ih =>
    intro q h0 hd hno
    obtain ⟨K, hK⟩ := Ev.out (rkids_ev h hR q)
    have hlq := (in_iff h (i := q)).1 ⟨h0, by omega⟩
    by_cases hq : 1 ≤ lev p x y q
    · have hb := kids_b h hq
      have hkd : kids p x y q = rangeL (kfrom p x y q) (kmany p x y q).toNat := if_neg (by omega)
      by_cases hin : kfrom p x y q ≤ i ∧ i < kfrom p x y q + kmany p x y q
      · obtain ⟨K2, hK2⟩ := Ev.out (rpar_hit (i := i) (q := q) (u := kfrom p x y q) (n := (kmany p x y q).toNat) (by omega) (by omega) (i - kfrom p x y q).toNat 0 (by omega))
        rw [par_idx h hq hin]
        refine Ev.mk (K + K2 + 1) (fun k hk => ?_)
        obtain ⟨k, rfl⟩ : ∃ m, k = m + 1 := ⟨k - 1, by omega⟩
        simp only [carlingref12_Shape_Parent.l0]
        rw [if_pos (by omega), hK k (by omega), Option.bind_some, hkd]
        exact hK2 k (by omega)
      · have hne : (par p x y i).2.2 = true → q + 1 ≤ (par p x y i).1 := by
          intro hp
          have h1 := hno hp
          have h2 : (par p x y i).1 ≠ q := fun he => hin ((kid_par h hq).2 ⟨hp, he⟩)
          omega
        have hnext := ih (q + 1) (by omega) (by omega) hne
        obtain ⟨K2, hK2⟩ := Ev.out (rpar_skip (i := i) (q := q) (u := kfrom p x y q) (n := (kmany p x y q).toNat) (by omega) (by omega) (r := par p x y i) (by rw [w64 (by omega) (by omega)]; exact hnext) (kmany p x y q).toNat 0 (by omega))
        refine Ev.mk (K + K2 + 1) (fun k hk => ?_)
        obtain ⟨k, rfl⟩ : ∃ m, k = m + 1 := ⟨k - 1, by omega⟩
        simp only [carlingref12_Shape_Parent.l0]
        rw [if_pos (by omega), hK k (by omega), Option.bind_some, hkd]
        exact hK2 k (by omega)
    · have hkd : kids p x y q = rangeL 0 0 := if_pos (by omega)
      have hne : (par p x y i).2.2 = true → q + 1 ≤ (par p x y i).1 := by
        intro hp
        have h1 := hno hp
        have h2 := par_lev h hp
        have h3 : (par p x y i).1 ≠ q := fun he => by rw [he] at h2; omega
        omega
      have hnext := ih (q + 1) (by omega) (by omega) hne
      obtain ⟨K2, hK2⟩ := Ev.out (rpar_skip (i := i) (q := q) (u := 0) (n := 0) (by omega) (by omega) (r := par p x y i) (by rw [w64 (by omega) (by omega)]; exact hnext) 0 0 (by omega))
      refine Ev.mk (K + K2 + 1) (fun k hk => ?_)
      obtain ⟨k, rfl⟩ : ∃ m, k = m + 1 := ⟨k - 1, by omega⟩
      simp only [carlingref12_Shape_Parent.l0]
      rw [if_pos (by omega), hK k (by omega), Option.bind_some, hkd]
      exact hK2 k (by omega)
theorem rpar_ev (i : Int) : Ev (fun k => carlingref12_Shape_Parent.f k p L F i) (par p x y i) := by
  have hn := nn_b h
  exact rpar_loop h hR (i := i) (nn p x y).toNat 0 (by omega) (by omega) (fun hp => by
    have h2 := par_lev h hp
    have h3 := (in_iff h (i := (par p x y i).1)).2 (by omega)
    omega)
theorem rblock_eq (i q : Int) : carlingref12_Shape_Block.f p L F i q = some (if lev p x y i < 0 ∨ q < 0 ∨ q > 1 then -1 else 2 + 2 * i + q) := by
  have hn := nn_b h
  have hin := in_iff h (i := i)
  unfold carlingref12_Shape_Block.f
  rw [has_eq hR, Option.bind_some]
  by_cases h1 : 0 ≤ i ∧ i < nn p x y
  · have := hin.1 h1
    rw [if_pos (decide_eq_true h1)]
    by_cases h2 : q < 0
    · rw [if_pos h2, if_pos (.inr (.inl h2))]
    · by_cases h3 : q > 1
      · rw [if_neg h2, if_pos h3, if_pos (.inr (.inr h3))]
      · rw [if_neg h2, if_neg h3, if_neg (by omega), w64 (n := 2 * i) (by omega) (by omega), w64 (n := 2 + 2 * i) (by omega) (by omega), w64 (by omega) (by omega)]
  · have : ¬ 0 ≤ lev p x y i := fun h9 => h1 (hin.2 h9)
    rw [if_neg (by simpa using h1), if_pos (.inl (by omega))]
theorem ritem_loop {b : Int} : ∀ (d : Nat) (i : Int), 0 ≤ i → nn p x y - i = d → (2 ≤ b → 2 + 2 * i ≤ b) →
    Ev (fun k => carlingref12_Shape_Item.l0 k b i p L F) (if b < 2 ∨ b ≥ 2 + 2 * nn p x y then (0, 0, false) else ((b - 2) / 2, (b - 2) % 2, true)) := by
  have hn := nn_b h
  have hll := hR.ll
  intro d
  induction d with
  | zero =>
    intro i h0 hd hno
    rw [if_pos (by omega)]
    refine Ev.step (f := fun _ => some (0, 0, false)) (fun k => ?_) (Ev.now _)
    simp only [carlingref12_Shape_Item.l0]
    rw [if_neg (by omega)]
  | succ d ih =>
    intro i h0 hd hno
    have hlv := (in_iff h (i := i)).1 ⟨h0, by omega⟩
    have hB0 := rblock_eq h hR i 0
    have hB1 := rblock_eq h hR i 1
    rw [if_neg (by omega)] at hB0 hB1
    by_cases e0 : 2 + 2 * i + 0 = b
    · rw [if_neg (by omega)]
      refine Ev.mk 2 (fun k hk => ?_)
      obtain ⟨k, rfl⟩ : ∃ m, k = m + 2 := ⟨k - 2, by omega⟩
      simp only [carlingref12_Shape_Item.l0, carlingref12_Shape_Item.l1]
      rw [if_pos (by omega), if_pos (by omega), hB0, Option.bind_some, if_pos e0]
      congr 1
      refine Prod.ext (by simp only; omega) (Prod.ext (by simp only; omega) rfl)
    · by_cases e1 : 2 + 2 * i + 1 = b
      · rw [if_neg (by omega)]
        refine Ev.mk 3 (fun k hk => ?_)
        obtain ⟨k, rfl⟩ : ∃ m, k = m + 3 := ⟨k - 3, by omega⟩
        simp only [carlingref12_Shape_Item.l0, carlingref12_Shape_Item.l1]
        rw [if_pos (by omega), if_pos (by omega), hB0, Option.bind_some, if_neg e0, w64 (n := 0 + 1) (by omega) (by omega), if_pos (by omega), show (0 : Int) + 1 = 1 from rfl, hB1, Option.bind_some, if_pos e1]
        congr 1
        refine Prod.ext (by simp only; omega) (Prod.ext (by simp only; omega) rfl)
      · obtain ⟨K, hK⟩ := Ev.out (ih (i + 1) (by omega) (by omega) (by omega))
        refine Ev.mk (K + 4) (fun k hk => ?_)
        obtain ⟨k, rfl⟩ : ∃ m, k = m + 4 := ⟨k - 4, by omega⟩
        simp only [carlingref12_Shape_Item.l0, carlingref12_Shape_Item.l1]
        rw [if_pos (by omega), if_pos (by omega), hB0, Option.bind_some, if_neg e0, w64 (n := 0 + 1) (by omega) (by omega), if_pos (by omega), show (0 : Int) + 1 = 1 from rfl, hB1, Option.bind_some, if_neg e1, w64 (n := 1 + 1) (by omega) (by omega), if_neg (by omega), w64 (by omega) (by omega)]
        exact hK k (by omega)
theorem ritem_ev (b : Int) : Ev (fun k => carlingref12_Shape_Item.f k p L F b) (if b < 2 ∨ b ≥ 2 + 2 * nn p x y then (0, 0, false) else ((b - 2) / 2, (b - 2) % 2, true)) := by
  have hn := nn_b h
  exact ritem_loop h hR (nn p x y).toNat 0 (by omega) (by omega) (by omega)
/-- A path, by parents: ten rounds are enough. -/
theorem rpath_loop : ∀ (d : Nat) (i : Int) (acc : List Int) (n : Int), acc.length ≤ 50 → 0 ≤ n → n + d ≤ 9 → (acc.length : Int) = n → top x y - lev p x y i ≤ d + 1 →
    Ev (fun k => carlingref12_Shape_Path.l0 k (acc ++ [i]) n p L F) (acc ++ chain p x y d i) := by
  intro d
  induction d with
  | zero =>
    intro i acc n ha h0 hb hl hd
    have hlb := lev_b (p := p) (x := x) (y := y) i
    have hp : (par p x y i).2.2 = false := by
      cases hp : (par p x y i).2.2 with
      | false => rfl
      | true => have := par_lev h hp; omega
    obtain ⟨K, hK⟩ := Ev.out (rpar_ev h hR i)
    have hrd : rd (acc ++ [i]) n = i := by
      unfold rd; rw [List.getD_eq_getElem?_getD, List.getElem?_append_right (by omega), show n.toNat - acc.length = 0 from by omega]; rfl
    refine Ev.mk (K + 1) (fun k hk => ?_)
    obtain ⟨k, rfl⟩ : ∃ m, k = m + 1 := ⟨k - 1, by omega⟩
    simp only [carlingref12_Shape_Path.l0]
    rw [if_pos (by omega), List.length_append, List.length_singleton, w64 (by omega) (by omega), if_pos (by omega), if_pos (by omega), show ((acc.length + 1 : Nat) : Int) - 1 = n from by omega, hrd, hK k (by omega), Option.bind_some, hp, if_neg (by simp)]
    rfl
  | succ d ih =>
    intro i acc n ha h0 hb hl hd
    obtain ⟨K, hK⟩ := Ev.out (rpar_ev h hR i)
    have hrd : rd (acc ++ [i]) n = i := by
      unfold rd; rw [List.getD_eq_getElem?_getD, List.getElem?_append_right (by omega), show n.toNat - acc.length = 0 from by omega]; rfl
    cases hp : (par p x y i).2.2 with
    | false =>
      refine Ev.mk (K + 1) (fun k hk => ?_)
      obtain ⟨k, rfl⟩ : ∃ m, k = m + 1 := ⟨k - 1, by omega⟩
      simp only [carlingref12_Shape_Path.l0]
      rw [if_pos (by omega), List.length_append, List.length_singleton, w64 (by omega) (by omega), if_pos (by omega), if_pos (by omega), show ((acc.length + 1 : Nat) : Int) - 1 = n from by omega, hrd, hK k (by omega), Option.bind_some, hp, if_neg (by simp), chain, hp]
      rfl
    | true =>
      have hlv := par_lev h hp
      obtain ⟨K2, hK2⟩ := Ev.out (ih (par p x y i).1 (acc ++ [i]) (n + 1) (by simp; omega) (by omega) (by omega) (by simp; omega) (by omega))
      refine Ev.mk (K + K2 + 1) (fun k hk => ?_)
      obtain ⟨k, rfl⟩ : ∃ m, k = m + 1 := ⟨k - 1, by omega⟩
      simp only [carlingref12_Shape_Path.l0]
      rw [if_pos (by omega), List.length_append, List.length_singleton, w64 (n := ((acc.length + 1 : Nat) : Int) - 1) (by omega) (by omega), if_pos (by omega), if_pos (by omega), show ((acc.length + 1 : Nat) : Int) - 1 = n from by omega, hrd, hK k (by omega), Option.bind_some, hp, if_pos rfl, if_pos (by omega), w64 (by omega) (by omega), hK2 k (by omega), chain, hp, List.append_assoc]
      rfl
theorem rpath_ev {i : Int} : Ev (fun k => carlingref12_Shape_Path.f k p L F i) (if lev p x y i = 0 then chain p x y 5 i else []) := by
  have htb := top_b (x := x) (y := y)
  have hz : lev p x y i = 0 ↔ 0 ≤ i ∧ i < p := by
    have := lev_iff h (i := i) (t := 0) (by omega) (by omega)
    have e0 : SA.bt p x y 0 = 0 := rfl
    have e1 : SA.bt p x y (0 + 1) = p := rfl
    rwa [e0, e1] at this
  by_cases h1 : lev p x y i = 0
  · have hi := hz.1 h1
    obtain ⟨K, hK⟩ := Ev.out (rpath_loop h hR 5 i [] 0 (by simp) (by omega) (by omega) (by simp) (by omega))
    rw [List.nil_append, List.nil_append] at hK
    rw [if_pos h1]
    refine Ev.mk (K + 1) (fun k hk => ?_)
    obtain ⟨k, rfl⟩ : ∃ m, k = m + 1 := ⟨k - 1, by omega⟩
    unfold carlingref12_Shape_Path.f
    rw [if_neg (by omega), decide_eq_false (by omega)]
    simp only [carlingref12_Shape_Path.j0]
    rw [if_neg (by simp)]
    exact hK k (by omega)
  · rw [if_neg h1]
    refine Ev.mk 1 (fun k hk => ?_)
    obtain ⟨k, rfl⟩ : ∃ m, k = m + 1 := ⟨k - 1, by omega⟩
    unfold carlingref12_Shape_Path.f
    by_cases h2 : i < 0
    · rw [if_pos h2]; simp only [carlingref12_Shape_Path.j0, if_true]
    · rw [if_neg h2, decide_eq_true (show i ≥ p by omega)]; simp only [carlingref12_Shape_Path.j0, if_true]
omit hR in
/-- A path has an item once, if at all. -/
theorem runder_path {i q : Int} (hq0 : 0 ≤ q) (hq1 : q < p) {acc acc2 : List Int} (hacc : acc.length ≤ 1000) (hres : acc2 = if 0 ≤ lev p x y i ∧ i = anc p x y q (lev p x y i) then acc ++ [q] else acc)
    {r : List Int} (hnext : Ev (fun k => carlingref12_Shape_Under.l0 k i acc2 (wrap64 (q + 1)) p L F) r) :
    ∀ (d : Nat) (c : Int), 0 ≤ c → top x y - c = d → Ev (fun k => carlingref12_Shape_Under.l1 k i (if 0 ≤ lev p x y i ∧ i = anc p x y q (lev p x y i) ∧ lev p x y i < c then acc ++ [q] else acc) q ((rangeL 0 (top x y).toNat).map (anc p x y q)) c p L F) r := by
  have htb := top_b (x := x) (y := y)
  have hlb := lev_b (p := p) (x := x) (y := y) i
  have hlen : (((rangeL 0 (top x y).toNat).map (anc p x y q)).length : Int) = top x y := by rw [List.length_map, rangeL_len]; omega
  intro d
  induction d with
  | zero =>
    intro c h0 hd
    refine Ev.step (f := _) (fun k => ?_) hnext
    simp only [carlingref12_Shape_Under.l1]
    rw [hlen, if_neg (by omega), hres]
    congr 1
    by_cases hh : 0 ≤ lev p x y i ∧ i = anc p x y q (lev p x y i)
    · rw [if_pos hh, if_pos ⟨hh.1, hh.2, by omega⟩]
    · rw [if_neg hh, if_neg (fun h9 => hh ⟨h9.1, h9.2.1⟩)]
  | succ d ih =>
    intro c h0 hd
    have hrd : rd ((rangeL 0 (top x y).toNat).map (anc p x y q)) c = anc p x y q c := by
      have hl : c.toNat < (rangeL 0 (top x y).toNat).length := by rw [rangeL_len]; omega
      have := rangeL_rd (n := (top x y).toNat) (a := 0) h0 (by omega)
      unfold rd at this ⊢
      rw [List.getD_eq_getElem?_getD, List.getElem?_eq_getElem hl, Option.getD_some] at this
      rw [List.getD_eq_getElem?_getD, List.getElem?_map, List.getElem?_eq_getElem hl, Option.map_some, Option.getD_some, this]
      congr 1; omega
    have hal := anc_lev h hq0 hq1 (t := c) h0 (by omega)
    refine Ev.step (f := _) (fun k => ?_) (ih (c + 1) (by omega) (by omega))
    simp only [carlingref12_Shape_Under.l1]
    rw [hlen, if_pos (by omega), if_pos h0, hrd, w64 (n := c + 1) (by omega) (by omega)]
    by_cases he : anc p x y q c = i
    · have hli : lev p x y i = c := by rw [← he]; exact hal
      have h1 : ¬ (0 ≤ lev p x y i ∧ i = anc p x y q (lev p x y i) ∧ lev p x y i < c) := by omega
      rw [if_pos he, if_neg h1, if_pos (by omega), if_pos ⟨by omega, by rw [hli, he], by omega⟩]
    · rw [if_neg he]
      congr 1
      by_cases hh : 0 ≤ lev p x y i ∧ i = anc p x y q (lev p x y i) ∧ lev p x y i < c
      · rw [if_pos hh, if_pos ⟨hh.1, hh.2.1, by omega⟩]
      · rw [if_neg hh, if_neg]
        rintro ⟨g1, g2, g3⟩
        by_cases hc : lev p x y i = c
        · rw [hc] at g2; exact he g2.symm
        · exact hh ⟨g1, g2, by omega⟩
theorem runder_loop {i : Int} : ∀ (d : Nat) (q : Int), 0 ≤ q → p - q = d →
    Ev (fun k => carlingref12_Shape_Under.l0 k i (if lev p x y i < 0 then [] else rangeL (uf p x y i) (mn q (ut p x y i) - uf p x y i).toNat) q p L F) (under p x y i) := by
  have hp1 := h.p1
  have hp2 := h.p2
  have htb := top_b (x := x) (y := y)
  have hlb := lev_b (p := p) (x := x) (y := y) i
  have hub : 0 ≤ lev p x y i → 0 ≤ uf p x y i ∧ uf p x y i < p ∧ ut p x y i ≤ p ∧ uf p x y i < ut p x y i := by
    intro hl
    obtain ⟨u1, u2, u3, u4⟩ := under_at h (k := i) rfl hl
    unfold uf ut mn
    rcases pw_or (t := lev p x y i) hl (by omega) with e | e | e | e <;> rw [e] at u2 ⊢ <;> split <;> omega
  intro d
  induction d with
  | zero =>
    intro q h0 hd
    have e : (if lev p x y i < 0 then [] else rangeL (uf p x y i) (mn q (ut p x y i) - uf p x y i).toNat) = under p x y i := by
      unfold under
      by_cases hl : lev p x y i < 0
      · rw [if_pos hl, if_pos hl]
      · have := hub (by omega)
        rw [if_neg hl, if_neg hl]
        congr 2
        unfold mn; split <;> omega
    rw [e]
    refine Ev.step (f := fun _ => some (under p x y i)) (fun k => ?_) (Ev.now _)
    simp only [carlingref12_Shape_Under.l0]
    rw [if_neg (by omega)]
  | succ d ih =>
    intro q h0 hd
    have hlq : lev p x y q = 0 := by
      have := anc_lev h h0 (by omega : q < p) (t := 0) (by omega) (by omega)
      rwa [anc_zero] at this
    obtain ⟨K, hK⟩ := Ev.out (rpath_ev h hR (i := q))
    rw [if_pos hlq] at hK
    have hch := chain_anc h h0 (by omega : q < p) 5 0 (by omega) (by omega) (by omega)
    rw [anc_zero, Int.sub_zero] at hch
    obtain ⟨acc, hacc⟩ : ∃ acc, acc = (if lev p x y i < 0 then [] else rangeL (uf p x y i) (mn q (ut p x y i) - uf p x y i).toNat) := ⟨_, rfl⟩
    obtain ⟨acc2, hacc2⟩ : ∃ acc2, acc2 = (if lev p x y i < 0 then [] else rangeL (uf p x y i) (mn (q + 1) (ut p x y i) - uf p x y i).toNat) := ⟨_, rfl⟩
    have hnext := ih (q + 1) (by omega) (by omega)
    rw [← hacc2] at hnext
    rw [← hacc]
    have hal : acc.length ≤ 1000 := by
      rw [hacc]
      split
      · simp
      · have := hub (by omega)
        rw [rangeL_len]; unfold mn; split <;> omega
    have hres : acc2 = if 0 ≤ lev p x y i ∧ i = anc p x y q (lev p x y i) then acc ++ [q] else acc := by
      by_cases hl : lev p x y i < 0
      · rw [if_neg (by omega), hacc, hacc2, if_pos hl, if_pos hl]
      · have hu := hub (by omega)
        have hmem := under_mem (p := p) (x := x) (y := y) (q := q) (k := i) (s := lev p x y i) h0 (by omega) rfl (by omega)
        have e1 : uf p x y i = pw (lev p x y i) * (i - SA.bt p x y (lev p x y i)) := rfl
        have e2 : ut p x y i = mn (pw (lev p x y i) * (i - SA.bt p x y (lev p x y i) + 1)) p := rfl
        rw [← e1, ← e2] at hmem
        rw [hacc, hacc2, if_neg hl, if_neg hl]
        by_cases hm : uf p x y i ≤ q ∧ q < ut p x y i
        · rw [if_pos ⟨by omega, hmem.1 hm⟩]
          have g1 : (mn (q + 1) (ut p x y i) - uf p x y i).toNat = (q - uf p x y i).toNat + 1 := by unfold mn; split <;> omega
          have g2 : (mn q (ut p x y i) - uf p x y i).toNat = (q - uf p x y i).toNat := by unfold mn; split <;> omega
          rw [g1, g2, ← rangeL_snoc]
          congr 2; omega
        · rw [if_neg (fun h9 => hm (hmem.2 h9.2))]
          congr 1
          unfold mn; split <;> split <;> omega
    have hpl := runder_path h h0 (by omega : q < p) (i := i) hal hres (r := under p x y i) (by rw [w64 (by omega) (by omega)]; exact hnext) (top x y).toNat 0 (by omega) (by omega)
    rw [if_neg (by omega)] at hpl
    obtain ⟨K2, hK2⟩ := Ev.out hpl
    refine Ev.mk (K + K2 + 1) (fun k hk => ?_)
    obtain ⟨k, rfl⟩ : ∃ m, k = m + 1 := ⟨k - 1, by omega⟩
    simp only [carlingref12_Shape_Under.l0]
    rw [if_pos (by omega), hK k (by omega), Option.bind_some, hch]
    exact hK2 k (by omega)
theorem runder_ev (i : Int) : Ev (fun k => carlingref12_Shape_Under.f k p L F i) (under p x y i) := by
  have hp1 := h.p1
  have := runder_loop h hR (i := i) p.toNat 0 (by omega) (by omega)
  have e : (if lev p x y i < 0 then [] else rangeL (uf p x y i) (mn 0 (ut p x y i) - uf p x y i).toNat) = [] := by
    by_cases hl : lev p x y i < 0
    · rw [if_pos hl]
    · rw [if_neg hl]
      have hlb := lev_b (p := p) (x := x) (y := y) i
      have htb := top_b (x := x) (y := y)
      obtain ⟨u1, u2, u3, u4⟩ := under_at h (k := i) rfl (by omega)
      have : (mn 0 (ut p x y i) - uf p x y i).toNat = 0 := by
        unfold uf mn
        rcases pw_or (t := lev p x y i) (by omega) (by omega) with e | e | e | e <;> rw [e] <;> split <;> omega
      rw [this]; rfl
  rw [e] at this
  exact this
end
theorem same_self {l : List Int} (hl : l.length ≤ 1000) : Ev (fun k => carlinglaw12_same.f k l l) true := by
  have loop : ∀ (d : Nat) (i : Int), 0 ≤ i → i ≤ l.length → (l.length : Int) - i = d → Ev (fun k => carlinglaw12_same.l0 k l l l.length i) true := by
    intro d
    induction d with
    | zero =>
      intro i h0 h1 hd
      exact Ev.step (f := fun _ => some true) (fun k => by simp only [carlinglaw12_same.l0]; rw [if_neg (by omega)]) (Ev.now _)
    | succ d ih =>
      intro i h0 h1 hd
      refine Ev.step (f := fun k => carlinglaw12_same.l0 k l l l.length (i + 1)) (fun k => ?_) (ih (i + 1) (by omega) (by omega) (by omega))
      simp only [carlinglaw12_same.l0]
      rw [if_pos (by omega), if_pos h0, if_pos (by omega), if_pos (by omega), if_pos trivial, w64 (by omega) (by omega)]
  exact Ev.congr (fun k => by unfold carlinglaw12_same.f; rw [if_pos rfl]) (loop l.length 0 (by omega) (by omega) (by omega))
end Go.Proofs.Ythpmlhiilmaigaa.SD
