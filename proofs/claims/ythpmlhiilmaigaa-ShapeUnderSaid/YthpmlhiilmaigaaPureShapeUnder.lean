/- ShapeUnder, over numbers and lists alone: all pages lie under the root, each under one child of each node on its path. For all whole numbers. -/
import Derived.Test.YthpmlhiilmaigaaSC
import Derived.Test.YthpmlhiilmaigaaPSx4
namespace Go.Proofs.Ythpmlhiilmaigaa.Pure
open Go.RowKit Go.Proofs.YthpmlhiilmaigaaW.PrintWords Go.Proofs.YthpmlhiilmaigaaW.PrintLast Go.Proofs.YthpmlhiilmaigaaW.PrintMore Go.Proofs.Ythpmlhiilmaigaa.PS Go.Proofs.Ythpmlhiilmaigaa.SA Go.Proofs.Ythpmlhiilmaigaa.SB Go.Proofs.Ythpmlhiilmaigaa.SC

/-- Is q one of the c numbers from u on? -/
def inR (q u : Int) (c : Nat) : Int := if u ≤ q ∧ q < u + c then 1 else 0
theorem l3_loop {l ks : List Int} {q i j : Int} {nl nk : Int} {path : List Int} {u : Int} {c : Nat} (hc : c ≤ 1000) (R : Bool) :
    ∀ (d e : Nat) (m : Int), c = e + d → 0 ≤ m → m + d ≤ 100000 →
    Ev (fun k => carlinglaw12_ShapeUnder.l2 k q (m + inR q (u + e) d) path nl i ks nk (wrap64 (j + 1)) l) R →
    Ev (fun k => carlinglaw12_ShapeUnder.l3 k q m path nl i ks nk j (rangeL u c) (c : Int) e l) R := by
  intro d
  induction d with
  | zero =>
    intro e m he h0 hm hnext
    have : inR q (u + e) 0 = 0 := if_neg (by omega)
    rw [this, Int.add_zero] at hnext
    refine Ev.step (f := _) (fun k => ?_) hnext
    simp only [carlinglaw12_ShapeUnder.l3]
    rw [if_neg (by omega)]
  | succ d ih =>
    intro e m he h0 hm hnext
    by_cases hq : u + e = q
    · have h1 : m + inR q (u + e) (d + 1) = m + 1 + inR q (u + ((e + 1 : Nat) : Int)) d := by
        unfold inR; rw [if_pos (by omega), if_neg (by omega)]; omega
      rw [h1] at hnext
      refine Ev.step (f := _) (fun k => ?_) (ih (e + 1) (m + 1) (by omega) (by omega) (by omega) hnext)
      simp only [carlinglaw12_ShapeUnder.l3]
      rw [if_pos (by omega), if_pos (by omega), if_pos (by rw [rangeL_len]; omega), rangeL_rd (by omega) (by omega), if_pos hq, w64 (n := m + 1) (by omega) (by omega), w64 (n := (e : Int) + 1) (by omega) (by omega)]
      rfl
    · have h1 : m + inR q (u + e) (d + 1) = m + inR q (u + ((e + 1 : Nat) : Int)) d := by
        unfold inR; congr 1
        by_cases hh : u + e ≤ q ∧ q < u + e + ((d + 1 : Nat) : Int)
        · rw [if_pos hh, if_pos (by omega)]
        · rw [if_neg hh, if_neg (by omega)]
      rw [h1] at hnext
      refine Ev.step (f := _) (fun k => ?_) (ih (e + 1) m (by omega) (by omega) (by omega) hnext)
      simp only [carlinglaw12_ShapeUnder.l3]
      rw [if_pos (by omega), if_pos (by omega), if_pos (by rw [rangeL_len]; omega), rangeL_rd (by omega) (by omega), if_neg hq, w64 (n := (e : Int) + 1) (by omega) (by omega)]
      rfl
section
variable {p x y : Int} (h : Sh p x y)
include h
/-- The kids of a node, from the c-th on: how many have the page. -/
theorem l2_loop {q : Int} (hq0 : 0 ≤ q) (hq1 : q < p) {t : Int} (ht0 : 1 ≤ t) (ht1 : t < top x y) {path : List Int} {nl i : Int}
    (hend : Ev (fun k => carlinglaw12_ShapeUnder.l1 k q path nl (wrap64 (i + 1)) (cl p x y)) true) :
    ∀ (d c : Nat), (kmany p x y (anc p x y q t)).toNat = c + d →
    Ev (fun k => carlinglaw12_ShapeUnder.l2 k q (if kfrom p x y (anc p x y q t) + c ≤ anc p x y q (t - 1) then 0 else 1) path nl i (kids p x y (anc p x y q t)) ((kids p x y (anc p x y q t)).length : Int) c (cl p x y)) true := by
  have hl : lev p x y (anc p x y q t) = t := anc_lev h hq0 hq1 (by omega) ht1
  have hb := kids_b h (i := anc p x y q t) (by omega)
  have htb := top_b (x := x) (y := y)
  have hkd : kids p x y (anc p x y q t) = rangeL (kfrom p x y (anc p x y q t)) (kmany p x y (anc p x y q t)).toNat := if_neg (by omega)
  have hkl : ((kids p x y (anc p x y q t)).length : Int) = kmany p x y (anc p x y q t) := by rw [hkd, rangeL_len]; omega
  have hpar := anc_par h hq0 hq1 (t := t - 1) (by omega) (by omega)
  rw [show t - 1 + 1 = t from by omega] at hpar
  have hin := (kid_par h (i := anc p x y q t) (k := anc p x y q (t - 1)) (by omega)).2 ⟨hpar.2, hpar.1⟩
  have hm1 := bt_mono h (s := t - 1) (t := t) (by omega) (by omega) (by omega)
  have hbt := bt_b h t
  rw [hl] at hb
  rw [hkl]
  intro d
  induction d with
  | zero =>
    intro c hc
    refine Ev.step (f := _) (fun k => ?_) hend
    simp only [carlinglaw12_ShapeUnder.l2]
    rw [if_neg (by omega), if_pos (by rw [if_neg (by omega)])]
  | succ d ih =>
    intro c hc
    obtain ⟨kk, hk⟩ : ∃ kk, kk = kfrom p x y (anc p x y q t) + c := ⟨_, rfl⟩
    have hkv : lev p x y kk = t - 1 := (lev_iff h (by omega) (by omega)).2 ⟨by omega, by rw [show t - 1 + 1 = t from by omega]; omega⟩
    have hua := under_at h (k := kk) hkv (by omega)
    obtain ⟨K, hK⟩ := Ev.out (under_ev h 4 kk (by omega))
    obtain ⟨u, hu⟩ : ∃ u, u = pw (t - 1) * (kk - SA.bt p x y (t - 1)) := ⟨_, rfl⟩
    obtain ⟨v, hv⟩ : ∃ v, v = mn (pw (t - 1) * (kk - SA.bt p x y (t - 1) + 1)) p := ⟨_, rfl⟩
    have hmem := under_mem (p := p) (x := x) (y := y) hq0 hq1 hkv (by omega)
    rw [← hu, ← hv] at hua hmem
    have hvp : v ≤ p := by rw [hv]; unfold mn; split <;> omega
    have hp2 := h.p2
    have hu0 : 0 ≤ u := by
      rw [hu]
      rcases pw_or (t := t - 1) (by omega) (by omega) with e | e | e | e <;> rw [e] <;> omega
    obtain ⟨K2, hK2⟩ := Ev.out (ih (c + 1) (by omega))
    have hcount : (if kfrom p x y (anc p x y q t) + c ≤ anc p x y q (t - 1) then (0 : Int) else 1) + inR q (u + ((0 : Nat) : Int)) (v - u).toNat = (if kfrom p x y (anc p x y q t) + ((c + 1 : Nat) : Int) ≤ anc p x y q (t - 1) then 0 else 1) := by
      unfold inR
      by_cases hh : kk = anc p x y q (t - 1)
      · have := hmem.2 hh
        rw [if_pos (by omega), if_pos (by omega), if_neg (by omega)]; rfl
      · have : ¬ (u ≤ q ∧ q < v) := fun h9 => hh (hmem.1 h9)
        rw [if_neg (c := u + ((0 : Nat) : Int) ≤ q ∧ _) (by omega)]
        by_cases h8 : kfrom p x y (anc p x y q t) + c ≤ anc p x y q (t - 1)
        · rw [if_pos h8, if_pos (by omega)]; rfl
        · rw [if_neg h8, if_neg (by omega)]; rfl
    have hin3 := l3_loop (l := cl p x y) (ks := kids p x y (anc p x y q t)) (q := q) (i := i) (j := c) (nl := nl) (nk := kmany p x y (anc p x y q t)) (path := path) (u := u) (c := (v - u).toNat) (by omega) true (v - u).toNat 0
      (if kfrom p x y (anc p x y q t) + c ≤ anc p x y q (t - 1) then 0 else 1) (by omega) (by split <;> omega) (by split <;> omega) (by
        rw [hcount, w64 (n := (c : Int) + 1) (by omega) (by omega), show (c : Int) + 1 = ((c + 1 : Nat) : Int) from by omega]
        exact Ev.mk K2 hK2)
    obtain ⟨K3, hK3⟩ := Ev.out hin3
    refine Ev.mk (K + K3 + 1) (fun k hk2 => ?_)
    obtain ⟨k, rfl⟩ : ∃ m, k = m + 1 := ⟨k - 1, by omega⟩
    simp only [carlinglaw12_ShapeUnder.l2]
    rw [if_pos (by omega), if_pos (by omega), hkl, if_pos (by omega), hkd, rangeL_rd (by omega) (by omega), ← hk, hK k (by omega), Option.bind_some, hua.1, rangeL_len, ← hkd, hk]
    exact hK3 k (by omega)
/-- The nodes of the path. -/
theorem l1_loop {q : Int} (hq0 : 0 ≤ q) (hq1 : q < p) : ∀ (d : Nat) (c : Int), 0 ≤ c → top x y - 1 - c = d →
    Ev (fun k => carlinglaw12_ShapeUnder.l1 k q ((rangeL 1 (top x y - 1).toNat).map (anc p x y q)) (((rangeL 1 (top x y - 1).toNat).map (anc p x y q)).length : Int) c (cl p x y)) true := by
  have htb := top_b (x := x) (y := y)
  have hlen : (((rangeL 1 (top x y - 1).toNat).map (anc p x y q)).length : Int) = top x y - 1 := by rw [List.length_map, rangeL_len]; omega
  rw [hlen]
  intro d
  induction d with
  | zero =>
    intro c h0 hd
    obtain ⟨K, hK⟩ := Ev.out alive_ev
    refine Ev.mk (K + 1) (fun k hk => ?_)
    obtain ⟨k, rfl⟩ : ∃ m, k = m + 1 := ⟨k - 1, by omega⟩
    simp only [carlinglaw12_ShapeUnder.l1]
    rw [if_neg (by omega), hK k (by omega)]; rfl
  | succ d ih =>
    intro c h0 hd
    have hn := ih (c + 1) (by omega) (by omega)
    have hrd : rd ((rangeL 1 (top x y - 1).toNat).map (anc p x y q)) c = anc p x y q (c + 1) := by
      have hl : c.toNat < (rangeL 1 (top x y - 1).toNat).length := by rw [rangeL_len]; omega
      have := rangeL_rd (n := (top x y - 1).toNat) (a := 1) h0 (by omega)
      unfold rd at this ⊢
      rw [List.getD_eq_getElem?_getD, List.getElem?_eq_getElem hl, Option.getD_some] at this
      rw [List.getD_eq_getElem?_getD, List.getElem?_map, List.getElem?_eq_getElem hl, Option.map_some, Option.getD_some, this]
      congr 1; omega
    have hkb := kids_b h (i := anc p x y q (c + 1)) (by rw [anc_lev h hq0 hq1 (by omega) (by omega)]; omega)
    have hpar := anc_par h hq0 hq1 (t := c) (by omega) (by omega)
    have hin := (kid_par h (i := anc p x y q (c + 1)) (k := anc p x y q c) (by rw [anc_lev h hq0 hq1 (by omega) (by omega)]; omega)).2 ⟨hpar.2, hpar.1⟩
    obtain ⟨K, hK⟩ := Ev.out (kids_ev h (anc p x y q (c + 1)))
    have h2 := l2_loop h hq0 hq1 (t := c + 1) (by omega) (by omega) (path := (rangeL 1 (top x y - 1).toNat).map (anc p x y q)) (nl := top x y - 1) (i := c) (by rw [w64 (by omega) (by omega)]; exact hn) (kmany p x y (anc p x y q (c + 1))).toNat 0 (by omega)
    rw [show c + 1 - 1 = c from by omega, if_pos (by omega)] at h2
    obtain ⟨K2, hK2⟩ := Ev.out h2
    refine Ev.mk (K + K2 + 1) (fun k hk => ?_)
    obtain ⟨k, rfl⟩ : ∃ m, k = m + 1 := ⟨k - 1, by omega⟩
    simp only [carlinglaw12_ShapeUnder.l1]
    rw [if_pos (by omega), if_pos h0, hlen, if_pos (by omega), hrd, hK k (by omega), Option.bind_some]
    exact hK2 k (by omega)
/-- All pages are there, in order. -/
theorem l0_loop {q : Int} (hq0 : 0 ≤ q) (hq1 : q < p) : ∀ (d : Nat) (c : Int), 0 ≤ c → p - c = d →
    Ev (fun k => carlinglaw12_ShapeUnder.l0 k p q (rangeL 0 p.toNat) (rangeL 0 p.toNat) p c (cl p x y)) true := by
  have htb := top_b (x := x) (y := y)
  have hp1 := h.p1
  have hp2 := h.p2
  have hnb := nn_b h
  have hlen : ((rangeL 0 p.toNat).length : Int) = p := by rw [rangeL_len]; omega
  intro d
  induction d with
  | zero =>
    intro c h0 hd
    have hlq : lev p x y q = 0 := by
      have := anc_lev h hq0 hq1 (t := 0) (by omega) (by omega)
      rwa [anc_zero] at this
    obtain ⟨K, hK⟩ := Ev.out (path_ev h (i := q))
    rw [if_pos hlq] at hK
    have hch := chain_anc h hq0 hq1 5 0 (by omega) (by omega) (by omega)
    rw [anc_zero, show (top x y - 0).toNat = (top x y - 1).toNat + 1 from by omega] at hch
    have hch2 : chain p x y 5 q = q :: (rangeL 1 (top x y - 1).toNat).map (anc p x y q) := by
      rw [hch]; show anc p x y q 0 :: _ = _; rw [anc_zero]; rfl
    have hlen2 : ((chain p x y 5 q).length : Int) = top x y := by rw [hch2, List.length_cons, List.length_map, rangeL_len]; omega
    have hlast : rd (chain p x y 5 q) (top x y - 1) = nn p x y - 1 := by
      rw [hch, ← (anc_top h hq0 hq1).1]
      have hl : (top x y - 1).toNat < (rangeL 0 ((top x y - 1).toNat + 1)).length := by rw [rangeL_len]; omega
      have := rangeL_rd (n := (top x y - 1).toNat + 1) (a := 0) (j := top x y - 1) (by omega) (by omega)
      unfold rd at this ⊢
      rw [List.getD_eq_getElem?_getD, List.getElem?_eq_getElem hl, Option.getD_some] at this
      rw [List.getD_eq_getElem?_getD, List.getElem?_map, List.getElem?_eq_getElem hl, Option.map_some, Option.getD_some, this]
      congr 1; omega
    obtain ⟨K2, hK2⟩ := Ev.out (l1_loop h hq0 hq1 (top x y - 1).toNat 0 (by omega) (by omega))
    refine Ev.mk (K + K2 + 3) (fun k hk => ?_)
    obtain ⟨k, rfl⟩ : ∃ m, k = m + 2 := ⟨k - 2, by omega⟩
    simp only [carlinglaw12_ShapeUnder.l0]
    rw [if_neg (by omega), hK (k + 1) (by omega), Option.bind_some, if_pos hlen, levels_eq (p := p), Option.bind_some, if_pos hlen2, if_pos (by omega), if_pos (by rw [hch2]; rfl), hlen2, w64 (by omega) (by omega), if_pos (by omega), if_pos (by omega), root_eq h, Option.bind_some, hlast]
    simp only [carlinglaw12_ShapeUnder.j2]
    rw [if_neg (by simp), if_pos (by omega), Option.bind_some, hch2]
    exact hK2 k (by omega)
  | succ d ih =>
    intro c h0 hd
    refine Ev.step (f := fun k => carlinglaw12_ShapeUnder.l0 k p q (rangeL 0 p.toNat) (rangeL 0 p.toNat) p (c + 1) (cl p x y)) (fun k => ?_) (ih (c + 1) (by omega) (by omega))
    simp only [carlinglaw12_ShapeUnder.l0]
    rw [if_pos (by omega), if_pos h0, if_pos (by omega), rangeL_rd h0 (by omega), if_pos (by omega), w64 (by omega) (by omega)]
end
theorem path_none : Ev (fun k => shape_Shape_Path.f k [] 0) [] := Ev.of (k := 5) (fun k => shape_Shape_Path.mono _ _ k) (by decide +kernel)
theorem path_nil (q : Int) : Ev (fun k => shape_Shape_Path.f k [] q) [] := by
  refine Ev.mk 1 (fun k hk => ?_)
  obtain ⟨k, rfl⟩ : ∃ m, k = m + 1 := ⟨k - 1, by omega⟩
  have hl : shape_Shape_Level.f (k + 1) [] q = some (-1) := by
    unfold shape_Shape_Level.f
    by_cases hq : q < 0
    · rw [if_pos hq]
    · rw [if_neg hq, show shape_Shape_Levels.f [] = some 0 from by decide +kernel, Option.bind_some]
      simp only [shape_Shape_Level.l0]
      rw [if_neg (by omega)]
  unfold shape_Shape_Path.f
  rw [hl, Option.bind_some, if_neg (by omega)]
theorem ShapeUnder : carlinglaw12_ShapeUnder.Pure := by
  intro p q _ _
  obtain ⟨Ka, ha⟩ := Ev.out alive_ev
  by_cases hp : p < 1 ∨ p > 216
  · obtain ⟨K, hK⟩ := Ev.out (new_no hp)
    obtain ⟨K2, hK2⟩ := Ev.out (path_nil q)
    refine ⟨K + K2 + Ka + 1, ?_⟩
    unfold carlinglaw12_ShapeUnder.f
    rw [hK _ (by omega), Option.bind_some, if_neg (by simp)]
    simp only [carlinglaw12_ShapeUnder.j0]
    rw [if_pos trivial, hK2 _ (by omega), Option.bind_some, if_pos (by rfl), ha _ (by omega)]; rfl
  · have h := Sh.of (p := p) (by omega) (by omega)
    obtain ⟨x, hx⟩ : ∃ x, x = (p + 5) / 6 := ⟨_, rfl⟩
    obtain ⟨y, hy⟩ : ∃ y, y = ((p + 5) / 6 + 5) / 6 := ⟨_, rfl⟩
    rw [← hy, ← hx] at h
    have hnew := new_ev (p := p) (by omega) (by omega)
    rw [show lst p = cl p x y from by rw [hx, hy]; rfl] at hnew
    obtain ⟨K, hK⟩ := Ev.out hnew
    by_cases hq : 0 ≤ q ∧ q < p
    · have htb := top_b (x := x) (y := y)
      have hnb := nn_b h
      have hrl : lev p x y (nn p x y - 1) = top x y - 1 := by
        have h2 := anc_lev h hq.1 hq.2 (t := top x y - 1) (by omega) (by omega)
        rwa [(anc_top h hq.1 hq.2).1] at h2
      have hur : under p x y (nn p x y - 1) = rangeL 0 p.toNat := by
        have hu := under_at h hrl (by omega)
        have hn := nn_eq h
        have hc := cnt_pw h (t := top x y - 1) (by omega) (by omega)
        have hnn : nn p x y = SA.bt p x y (top x y) := rfl
        rw [show top x y - 1 + 1 = top x y from by omega, ← hnn, show nn p x y - SA.bt p x y (top x y - 1) = 1 from by omega] at hc
        rw [hu.1, show nn p x y - 1 - SA.bt p x y (top x y - 1) = 0 from by omega, Int.mul_zero, Int.zero_add, Int.sub_zero]
        congr 1
        unfold mn; split <;> omega
      obtain ⟨K2, hK2⟩ := Ev.out (under_ev h 4 (nn p x y - 1) (by omega))
      obtain ⟨K3, hK3⟩ := Ev.out (l0_loop h hq.1 hq.2 p.toNat 0 (by omega) (by omega))
      refine ⟨K + K2 + K3 + Ka + 1, ?_⟩
      unfold carlinglaw12_ShapeUnder.f
      rw [hK _ (by omega), Option.bind_some, if_pos rfl, if_neg (by omega), decide_eq_false (by omega)]
      simp only [carlinglaw12_ShapeUnder.j0]
      rw [if_neg (by simp), root_eq h, Option.bind_some, hK2 _ (by omega), Option.bind_some, hur, show ((rangeL 0 p.toNat).length : Int) = p from by rw [rangeL_len]; omega]
      exact hK3 _ (by omega)
    · have hlq : ¬ lev p x y q = 0 := by
        intro h0
        have htb := top_b (x := x) (y := y)
        have := (lev_iff h (t := 0) (by omega) (by omega)).1 h0
        have e0 : SA.bt p x y 0 = 0 := rfl
        have e1 : SA.bt p x y (0 + 1) = p := rfl
        omega
      obtain ⟨K2, hK2⟩ := Ev.out (path_ev h (i := q))
      rw [if_neg hlq] at hK2
      have hj : carlinglaw12_ShapeUnder.j0 (K + K2 + Ka + 1) p q true (cl p x y) = some true := by
        simp only [carlinglaw12_ShapeUnder.j0]
        rw [if_pos trivial, hK2 _ (by omega), Option.bind_some, if_pos (by rfl), ha _ (by omega)]; rfl
      refine ⟨K + K2 + Ka + 1, ?_⟩
      unfold carlinglaw12_ShapeUnder.f
      rw [hK _ (by omega), Option.bind_some, if_pos rfl]
      by_cases hq0 : q < 0
      · rw [if_pos hq0]; exact hj
      · rw [if_neg hq0, decide_eq_true (by omega)]; exact hj
end Go.Proofs.Ythpmlhiilmaigaa.Pure
