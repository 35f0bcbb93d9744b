/- The pages under an item, and the ancestors of a page, in closed form. -/
import Derived.Test.YthpmlhiilmaigaaSB
namespace Go.Proofs.Ythpmlhiilmaigaa.SC
open Go.RowKit Go.Proofs.YthpmlhiilmaigaaW.PrintWords Go.Proofs.YthpmlhiilmaigaaW.PrintLast Go.Proofs.YthpmlhiilmaigaaW.PrintMore Go.Proofs.Ythpmlhiilmaigaa.PS Go.Proofs.Ythpmlhiilmaigaa.SA Go.Proofs.Ythpmlhiilmaigaa.SB

/-- How many pages lie under a whole node of level t. -/
def pw (t : Int) : Int := if t = 0 then 1 else if t = 1 then 6 else if t = 2 then 36 else 216
def uf (p x y i : Int) : Int := pw (lev p x y i) * (i - SA.bt p x y (lev p x y i))
def ut (p x y i : Int) : Int := mn (pw (lev p x y i) * (i - SA.bt p x y (lev p x y i) + 1)) p
def under (p x y i : Int) : List Int := if lev p x y i < 0 then [] else rangeL (uf p x y i) (ut p x y i - uf p x y i).toNat
/-- The ancestor of the page q on level t. -/
def anc (p x y q t : Int) : Int := SA.bt p x y t + q / pw t
section
variable {p x y : Int} (h : Sh p x y)
include h
theorem cnt_pw {t : Int} (h0 : 0 ≤ t) (h1 : t < top x y) : pw t * (SA.bt p x y (t + 1) - SA.bt p x y t - 1) < p ∧ p ≤ pw t * (SA.bt p x y (t + 1) - SA.bt p x y t) := by
  have hb := h.xb
  have q1 := h.p1
  have q2 := h.p2
  have q3 := h.x1
  have q4 := h.x2
  have q5 := h.y1
  have q6 := h.y2
  have e0 : SA.bt p x y 0 = 0 := rfl
  have e1 : SA.bt p x y 1 = p := rfl
  have e2 : SA.bt p x y 2 = p + x := rfl
  have e3 : SA.bt p x y 3 = p + x + y := rfl
  have e01 : SA.bt p x y (0 + 1) = p := rfl
  have e12 : SA.bt p x y (1 + 1) = p + x := rfl
  have e23 : SA.bt p x y (2 + 1) = p + x + y := rfl
  have e34 : SA.bt p x y (3 + 1) = p + x + y + 1 := rfl
  have ht : t = 0 ∨ t = 1 ∨ t = 2 ∨ t = 3 := by have := top_b (x := x) (y := y); omega
  have w0 : pw 0 = 1 := rfl
  have w1 : pw 1 = 6 := rfl
  have w2 : pw 2 = 36 := rfl
  have w3 : pw 3 = 216 := rfl
  rcases ht with rfl | rfl | rfl | rfl
  · rw [e0, e01, w0]; omega
  · rw [e1, e12, w1]; omega
  · rw [e2, e23, w2]; omega
  · rw [e3, e34, w3]; omega
omit h in
theorem pw_step {t : Int} (h0 : 1 ≤ t) (h1 : t ≤ 3) : (pw (t - 1) = 1 ∧ pw t = 6) ∨ (pw (t - 1) = 6 ∧ pw t = 36) ∨ (pw (t - 1) = 36 ∧ pw t = 216) := by
  have : t = 1 ∨ t = 2 ∨ t = 3 := by omega
  rcases this with rfl | rfl | rfl
  · exact .inl ⟨rfl, rfl⟩
  · exact .inr (.inl ⟨rfl, rfl⟩)
  · exact .inr (.inr ⟨rfl, rfl⟩)
omit h in
theorem pw_or {t : Int} (_h0 : 0 ≤ t) (_h1 : t ≤ 3) : pw t = 1 ∨ pw t = 6 ∨ pw t = 36 ∨ pw t = 216 := by
  unfold pw; split <;> (try split) <;> (try split) <;> simp
/-- Item k of level s, at its own place. -/
theorem under_at {k s : Int} (hs : lev p x y k = s) (h0 : 0 ≤ s) : under p x y k = rangeL (pw s * (k - SA.bt p x y s)) (mn (pw s * (k - SA.bt p x y s + 1)) p - pw s * (k - SA.bt p x y s)).toNat ∧ pw s * (k - SA.bt p x y s) < p ∧ 0 ≤ k - SA.bt p x y s ∧ k - SA.bt p x y s ≤ 300 := by
  have hl := lev_b (p := p) (x := x) (y := y) k
  have hi := (lev_iff h (i := k) (t := s) (by omega) (by omega)).1 hs
  have hc := cnt_pw h (t := s) h0 (by omega)
  have hb := bt_b h (s + 1)
  have hb2 := bt_b h s
  have ht := top_b (x := x) (y := y)
  refine ⟨?_, ?_, by omega, by omega⟩
  · unfold under uf ut
    rw [hs, if_neg (by omega)]
  · rcases pw_or (t := s) (by omega) (by omega) with e | e | e | e <;> rw [e] at hc ⊢ <;> omega
theorem under_loop {i : Int} (h1 : 1 ≤ lev p x y i) (ih : ∀ k, lev p x y k = lev p x y i - 1 → Ev (fun n => shape_Shape_Under.f n (cl p x y) k) (under p x y k)) :
    ∀ (d c : Nat), (kmany p x y i).toNat = c + d →
    Ev (fun n => shape_Shape_Under.l0 n (rangeL (uf p x y i) (mn (pw (lev p x y i - 1) * (6 * (i - SA.bt p x y (lev p x y i)) + c)) p - uf p x y i).toNat) (kids p x y i) ((kids p x y i).length : Int) c (cl p x y)) (under p x y i) := by
  have hb := kids_b h h1
  have hl := lev_b (p := p) (x := x) (y := y) i
  have ht := top_b (x := x) (y := y)
  have hkd : kids p x y i = rangeL (kfrom p x y i) (kmany p x y i).toNat := if_neg (by omega)
  have hkl : ((kids p x y i).length : Int) = kmany p x y i := by rw [hkd, rangeL_len]; omega
  have hu := under_at h (k := i) rfl (by omega)
  have huf : uf p x y i = pw (lev p x y i) * (i - SA.bt p x y (lev p x y i)) := rfl
  have hkf : kfrom p x y i = SA.bt p x y (lev p x y i - 1) + 6 * (i - SA.bt p x y (lev p x y i)) := rfl
  have hi := (lev_iff h (i := i) (t := lev p x y i) (by omega) (by omega)).1 rfl
  rw [hkl, hkd, hu.1, huf]
  obtain ⟨t, ht2⟩ : ∃ t, lev p x y i = t := ⟨_, rfl⟩
  rw [ht2] at h1 ih hb hl hu hkf hi ⊢
  have hc1 := cnt_pw h (t := t) (by omega) (by omega)
  have hc0 := cnt_pw h (t := t - 1) (by omega) (by omega)
  have hm1 := bt_mono h (s := t - 1) (t := t) (by omega) (by omega) (by omega)
  rw [show t - 1 + 1 = t from by omega] at hc0
  have hpw := pw_step (t := t) (by omega) (by omega)
  have hua := fun (c : Nat) (hc : (c : Int) < kmany p x y i) => under_at h (k := kfrom p x y i + c) (s := t - 1) ((lev_iff h (by omega) (by omega)).2 ⟨by omega, by rw [show t - 1 + 1 = t from by omega]; omega⟩) (by omega)
  have hkl2 := fun (c : Nat) (hc : (c : Int) < kmany p x y i) => (lev_iff h (i := kfrom p x y i + c) (t := t - 1) (by omega) (by omega)).2 ⟨by omega, by rw [show t - 1 + 1 = t from by omega]; omega⟩
  have hp2 := h.p2
  obtain ⟨m, hm⟩ : ∃ m, pw (t - 1) = m := ⟨_, rfl⟩
  obtain ⟨M, hM⟩ : ∃ M, pw t = M := ⟨_, rfl⟩
  rw [hm, hM] at hpw
  rw [hm] at hc0
  rw [hM] at hc1 hu
  rw [hm, hM]
  simp only [hm] at hua
  obtain ⟨j, hj⟩ : ∃ j, i - SA.bt p x y t = j := ⟨_, rfl⟩
  rw [hj] at hu hkf ⊢
  obtain ⟨u1, u2, u3, u4⟩ := hu
  intro d
  induction d with
  | zero =>
    intro c hc
    have e : mn (m * (6 * j + c)) p = mn (M * (j + 1)) p := by
      unfold mn
      rcases hpw with ⟨rfl, rfl⟩ | ⟨rfl, rfl⟩ | ⟨rfl, rfl⟩ <;> split <;> split <;> omega
    rw [e]
    refine Ev.step (f := fun _ => some _) (fun n => ?_) (Ev.now _)
    simp only [shape_Shape_Under.l0]
    rw [if_neg (by omega)]
  | succ d ih2 =>
    intro c hc
    obtain ⟨k, hk⟩ : ∃ k, k = kfrom p x y i + c := ⟨_, rfl⟩
    have hul := hua c (by omega)
    have hkv := hkl2 c (by omega)
    rw [← hk] at hul hkv
    have hko : k - SA.bt p x y (t - 1) = 6 * j + c := by omega
    rw [hko] at hul
    obtain ⟨v1, v2, v3, v4⟩ := hul
    obtain ⟨K, hK⟩ := Ev.out (ih k hkv)
    obtain ⟨K2, hK2⟩ := Ev.out (ih2 (c + 1) (by omega))
    refine Ev.mk (K + K2 + 1) (fun n hn => ?_)
    obtain ⟨n, rfl⟩ : ∃ m, n = m + 1 := ⟨n - 1, by omega⟩
    simp only [shape_Shape_Under.l0]
    rw [if_pos (by omega), if_pos (by omega), if_pos (by rw [rangeL_len]; omega), rangeL_rd (by omega) (by omega), ← hk, hK n (by omega), Option.bind_some]
    have hub : 0 ≤ M * j := by rcases hpw with ⟨rfl, rfl⟩ | ⟨rfl, rfl⟩ | ⟨rfl, rfl⟩ <;> omega
    have hvb : 0 ≤ m * (6 * j + c) := by rcases hpw with ⟨rfl, rfl⟩ | ⟨rfl, rfl⟩ | ⟨rfl, rfl⟩ <;> omega
    have hlen1 : (mn (m * (6 * j + ↑c)) p - M * j).toNat ≤ 300 := by unfold mn; split <;> omega
    have hlen2 : (under p x y k).length ≤ 300 := by
      rw [v1, rangeL_len]; unfold mn; split <;> omega
    rw [if_pos (by rw [rangeL_len]; omega), w64 (by omega) (by omega), show (c : Int) + 1 = ((c + 1 : Nat) : Int) from by omega, v1]
    have hcat : rangeL (M * j) (mn (m * (6 * j + ↑c)) p - M * j).toNat ++ rangeL (m * (6 * j + ↑c)) (mn (m * (6 * j + ↑c + 1)) p - m * (6 * j + ↑c)).toNat = rangeL (M * j) (mn (m * (6 * j + ((c + 1 : Nat) : Int))) p - M * j).toNat := by
      have e1 : mn (m * (6 * j + ↑c)) p = m * (6 * j + ↑c) := by unfold mn; rw [if_neg (by omega)]
      rw [e1]
      have e2 : m * (6 * j + ↑c) = M * j + ((m * (6 * j + ↑c) - M * j).toNat : Int) := by
        rcases hpw with ⟨rfl, rfl⟩ | ⟨rfl, rfl⟩ | ⟨rfl, rfl⟩ <;> omega
      have e3 : (mn (m * (6 * j + ((c + 1 : Nat) : Int))) p - M * j).toNat = (m * (6 * j + ↑c) - M * j).toNat + (mn (m * (6 * j + ↑c + 1)) p - m * (6 * j + ↑c)).toNat := by
        rw [show 6 * j + ((c + 1 : Nat) : Int) = 6 * j + ↑c + 1 from by omega]
        unfold mn
        rcases hpw with ⟨rfl, rfl⟩ | ⟨rfl, rfl⟩ | ⟨rfl, rfl⟩ <;> split <;> omega
      rw [e3]
      have := rangeL_app (m * (6 * j + ↑c) - M * j).toNat (mn (m * (6 * j + ↑c + 1)) p - m * (6 * j + ↑c)).toNat (M * j)
      rw [← e2] at this
      exact this
    rw [hcat]
    exact hK2 n (by omega)
theorem under_ev : ∀ (n : Nat) (i : Int), lev p x y i ≤ n → Ev (fun k => shape_Shape_Under.f k (cl p x y) i) (under p x y i) := by
  intro n
  induction n with
  | zero =>
    intro i hi
    obtain ⟨K, hK⟩ := Ev.out (level_ev h i)
    by_cases h0 : lev p x y i = 0
    · have hu := under_at h (k := i) h0 (by omega)
      have e0 : SA.bt p x y 0 = 0 := rfl
      have w0 : pw 0 = 1 := rfl
      rw [e0, w0] at hu
      have : under p x y i = [i] := by
        rw [hu.1, show (mn (1 * (i - 0 + 1)) p - 1 * (i - 0)).toNat = 1 from by unfold mn; split <;> omega, show (1 : Int) * (i - 0) = i from by omega]
        rfl
      rw [this]
      refine Ev.mk (K + 1) (fun k hk => ?_)
      obtain ⟨k, rfl⟩ : ∃ m, k = m + 1 := ⟨k - 1, by omega⟩
      simp only [shape_Shape_Under.f]
      rw [hK k (by omega), Option.bind_some, if_pos h0]
    · have hneg : lev p x y i < 0 := by omega
      obtain ⟨K2, hK2⟩ := Ev.out (kids_ev h i)
      have hkd : kids p x y i = [] := if_pos (by omega)
      rw [show under p x y i = [] from if_pos hneg]
      refine Ev.mk (K + K2 + 2) (fun k hk => ?_)
      obtain ⟨k, rfl⟩ : ∃ m, k = m + 2 := ⟨k - 2, by omega⟩
      simp only [shape_Shape_Under.f]
      rw [hK (k + 1) (by omega), Option.bind_some, if_neg h0, hK2 (k + 1) (by omega), Option.bind_some, hkd]
      simp only [shape_Shape_Under.l0]
      rw [if_neg (by simp)]
  | succ n ih =>
    intro i hi
    by_cases hle : lev p x y i ≤ n
    · exact ih i hle
    · obtain ⟨K, hK⟩ := Ev.out (level_ev h i)
      obtain ⟨K2, hK2⟩ := Ev.out (kids_ev h i)
      have h1 : 1 ≤ lev p x y i := by omega
      have hb := kids_b h h1
      obtain ⟨K3, hK3⟩ := Ev.out (under_loop h h1 (fun k hk => ih k (by omega)) (kmany p x y i).toNat 0 (by omega))
      have e : (mn (pw (lev p x y i - 1) * (6 * (i - SA.bt p x y (lev p x y i)) + ((0 : Nat) : Int))) p - uf p x y i).toNat = 0 := by
        have hl := lev_b (p := p) (x := x) (y := y) i
        have ht := top_b (x := x) (y := y)
        unfold uf
        rcases pw_step (t := lev p x y i) h1 (by omega) with ⟨a, b⟩ | ⟨a, b⟩ | ⟨a, b⟩ <;> rw [a, b] <;> unfold mn <;> split <;> omega
      rw [e] at hK3
      refine Ev.mk (K + K2 + K3 + 1) (fun k hk => ?_)
      obtain ⟨k, rfl⟩ : ∃ m, k = m + 1 := ⟨k - 1, by omega⟩
      simp only [shape_Shape_Under.f]
      rw [hK k (by omega), Option.bind_some, if_neg (by omega), hK2 k (by omega), Option.bind_some]
      exact hK3 k (by omega)
/-! ### ancestors -/
theorem anc_lev {q t : Int} (hq0 : 0 ≤ q) (hq1 : q < p) (h0 : 0 ≤ t) (h1 : t < top x y) : lev p x y (anc p x y q t) = t := by
  have hc := cnt_pw h h0 h1
  have ht := top_b (x := x) (y := y)
  apply (lev_iff h h0 h1).2
  unfold anc
  rcases pw_or (t := t) (by omega) (by omega) with e | e | e | e <;> rw [e] at hc ⊢ <;> omega
theorem anc_par {q t : Int} (hq0 : 0 ≤ q) (hq1 : q < p) (h0 : 0 ≤ t) (h1 : t + 1 < top x y) : (par p x y (anc p x y q t)).1 = anc p x y q (t + 1) ∧ (par p x y (anc p x y q t)).2.2 = true := by
  have ht := top_b (x := x) (y := y)
  have hl := anc_lev h hq0 hq1 h0 (by omega)
  have hl2 := (lev_iff h h0 (by omega)).1 hl
  have hn := nn_eq h
  have hm := bt_mono h (s := t + 1) (t := top x y) (by omega) (by omega) (Int.le_refl _)
  have hnn : nn p x y = SA.bt p x y (top x y) := rfl
  have hm2 : SA.bt p x y (t + 1) ≤ SA.bt p x y (top x y - 1) := by
    rcases Int.lt_or_le (t + 1) (top x y - 1) with hlt | hge
    · exact Int.le_of_lt (bt_mono h (by omega) hlt (by omega))
    · rw [show t + 1 = top x y - 1 from by omega]
      exact Int.le_refl _
  unfold par
  rw [hl, if_neg (by omega)]
  refine ⟨?_, rfl⟩
  simp only
  unfold anc
  rcases pw_step (t := t + 1) (by omega) (by omega) with ⟨a, b⟩ | ⟨a, b⟩ | ⟨a, b⟩ <;> rw [show t + 1 - 1 = t from by omega] at a <;> rw [a, b] <;> omega
theorem anc_top {q : Int} (hq0 : 0 ≤ q) (hq1 : q < p) : anc p x y q (top x y - 1) = nn p x y - 1 ∧ (par p x y (anc p x y q (top x y - 1))).2.2 = false := by
  have ht := top_b (x := x) (y := y)
  have hl := anc_lev h hq0 hq1 (t := top x y - 1) (by omega) (by omega)
  have hl2 := (lev_iff h (t := top x y - 1) (by omega) (by omega)).1 hl
  have hn := nn_eq h
  have hnn : nn p x y = SA.bt p x y (top x y) := rfl
  rw [show top x y - 1 + 1 = top x y from by omega] at hl2
  have e : anc p x y q (top x y - 1) = nn p x y - 1 := by omega
  refine ⟨e, ?_⟩
  rw [e]
  unfold par
  rw [if_pos (.inr rfl)]
/-- The ancestors from a level on. -/
theorem chain_anc {q : Int} (hq0 : 0 ≤ q) (hq1 : q < p) : ∀ (d : Nat) (t : Int), 0 ≤ t → t < top x y → top x y - 1 - t ≤ d → chain p x y d (anc p x y q t) = (rangeL t (top x y - t).toNat).map (anc p x y q) := by
  intro d
  induction d with
  | zero =>
    intro t h0 h1 hd
    have e : t = top x y - 1 := by omega
    rw [show (top x y - t).toNat = 1 from by omega]
    rfl
  | succ d ih =>
    intro t h0 h1 hd
    rw [chain]
    by_cases hlt : t + 1 < top x y
    · obtain ⟨e1, e2⟩ := anc_par h hq0 hq1 h0 hlt
      rw [if_pos e2, e1, ih (t + 1) (by omega) hlt (by omega), show (top x y - t).toNat = (top x y - (t + 1)).toNat + 1 from by omega]
      rfl
    · have e : t = top x y - 1 := by omega
      have := (anc_top h hq0 hq1).2
      rw [← e] at this
      rw [this, show (top x y - t).toNat = 1 from by omega]
      rfl
omit h in
theorem anc_zero {q : Int} : anc p x y q 0 = q := by
  have e0 : SA.bt p x y 0 = 0 := rfl
  have w0 : pw 0 = 1 := rfl
  unfold anc
  rw [e0, w0]; omega
omit h in
/-- A page lies under an item just if that is its ancestor. -/
theorem under_mem {q k s : Int} (_hq0 : 0 ≤ q) (hq1 : q < p) (hs : lev p x y k = s) (h0 : 0 ≤ s) : (pw s * (k - SA.bt p x y s) ≤ q ∧ q < mn (pw s * (k - SA.bt p x y s + 1)) p) ↔ k = anc p x y q s := by
  have hl := lev_b (p := p) (x := x) (y := y) k
  have ht := top_b (x := x) (y := y)
  unfold anc mn
  rcases pw_or (t := s) (by omega) (by omega) with e | e | e | e <;> rw [e] <;> split <;> omega
end
end Go.Proofs.Ythpmlhiilmaigaa.SC
