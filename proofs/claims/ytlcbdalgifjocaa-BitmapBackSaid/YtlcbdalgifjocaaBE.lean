/- Places taken, given back and counted: the program's functions and the document's, as plain functions on lists. -/
import Derived.Test.YtlcbdalgifjocaaBD
namespace Go.Proofs.Ytlcbdalgifjocaa.BE
open Go.RowKit Go.Proofs.YtlcbdalgifjocaaW.PrintWords Go.Proofs.YtlcbdalgifjocaaW.PrintLast Go.Proofs.YtlcbdalgifjocaaW.PrintMore Go.Proofs.Ytlcbdalgifjocaa.PB Go.Proofs.Ytlcbdalgifjocaa.BC Go.Proofs.Ytlcbdalgifjocaa.BD

theorem Ev.out {α : Type} {g : Nat → Option α} {r : α} (h : Ev g r) : ∃ K, ∀ k, K ≤ k → g k = some r := h
theorem Ev.mk {α : Type} {g : Nat → Option α} {r : α} (K : Nat) (h : ∀ k, K ≤ k → g k = some r) : Ev g r := ⟨K, h⟩
def updAll (x : List Int) (l : List Int) (b : Bool) : List Int := l.foldl (fun x n => upd x n b) x
theorem updAll_length {b : Bool} : ∀ {l x : List Int}, (updAll x l b).length = x.length := by
  intro l
  induction l with
  | nil => intro x; rfl
  | cons n l ih => intro x; exact ih.trans (upd_length _ _ _)
theorem ok_upd {x : List Int} {n m : Int} {b : Bool} : Ok (upd x n b) m ↔ Ok x m := by unfold Ok; rw [upd_length]
theorem updAll_By {b : Bool} : ∀ {l x : List Int}, By x → (∀ n ∈ l, Ok x n) → By (updAll x l b) := by
  intro l
  induction l with
  | nil => intro x hx _; exact hx
  | cons n l ih => intro x hx h; exact ih (upd_By hx (h n List.mem_cons_self) b) (fun m hm => ok_upd.2 (h m (List.mem_cons_of_mem _ hm)))
theorem gB_updAll {b : Bool} (m : Int) : ∀ {l x : List Int}, By x → (∀ n ∈ l, Ok x n) → gB (updAll x l b) m = if m ∈ l then b else gB x m := by
  intro l
  induction l with
  | nil => intro x hx _; simp [updAll]
  | cons n l ih =>
    intro x hx h
    have := ih (upd_By hx (h n List.mem_cons_self) b) (fun q hq => ok_upd.2 (h q (List.mem_cons_of_mem _ hq)))
    show gB (updAll (upd x n b) l b) m = _
    rw [this, gB_upd hx (h n List.mem_cons_self)]
    by_cases h1 : m ∈ l
    · simp [h1]
    · by_cases h2 : m = n <;> simp [h1, h2]
theorem cnt_updAll : ∀ {l x : List Int}, By x → (∀ n ∈ l, Ok x n ∧ gB x n = false) → l.Pairwise (· < ·) → cnt (updAll x l true) = cnt x + l.length := by
  intro l
  induction l with
  | nil => intro x _ _ _; rfl
  | cons n l ih =>
    intro x hx h hp
    have hn := h n List.mem_cons_self
    have := ih (upd_By hx hn.1 true) (fun m hm => by
      have hm2 := h m (List.mem_cons_of_mem _ hm)
      refine ⟨ok_upd.2 hm2.1, ?_⟩
      have := List.rel_of_pairwise_cons hp hm
      rw [gB_upd hx hn.1, if_neg (by omega)]; exact hm2.2) hp.of_cons
    show cnt (updAll (upd x n true) l true) = _
    rw [this, cnt_upd hx hn.1 hn.2, List.length_cons]; omega

theorem rd_drop {l : List Int} {i : Int} {n : Int} {r : List Int} (h0 : 0 ≤ i) (h : l.drop i.toNat = n :: r) : rd l i = n ∧ i < l.length ∧ l.drop (i + 1).toNat = r := by
  have hl : i.toNat < l.length := by
    rcases Nat.lt_or_ge i.toNat l.length with h1 | h1
    · exact h1
    · rw [List.drop_eq_nil_of_le h1] at h; cases h
  rw [List.drop_eq_getElem_cons hl] at h
  injection h with h1 h2
  refine ⟨?_, by omega, ?_⟩
  · unfold rd; rw [List.getD_eq_getElem?_getD, List.getElem?_eq_getElem hl]; exact h1
  · rw [show (i + 1).toNat = i.toNat + 1 from by omega]; exact h2
theorem drop_nil {l : List Int} {i : Int} (h0 : 0 ≤ i) (h : l.drop i.toNat = []) : ¬ i < l.length := by
  intro h1
  have := congrArg List.length h
  simp at this; omega

/-! ### Take -/
def takeR (x : List Int) (many a b : Int) : List Int × List Int × Int :=
  if ((all x a b).length : Int) < many then ([], [], 8) else ((all x a b).take many.toNat, updAll x ((all x a b).take many.toNat) true, 0)
theorem all_upd {x : List Int} (hx : By x) {a b n : Int} {r : List Int} (h : all x a b = n :: r) : Ok x n ∧ all (upd x n true) a b = r := by
  have hn := (all_mem.1 (h ▸ List.mem_cons_self : n ∈ all x a b)).2.2.1
  refine ⟨hn, ?_⟩
  have hw : wide (upd x n true) a b = wide x a b := by unfold wide top; rw [upd_length]
  unfold all
  rw [hw]
  exact frees_take_head hx hn h
theorem Take_loop {a b many : Int} (ha : I64 a) : ∀ (rest out l : List Int), By out → all out a b = rest → l.length + rest.length ≤ 40000 →
    Ev (fun k => bitmap_Take.l0 k many a b out l) (if ((l.length + rest.length : Nat) : Int) < many then ([], [], 8) else (l ++ rest.take (many - l.length).toNat, updAll out (rest.take (many - l.length).toNat) true, 0)) := by
  intro rest
  induction rest with
  | nil =>
    intro out l hx hr hb
    simp only [List.length_nil, Nat.add_zero, List.take_nil, List.append_nil]
    by_cases h : (l.length : Int) < many
    · rw [if_pos h]
      obtain ⟨K, hK⟩ := Ev.out (First_eq hx ha b)
      refine Ev.mk (K + 1) (fun k hk => ?_)
      obtain ⟨k, rfl⟩ : ∃ m, k = m + 1 := ⟨k - 1, by omega⟩
      simp only [bitmap_Take.l0]
      rw [if_pos h, hK k (by omega), hr]; rfl
    · rw [if_neg h]
      exact Ev.step (f := fun _ => some (l, out, 0)) (fun k => by simp only [bitmap_Take.l0]; rw [if_neg h]) (Ev.now _)
  | cons n rest ih =>
    intro out l hx hr hb
    simp only [List.length_cons] at hb ⊢
    by_cases h : (l.length : Int) < many
    · obtain ⟨hn, hnext⟩ := all_upd hx hr
      obtain ⟨K, hK⟩ := Ev.out (First_eq hx ha b)
      obtain ⟨K2, hK2⟩ := Ev.out (ih (upd out n true) (l ++ [n]) (upd_By hx hn true) hnext (by simp; omega))
      have hI := ok_i64 hx hn
      have e1 : ((l ++ [n]).length : Int) = l.length + 1 := by simp
      have e2 : (many - ↑l.length).toNat = (many - ↑(l ++ [n]).length).toNat + 1 := by rw [e1]; omega
      have e3 : (((l ++ [n]).length + rest.length : Nat) : Int) = ((l.length + (rest.length + 1) : Nat) : Int) := by simp; omega
      refine Ev.mk (K + K2 + 1) (fun k hk => ?_)
      obtain ⟨k, rfl⟩ : ∃ m, k = m + 1 := ⟨k - 1, by omega⟩
      simp only [bitmap_Take.l0]
      rw [if_pos h, hK k (by omega), hr]
      simp only [headOr, Option.bind_some, if_true]
      rw [if_pos (by omega), wd8 hn.1 hI, if_pos (by have := hn.1; omega), if_pos hn.2, tm8 hn.1, if_pos (by omega), or_upd hx hn, hK2 k (by omega), e3, e2]
      simp only [List.take_succ_cons, List.append_assoc, List.singleton_append]
      rfl
    · rw [if_neg (by omega), show (many - ↑l.length).toNat = 0 from by omega]
      refine Ev.step (f := fun _ => some (l, out, 0)) (fun k => by simp only [bitmap_Take.l0]; rw [if_neg h]) ?_
      simpa [updAll] using Ev.now (l, out, (0 : Int))
theorem Take_eq {x : List Int} (hx : By x) {a : Int} (ha : I64 a) (many b : Int) : Ev (fun k => bitmap_Take.f k x many a b) (takeR x many a b) := by
  have := Take_loop (many := many) ha (all x a b) x [] hx rfl (by simpa using all_len hx)
  simp only [List.length_nil, Nat.zero_add, List.nil_append, Int.natCast_zero, Int.sub_zero] at this
  refine Ev.congr (fun k => ?_) this
  unfold bitmap_Take.f
  rw [clone_eq hx, Option.bind_some]
theorem rTake_loop : ∀ (rest x : List Int) (l : List Int) (i : Int), By x → (∀ n ∈ rest, Ok x n) → 0 ≤ i → l.length ≤ 40000 → l.drop i.toNat = rest →
    Ev (fun k => carlingref20_Take.l0 k x l i) (l, updAll x rest true, 0) := by
  intro rest
  induction rest with
  | nil =>
    intro x l i hx h h0 hl hd
    refine Ev.step (f := fun _ => some (l, x, 0)) (fun k => ?_) (Ev.now _)
    simp only [carlingref20_Take.l0]
    rw [if_neg (drop_nil h0 hd), if_pos (by simp; have := hx.1; omega)]; rfl
  | cons n rest ih =>
    intro x l i hx h h0 hl hd
    obtain ⟨e1, e2, e3⟩ := rd_drop h0 hd
    have hn := h n List.mem_cons_self
    obtain ⟨K, hK⟩ := Ev.out (ih (upd x n true) l (i + 1) (upd_By hx hn true) (fun m hm => ok_upd.2 (h m (List.mem_cons_of_mem _ hm))) (by omega) hl e3)
    refine Ev.mk (K + 2) (fun k hk => ?_)
    obtain ⟨k, rfl⟩ : ∃ m, k = m + 2 := ⟨k - 2, by omega⟩
    simp only [carlingref20_Take.l0]
    rw [if_pos e2, if_pos h0, e1, rset_eq hx hn, Option.bind_some, w64 (by omega) (by omega)]
    exact hK (k + 1) (by omega)
theorem rTake_eq {x : List Int} (hx : By x) {a : Int} (ha : I64 a) (many b : Int) : Ev (fun k => carlingref20_Take.f k x many a b) (takeR x many a b) := by
  obtain ⟨K, hK⟩ := Ev.out (All_eq hx ha b)
  have hmx : 0 ≤ mx many 0 ∧ many ≤ mx many 0 ∧ (mx many 0).toNat = many.toNat ∧ (mx many 0 ≤ many ∨ mx many 0 = 0) := by unfold mx; split <;> omega
  unfold takeR
  by_cases h : ((all x a b).length : Int) < many
  · rw [if_pos h]
    refine Ev.mk (K) (fun k hk => ?_)
    unfold carlingref20_Take.f
    rw [hK k hk, Option.bind_some, if_pos h]
  · rw [if_neg h]
    obtain ⟨K2, hK2⟩ := Ev.out (rTake_loop ((all x a b).take many.toNat) x ((all x a b).take many.toNat) 0 hx (fun n hn => (all_mem.1 (List.mem_of_mem_take hn)).2.2.1) (by omega) (by have := all_len hx (a := a) (b := b); simp; omega) rfl)
    refine Ev.mk (K + K2) (fun k hk => ?_)
    unfold carlingref20_Take.f
    rw [hK k (by omega), Option.bind_some, if_neg h, if_pos hmx.1, if_pos (by omega), hmx.2.2.1]
    exact hK2 k (by omega)

/-! ### Give -/
def giveR : List Int → List Int → List Int × Int
  | x, [] => (x, 0)
  | x, n :: r => if gB x n then giveR (upd x n false) r else ([], 1)
theorem Give_loop : ∀ (rest x : List Int) (l : List Int) (i : Int), By x → (∀ n ∈ l, I64 n) → 0 ≤ i → l.length ≤ 40000 → l.drop i.toNat = rest →
    Ev (fun k => bitmap_Give.l0 k x l l.length i) (giveR x rest) := by
  intro rest
  induction rest with
  | nil =>
    intro x l i hx h h0 hl hd
    refine Ev.step (f := fun _ => some (x, 0)) (fun k => ?_) (Ev.now _)
    simp only [bitmap_Give.l0]
    rw [if_neg (drop_nil h0 hd)]
  | cons n rest ih =>
    intro x l i hx h h0 hl hd
    obtain ⟨e1, e2, e3⟩ := rd_drop h0 hd
    have hI : I64 n := h n (List.mem_of_mem_drop (hd ▸ List.mem_cons_self : n ∈ l.drop i.toNat))
    unfold giveR
    cases hg : gB x n
    · refine Ev.step (f := fun _ => some ([], 1)) (fun k => ?_) (Ev.now _)
      simp only [bitmap_Give.l0]
      rw [if_pos e2, if_pos h0, if_pos e2, e1, get_eq hx hI, hg]; rfl
    · have hn := gB_ok hg
      refine Ev.step (f := fun k => bitmap_Give.l0 k (upd x n false) l l.length (i + 1)) (fun k => ?_) (ih (upd x n false) l (i + 1) (upd_By hx hn false) h (by omega) hl e3)
      simp only [bitmap_Give.l0]
      rw [if_pos e2, if_pos h0, if_pos e2, e1, get_eq hx hI, hg, Option.bind_some, if_pos rfl, wd8 hn.1 hI, if_pos (by have := hn.1; omega), if_pos hn.2, tm8 hn.1, if_pos (by omega), andNot_upd hx hn, w64 (by omega) (by omega)]
theorem Give_eq {x : List Int} (hx : By x) {l : List Int} (hl : l.length ≤ 40000) (h : ∀ n ∈ l, I64 n) : Ev (fun k => bitmap_Give.f k x l) (giveR x l) := by
  refine Ev.congr (fun k => ?_) (Give_loop l x l 0 hx h (by omega) hl rfl)
  unfold bitmap_Give.f
  rw [clone_eq hx, Option.bind_some]
theorem rGive_loop : ∀ (rest x : List Int) (l : List Int) (i : Int), By x → (∀ n ∈ l, I64 n) → 0 ≤ i → l.length ≤ 40000 → l.drop i.toNat = rest →
    Ev (fun k => carlingref20_Give.l0 k x l i) (giveR x rest) := by
  intro rest
  induction rest with
  | nil =>
    intro x l i hx h h0 hl hd
    refine Ev.step (f := fun _ => some (x, 0)) (fun k => ?_) (Ev.now _)
    simp only [carlingref20_Give.l0]
    rw [if_neg (drop_nil h0 hd), if_pos (by simp; have := hx.1; omega)]; rfl
  | cons n rest ih =>
    intro x l i hx h h0 hl hd
    obtain ⟨e1, e2, e3⟩ := rd_drop h0 hd
    have hI : I64 n := h n (List.mem_of_mem_drop (hd ▸ List.mem_cons_self : n ∈ l.drop i.toNat))
    unfold giveR
    cases hg : gB x n
    · refine Ev.step (f := fun _ => some ([], 1)) (fun k => ?_) (Ev.now _)
      simp only [carlingref20_Give.l0]
      rw [if_pos e2, if_pos h0, e1, rget_eq hx hI, hg]; rfl
    · have hn := gB_ok hg
      obtain ⟨K, hK⟩ := Ev.out (ih (upd x n false) l (i + 1) (upd_By hx hn false) h (by omega) hl e3)
      refine Ev.mk (K + 2) (fun k hk => ?_)
      obtain ⟨k, rfl⟩ : ∃ m, k = m + 2 := ⟨k - 2, by omega⟩
      simp only [carlingref20_Give.l0]
      rw [if_pos e2, if_pos h0, e1, rget_eq hx hI, hg, Option.bind_some, if_pos rfl, rset_eq hx hn, Option.bind_some, w64 (by omega) (by omega)]
      exact hK (k + 1) (by omega)
theorem giveR_length : ∀ {l x : List Int}, (giveR x l).1.length ≤ x.length := by
  intro l
  induction l with
  | nil => intro x; exact Nat.le_refl _
  | cons n l ih =>
    intro x
    unfold giveR
    split
    · have := ih (x := upd x n false); rw [upd_length] at this; exact this
    · simp
theorem giveR_all : ∀ {l x : List Int}, By x → l.Pairwise (· < ·) → (∀ n ∈ l, gB x n = true) → giveR x l = (updAll x l false, 0) := by
  intro l
  induction l with
  | nil => intro x _ _ _; rfl
  | cons n l ih =>
    intro x hx hp h
    have hg := h n List.mem_cons_self
    have hn := gB_ok hg
    unfold giveR
    rw [if_pos hg]
    exact ih (upd_By hx hn false) hp.of_cons (fun m hm => by
      have := List.rel_of_pairwise_cons hp hm
      rw [gB_upd hx hn, if_neg (by omega)]
      exact h m (List.mem_cons_of_mem _ hm))
theorem give_back {x : List Int} (hx : By x) {l : List Int} (hp : l.Pairwise (· < ·)) (h : ∀ n ∈ l, Ok x n ∧ gB x n = false) : giveR (updAll x l true) l = (x, 0) := by
  have ho : ∀ n ∈ l, Ok x n := fun n hn => (h n hn).1
  have hx2 := updAll_By (b := true) hx ho
  have ho2 : ∀ n ∈ l, Ok (updAll x l true) n := fun n hn => by unfold Ok; rw [updAll_length]; exact ho n hn
  rw [giveR_all hx2 hp (fun n hn => by rw [gB_updAll n hx ho, if_pos hn])]
  congr 1
  apply map_ext (updAll_By hx2 ho2) hx (by rw [updAll_length, updAll_length])
  intro m _
  rw [gB_updAll m hx2 ho2, gB_updAll m hx ho]
  by_cases hm : m ∈ l
  · rw [if_pos hm, (h m hm).2]
  · rw [if_neg hm, if_neg hm]

/-! ### Count -/
theorem rCount_loop {x : List Int} (hx : By x) : ∀ (d : Nat) (i c : Int), 0 ≤ i → 0 ≤ c → c + d ≤ 40000 → (8 * x.length : Int) - i = d → Ev (fun k => carlingref20_Count.l0 k x c i) (c + (d - (frees x i d).length)) := by
  have hl := hx.1
  intro d
  induction d with
  | zero =>
    intro i c h0 hc hb hd
    refine Ev.step (f := fun _ => some c) (fun k => ?_) (by simpa [frees] using Ev.now c)
    simp only [carlingref20_Count.l0]
    rw [w64 (by omega) (by omega), if_neg (by omega)]
  | succ d ih =>
    intro i c h0 hc hb hd
    have hI : I64 i := ⟨by omega, by omega⟩
    unfold frees
    cases hg : gB x i
    · refine Ev.step (f := fun k => carlingref20_Count.l0 k x c (i + 1)) (fun k => ?_) ?_
      · simp only [carlingref20_Count.l0]
        rw [w64 (n := 8 * _) (by omega) (by omega), if_pos (by omega), rget_eq hx hI, hg, Option.bind_some, if_neg (by simp), w64 (by omega) (by omega)]
      · have := ih (i + 1) c (by omega) hc (by omega) (by omega)
        simp only [Bool.false_eq_true, if_false, List.length_cons]
        rw [show c + (((d + 1 : Nat) : Int) - (((frees x (i + 1) d).length + 1 : Nat) : Int)) = c + ((d : Int) - (frees x (i + 1) d).length) from by omega]
        exact this
    · refine Ev.step (f := fun k => carlingref20_Count.l0 k x (c + 1) (i + 1)) (fun k => ?_) ?_
      · simp only [carlingref20_Count.l0]
        rw [w64 (n := 8 * _) (by omega) (by omega), if_pos (by omega), rget_eq hx hI, hg, Option.bind_some, if_pos rfl, w64 (n := c + 1) (by omega) (by omega), w64 (by omega) (by omega)]
      · have := ih (i + 1) (c + 1) (by omega) (by omega) (by omega) (by omega)
        simp only [if_true]
        rw [show c + (((d + 1 : Nat) : Int) - ((frees x (i + 1) d).length : Int)) = c + 1 + ((d : Int) - (frees x (i + 1) d).length) from by omega]
        exact this
theorem rCount_eq {x : List Int} (hx : By x) : Ev (fun k => carlingref20_Count.f k x) (cnt x : Int) := by
  have hl := hx.1
  have := rCount_loop hx (8 * x.length) 0 0 (by omega) (by omega) (by omega) (by omega)
  have h2 := frees_len_le (x := x) (d := 8 * x.length) (a := 0)
  have e : (0 : Int) + (((8 * x.length : Nat) : Int) - (frees x 0 (8 * x.length)).length) = (cnt x : Int) := by unfold cnt; omega
  rw [e] at this
  exact this
theorem frees_app {x : List Int} (d2 : Nat) : ∀ (d1 : Nat) (a : Int), frees x a (d1 + d2) = frees x a d1 ++ frees x (a + d1) d2 := by
  intro d1
  induction d1 with
  | zero => intro a; simp [frees]
  | succ d1 ih =>
    intro a
    rw [show d1 + 1 + d2 = (d1 + d2) + 1 from by omega]
    show (if gB x a then frees x (a + 1) (d1 + d2) else a :: frees x (a + 1) (d1 + d2)) = (if gB x a then frees x (a + 1) d1 else a :: frees x (a + 1) d1) ++ _
    rw [ih, show a + 1 + (d1 : Int) = a + ((d1 + 1 : Nat) : Int) from by omega]
    split <;> simp
theorem frees_one (x : List Int) (a : Int) (d : Nat) : (frees x a (d + 1)).length + bn (gB x a) = 1 + (frees x (a + 1) d).length := by
  rw [frees]
  cases gB x a <;> simp [bn] <;> omega
theorem gB_byte {x : List Int} {i : Int} (h0 : 0 ≤ i) (h1 : i < x.length) (j : Nat) (hj : j < 8) : gB x (8 * i + j) = bitAt (rd x i) j := by
  have e1 : (8 * i + (j : Int)) / 8 = i := by omega
  have e2 : ((8 * i + (j : Int)) % 8).toNat = j := by omega
  have e3 : 0 ≤ 8 * i + (j : Int) := by omega
  unfold gB
  rw [e1, e2, decide_eq_true e3, decide_eq_true h1]
  rfl
theorem ones_frees {x : List Int} (hx : By x) {i : Int} (h0 : 0 ≤ i) (h1 : i < x.length) : Lib.onesCount (rd x i).toNat + (frees x (8 * i) 8).length = 8 := by
  have hr := rd_rng hx h0 h1
  have ho := ones0 ⟨(rd x i).toNat, by omega⟩
  simp only [Int.toNat_of_nonneg hr.1] at ho
  have g := gB_byte (x := x) h0 h1
  have f0 : (frees x (8 * i) 8).length + bn (gB x (8 * i)) = 1 + (frees x (8 * i + 1) 7).length := frees_one x (8 * i) 7
  have f1 : (frees x (8 * i + 1) 7).length + bn (gB x (8 * i + 1)) = 1 + (frees x (8 * i + 1 + 1) 6).length := frees_one x (8 * i + 1) 6
  have f2 : (frees x (8 * i + 1 + 1) 6).length + bn (gB x (8 * i + 1 + 1)) = 1 + (frees x (8 * i + 1 + 1 + 1) 5).length := frees_one x (8 * i + 1 + 1) 5
  have f3 : (frees x (8 * i + 1 + 1 + 1) 5).length + bn (gB x (8 * i + 1 + 1 + 1)) = 1 + (frees x (8 * i + 1 + 1 + 1 + 1) 4).length := frees_one x (8 * i + 1 + 1 + 1) 4
  have f4 : (frees x (8 * i + 1 + 1 + 1 + 1) 4).length + bn (gB x (8 * i + 1 + 1 + 1 + 1)) = 1 + (frees x (8 * i + 1 + 1 + 1 + 1 + 1) 3).length := frees_one x (8 * i + 1 + 1 + 1 + 1) 3
  have f5 : (frees x (8 * i + 1 + 1 + 1 + 1 + 1) 3).length + bn (gB x (8 * i + 1 + 1 + 1 + 1 + 1)) = 1 + (frees x (8 * i + 1 + 1 + 1 + 1 + 1 + 1) 2).length := frees_one x (8 * i + 1 + 1 + 1 + 1 + 1) 2
  have f6 : (frees x (8 * i + 1 + 1 + 1 + 1 + 1 + 1) 2).length + bn (gB x (8 * i + 1 + 1 + 1 + 1 + 1 + 1)) = 1 + (frees x (8 * i + 1 + 1 + 1 + 1 + 1 + 1 + 1) 1).length := frees_one x (8 * i + 1 + 1 + 1 + 1 + 1 + 1) 1
  have f7 : (frees x (8 * i + 1 + 1 + 1 + 1 + 1 + 1 + 1) 1).length + bn (gB x (8 * i + 1 + 1 + 1 + 1 + 1 + 1 + 1)) = 1 + (frees x (8 * i + 1 + 1 + 1 + 1 + 1 + 1 + 1 + 1) 0).length := frees_one x (8 * i + 1 + 1 + 1 + 1 + 1 + 1 + 1) 0
  have g0 := g 0 (by omega)
  have g1 := g 1 (by omega)
  have g2 := g 2 (by omega)
  have g3 := g 3 (by omega)
  have g4 := g 4 (by omega)
  have g5 := g 5 (by omega)
  have g6 := g 6 (by omega)
  have g7 := g 7 (by omega)
  rw [show (8 * i + ((0 : Nat) : Int)) = 8 * i from by omega] at g0
  rw [show (8 * i + ((1 : Nat) : Int)) = 8 * i + 1 from by omega] at g1
  rw [show (8 * i + ((2 : Nat) : Int)) = 8 * i + 1 + 1 from by omega] at g2
  rw [show (8 * i + ((3 : Nat) : Int)) = 8 * i + 1 + 1 + 1 from by omega] at g3
  rw [show (8 * i + ((4 : Nat) : Int)) = 8 * i + 1 + 1 + 1 + 1 from by omega] at g4
  rw [show (8 * i + ((5 : Nat) : Int)) = 8 * i + 1 + 1 + 1 + 1 + 1 from by omega] at g5
  rw [show (8 * i + ((6 : Nat) : Int)) = 8 * i + 1 + 1 + 1 + 1 + 1 + 1 from by omega] at g6
  rw [show (8 * i + ((7 : Nat) : Int)) = 8 * i + 1 + 1 + 1 + 1 + 1 + 1 + 1 from by omega] at g7
  rw [g0] at f0
  rw [g1] at f1
  rw [g2] at f2
  rw [g3] at f3
  rw [g4] at f4
  rw [g5] at f5
  rw [g6] at f6
  rw [g7] at f7
  have f8 : (frees x (8 * i + 1 + 1 + 1 + 1 + 1 + 1 + 1 + 1) 0).length = 0 := rfl
  omega
theorem Count_loop {x : List Int} (hx : By x) : ∀ (d : Nat) (i c : Int), 0 ≤ i → 0 ≤ c → c + 8 * d ≤ 40000 → (x.length : Int) - i = d → Ev (fun k => bitmap_Count.l0 k c x x.length i) (c + (8 * d - (frees x (8 * i) (8 * d)).length)) := by
  have hl := hx.1
  intro d
  induction d with
  | zero =>
    intro i c h0 hc hb hd
    refine Ev.step (f := fun _ => some c) (fun k => ?_) (by simpa [frees] using Ev.now c)
    simp only [bitmap_Count.l0]
    rw [if_neg (by omega)]
  | succ d ih =>
    intro i c h0 hc hb hd
    have h1 : i < x.length := by omega
    have hr := rd_rng hx h0 h1
    have ho := ones_frees hx h0 h1
    have ha := frees_app (x := x) (8 * d) 8 (8 * i)
    rw [show 8 * i + ((8 : Nat) : Int) = 8 * (i + 1) from by omega, show 8 + 8 * d = 8 * (d + 1) from by omega] at ha
    refine Ev.step (f := fun k => bitmap_Count.l0 k (c + Lib.onesCount (rd x i).toNat) x x.length (i + 1)) (fun k => ?_) ?_
    · simp only [bitmap_Count.l0]
      rw [if_pos h1, if_pos h0, if_pos h1]
      unfold bits_OnesCount8.f
      rw [if_pos hr, Option.bind_some, w64 (n := c + _) (by omega) (by omega), w64 (by omega) (by omega)]
    · have := ih (i + 1) (c + Lib.onesCount (rd x i).toNat) (by omega) (by omega) (by omega) (by omega)
      rw [ha, List.length_append]
      rw [show c + (8 * ((d + 1 : Nat) : Int) - (((frees x (8 * i) 8).length + (frees x (8 * (i + 1)) (8 * d)).length : Nat) : Int)) = c + Lib.onesCount (rd x i).toNat + (8 * (d : Int) - ((frees x (8 * (i + 1)) (8 * d)).length : Int)) from by omega]
      exact this
theorem Count_eq {x : List Int} (hx : By x) : Ev (fun k => bitmap_Count.f k x) (cnt x : Int) := by
  have hl := hx.1
  have := Count_loop hx x.length 0 0 (by omega) (by omega) (by omega) (by omega)
  have h2 := frees_len_le (x := x) (d := 8 * x.length) (a := 0)
  have e : (0 : Int) + (8 * (x.length : Int) - (frees x (8 * 0) (8 * x.length)).length) = (cnt x : Int) := by
    rw [show (8 * 0 : Int) = 0 from rfl]; unfold cnt; omega
  rw [e] at this
  exact this
end Go.Proofs.Ytlcbdalgifjocaa.BE
