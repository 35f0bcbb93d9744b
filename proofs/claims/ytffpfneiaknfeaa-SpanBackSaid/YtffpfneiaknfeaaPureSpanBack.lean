/- SpanBack, over numbers and lists alone: what is spread over pages is gathered. For all whole numbers and bytes. -/
import Derived.Test.YtffpfneiaknfeaaPQx3
namespace Go.Proofs.Ytffpfneiaknfeaa.Pure
open Go.RowKit Go.Proofs.Ytffpfneiaknfeaa.PQ Go.Proofs.YtffpfneiaknfeaaW.PrintWords Go.Proofs.YtffpfneiaknfeaaW.PrintLast Go.Proofs.YtffpfneiaknfeaaW.PrintMore

theorem w64 {n : Int} (h0 : -9223372036854775808 ≤ n) (h1 : n ≤ 9223372036854775807) : wrap64 n = n := by unfold wrap64; omega
theorem Ev.out {α : Type} {g : Nat → Option α} {r : α} (h : Ev g r) : ∃ K, ∀ k, K ≤ k → g k = some r := h
theorem Ev.mk {α : Type} {g : Nat → Option α} {r : α} (K : Nat) (h : ∀ k, K ≤ k → g k = some r) : Ev g r := ⟨K, h⟩
theorem alive_eq : carlinglaw26_alive.f = some true := by decide +kernel
theorem rd_drop {l r : List S28} {i : Nat} {p : S28} (h : l.drop i = p :: r) : rd_T28 l (i : Int) = p ∧ i < l.length ∧ l.drop (i + 1) = r ∧ l.take (i + 1) = l.take i ++ [p] := by
  have hl : i < l.length := by
    rcases Nat.lt_or_ge i l.length with h1 | h1
    · exact h1
    · rw [List.drop_eq_nil_of_le h1] at h; cases h
  have h0 := h
  rw [List.drop_eq_getElem_cons hl] at h
  injection h with h1 h2
  refine ⟨?_, hl, h2, ?_⟩
  · show l.getD i z28 = p
    rw [List.getD_eq_getElem?_getD, List.getElem?_eq_getElem hl]; exact h1
  · rw [List.take_add_one, List.getElem?_eq_getElem hl, h1]; rfl
theorem prts_length : ∀ (k : Nat) (a stop : Int), (prts k a stop).length ≤ k := by
  intro k
  induction k with
  | zero => intro a stop; simp [prts]
  | succ k ih => intro a stop; rw [prts]; split <;> simp [ih]
theorem same_self (l : List Int) (hl : l.length ≤ 100000) : Ev (fun k => carlingref02_Same.f k l l) true := by
  have loop : ∀ (d : Nat) (i : Int), 0 ≤ i → (l.length : Int) - i = d → Ev (fun k => carlingref02_Same.l0 k l l i) true := by
    intro d
    induction d with
    | zero => intro i h0 hd; exact Ev.step (f := fun _ => some true) (fun k => by simp only [carlingref02_Same.l0]; rw [if_neg (by omega)]) (Ev.now _)
    | succ d ih =>
      intro i h0 hd
      refine Ev.step (f := fun k => carlingref02_Same.l0 k l l (i + 1)) (fun k => ?_) (ih (i + 1) (by omega) (by omega))
      simp only [carlingref02_Same.l0]
      rw [if_pos (by omega), if_pos h0, if_pos (by omega), if_pos trivial, w64 (by omega) (by omega)]
  exact Ev.congr (fun k => by unfold carlingref02_Same.f; rw [if_pos rfl]) (loop l.length 0 (by omega) (by omega))
theorem rd_splice {L V : List Int} {a : Nat} (h : a + V.length ≤ L.length) {i : Int} (h0 : 0 ≤ i) (hi : i < a ∨ (a + V.length : Nat) ≤ i) : rd (splice L a V) i = rd L i := by
  have hl : (L.take a).length = a := by rw [List.length_take]; omega
  unfold rd splice
  rw [List.getD_eq_getElem?_getD, List.getD_eq_getElem?_getD]
  congr 1
  by_cases hia : i.toNat < a
  · rw [List.getElem?_append_left (by omega), List.getElem?_take, if_pos hia]
  · rw [List.getElem?_append_right (by omega), hl, List.getElem?_append_right (by omega), List.getElem?_drop]
    congr 1; omega
theorem cut_splice {L V : List Int} {a : Nat} (h : a + V.length ≤ L.length) : ((splice L a V).drop a).take V.length = V := by
  have hl : (L.take a).length = a := by rw [List.length_take]; omega
  unfold splice
  rw [List.drop_left' hl, List.take_left' rfl]
theorem gath_snoc : ∀ (l : List S28) (pp : List (List Int)) (p : S28) (g : List Int), l.length = pp.length → gath (l ++ [p]) (pp ++ [g]) = gath l pp ++ (g.drop p.f1.toNat).take p.f2.toNat := by
  intro l
  induction l with
  | nil => intro pp p g h; cases pp with | nil => simp [gath] | cons _ _ => cases h
  | cons q l ih =>
    intro pp p g h
    cases pp with
    | nil => cases h
    | cons h1 pp => simp only [List.cons_append, gath, List.append_assoc]; rw [ih pp p g (by simpa using h)]
theorem okG_snoc : ∀ (l : List S28) (pp : List (List Int)) (p : S28) (g : List Int), okG l pp = true → g.length = 256 → 0 ≤ p.f1 → 1 ≤ p.f2 → p.f1 + p.f2 ≤ 256 → okG (l ++ [p]) (pp ++ [g]) = true := by
  intro l
  induction l with
  | nil => intro pp p g h h1 h2 h3 h4; cases pp with | nil => simp [okG, h1, h2, h3, h4] | cons _ _ => simp [okG] at h
  | cons q l ih =>
    intro pp p g h h1 h2 h3 h4
    cases pp with
    | nil => simp [okG] at h
    | cons e pp =>
      simp only [okG, Bool.and_eq_true] at h
      simp only [List.cons_append, okG, Bool.and_eq_true]
      exact ⟨h.1, ih pp p g h.2 h1 h2 h3 h4⟩
theorem in_loop {bs y0 y : List Int} {P : List S28} {pages : List (List Int)} {from_ i a f1 f2 : Int} (hy : y.length = 256) (hy0 : y0.length = 256) (h1 : 0 ≤ f1) (h2 : 0 ≤ f2) (h3 : f1 + f2 ≤ 256) (hp : pages.length ≤ 1000)
    (heq : ∀ j, 0 ≤ j → (j < f1 ∨ j ≥ f1 + f2) → rd y j = rd y0 j) (hnext : Ev (fun k => carlinglaw26_SpanBack.l0 k bs P (pages ++ [y]) (wrap64 (from_ + f2)) P P.length (wrap64 (i + 1))) true) :
    ∀ (d : Nat) (j : Int), 0 ≤ j → 256 - j = d → Ev (fun k => carlinglaw26_SpanBack.l1 k bs P pages from_ y0 y P P.length i 256 j a f1 f2) true := by
  intro d
  induction d with
  | zero =>
    intro j h0 hd
    refine Ev.step (f := _) (fun k => ?_) hnext
    simp only [carlinglaw26_SpanBack.l1]
    rw [if_neg (by omega), if_pos (by omega)]
  | succ d ih =>
    intro j h0 hd
    refine Ev.step (f := fun k => carlinglaw26_SpanBack.l1 k bs P pages from_ y0 y P P.length i 256 (j + 1) a f1 f2) (fun k => ?_) (ih (j + 1) (by omega) (by omega))
    simp only [carlinglaw26_SpanBack.l1]
    rw [w64 (n := j + 1) (by omega) (by omega), w64 (n := f1 + f2) (by omega) (by omega), if_pos (by omega)]
    by_cases hj1 : j < f1
    · rw [if_pos hj1, if_pos h0, if_pos (by omega), if_pos (by omega), if_pos (heq j h0 (.inl hj1))]
    · rw [if_neg hj1]
      by_cases hj2 : j ≥ f1 + f2
      · rw [if_pos hj2, if_pos h0, if_pos (by omega), if_pos (by omega), if_pos (heq j h0 (.inr hj2))]
      · rw [if_neg hj2]
theorem back_loop {bs : List Int} {a0 : Int} (h0 : 0 ≤ a0) (h2 : a0 + bs.length ≤ 8192) (P : List S28) (hl : P.length ≤ 40) :
    ∀ (q i : Nat) (from_ : Int) (pages : List (List Int)), 0 ≤ from_ → from_ ≤ bs.length → ((a0 + bs.length) / 256 - (a0 + from_) / 256 < q ∨ from_ = bs.length) → P.drop i = prts q (a0 + from_) (a0 + bs.length) →
    i ≤ P.length → okG (P.take i) pages = true → gath (P.take i) pages = bs.take from_.toNat →
    Ev (fun k => carlinglaw26_SpanBack.l0 k bs P pages from_ P P.length i) true := by
  have fin : ∀ (i : Nat) (pages : List (List Int)), P.drop i = [] → i ≤ P.length → okG (P.take i) pages = true → gath (P.take i) pages = bs.take bs.length → Ev (fun k => carlinglaw26_SpanBack.l0 k bs P pages bs.length P P.length i) true := by
    intro i pages hd hip hok hg
    have hi : i = P.length := by have := congrArg List.length hd; simp at this; omega
    subst hi
    rw [List.take_length] at hok
    rw [List.take_length, List.take_length] at hg
    obtain ⟨K, hK⟩ := Ev.out (same_self bs (by omega))
    refine Ev.mk (K + 1) (fun k hk => ?_)
    obtain ⟨k, rfl⟩ : ∃ m, k = m + 1 := ⟨k - 1, by omega⟩
    simp only [carlinglaw26_SpanBack.l0]
    rw [if_neg (by omega)]
    unfold span_Gather.f
    rw [if_pos ⟨hok, by omega⟩, Option.bind_some, hg, hK k (by omega), Option.bind_some, if_pos rfl, alive_eq]; rfl
  intro q
  induction q with
  | zero =>
    intro i from_ pages hf0 hf1 hq hd hip hok hg
    obtain rfl : from_ = bs.length := by omega
    rw [show ((bs.length : Nat) : Int).toNat = bs.length from by omega] at hg
    exact fin i pages hd hip hok hg
  | succ q ih =>
    intro i from_ pages hf0 hf1 hq hd hip hok hg
    rw [prts] at hd
    by_cases hlt : a0 + from_ < a0 + bs.length
    · rw [if_pos hlt] at hd
      obtain ⟨e1, e2, e3, e4⟩ := rd_drop hd
      obtain ⟨n, hn⟩ : ∃ n, n = mn (256 - (a0 + from_) % 256) (a0 + bs.length - (a0 + from_)) := ⟨_, rfl⟩
      rw [← hn] at e1 e3 e4
      have hnb : n ≤ 256 - (a0 + from_) % 256 ∧ n ≤ bs.length - from_ ∧ 1 ≤ n ∧ (n = 256 - (a0 + from_) % 256 ∨ n = bs.length - from_) := by subst hn; unfold mn; split <;> omega
      have hplen := okG_len _ _ hok
      have hpl : pages.length ≤ 1000 := by rw [← hplen, List.length_take]; omega
      obtain ⟨m, hm⟩ : ∃ m, m = (a0 + from_) % 256 := ⟨_, rfl⟩
      have hm0 : 0 ≤ m ∧ m < 256 := by omega
      obtain ⟨y0, hy0⟩ : ∃ y0, y0 = (List.replicate 256 (0 : Int)).set (255 - Int.tmod (i : Int) 8).toNat 9 := ⟨_, rfl⟩
      have hy0l : y0.length = 256 := by rw [hy0, List.length_set, List.length_replicate]
      obtain ⟨V, hV⟩ : ∃ V, V = (bs.drop from_.toNat).take n.toNat := ⟨_, rfl⟩
      have hVl : V.length = n.toNat := by rw [hV, List.length_take, List.length_drop]; omega
      obtain ⟨y, hy⟩ : ∃ y, y = splice y0 m.toNat V := ⟨_, rfl⟩
      have hyl : y.length = 256 := by rw [hy, length_splice _ _ _ (by omega), hy0l]
      have hgn : gath (P.take (i + 1)) (pages ++ [y]) = bs.take (from_ + n).toNat := by
        rw [e4, gath_snoc _ _ _ _ hplen, hg]
        have hc := cut_splice (L := y0) (V := V) (a := m.toNat) (by omega)
        rw [← hy, hVl] at hc
        rw [show (⟨(a0 + from_) / 256, (a0 + from_) % 256, n⟩ : S28).f1 = m from hm.symm, hc, hV, show (from_ + n).toNat = from_.toNat + n.toNat from by omega, List.take_add]
      have hon : okG (P.take (i + 1)) (pages ++ [y]) = true := by
        rw [e4]
        exact okG_snoc _ _ _ _ hok hyl (by show 0 ≤ (a0 + from_) % 256; omega) hnb.2.2.1 (by show (a0 + from_) % 256 + n ≤ 256; omega)
      have hnext := ih (i + 1) (from_ + n) (pages ++ [y]) (by omega) (by omega) (by omega) (by rw [e3, Int.add_assoc]) (by omega) hon hgn
      have hin := in_loop (bs := bs) (P := P) (a := (a0 + from_) / 256) (f1 := m) (f2 := n) (from_ := from_) (i := (i : Int)) hyl hy0l hm0.1 (by omega) (by omega) hpl (fun j hj hjj => by rw [hy]; exact rd_splice (by omega) hj (by omega)) (by rw [w64 (n := from_ + n) (by omega) (by omega), w64 (n := (i : Int) + 1) (by omega) (by omega)]; exact hnext) 256 0 (by omega) (by omega)
      obtain ⟨K, hK⟩ := Ev.out hin
      have ht : 0 ≤ Int.tmod (i : Int) 8 ∧ Int.tmod (i : Int) 8 < 8 := by rw [Int.tmod_eq_emod_of_nonneg (by omega)]; omega
      refine Ev.mk (K + 2) (fun k hk => ?_)
      obtain ⟨k, rfl⟩ : ∃ m, k = m + 2 := ⟨k - 2, by omega⟩
      simp only [carlinglaw26_SpanBack.l0]
      rw [if_pos (by omega), if_pos (by omega), if_pos (by omega), if_pos (by omega), Option.bind_some, w64 (n := 255 - Int.tmod (i : Int) 8) (by omega) (by omega), if_pos (by omega), if_pos (by rw [List.length_replicate]; omega), Option.bind_some, ← hy0, e1]
      simp only []
      unfold span_Spread.f
      rw [if_pos ⟨hy0l, by omega, by omega, by omega, hf0, by omega, by omega⟩, Option.bind_some, if_pos rfl, ← hV, ← hm, ← hy]
      simp only [carlinglaw26_SpanBack.j2]
      rw [hyl, if_neg (by simp)]
      exact hK k (by omega)
    · rw [if_neg hlt] at hd
      obtain rfl : from_ = bs.length := by omega
      rw [show ((bs.length : Nat) : Int).toNat = bs.length from by omega] at hg
      exact fin i pages hd hip hok hg
theorem SpanBack : carlinglaw26_SpanBack.Pure := by
  intro a0 bs _ _ _ _
  by_cases hm : mayF a0 bs.length = 0
  · obtain ⟨h0, h1, h2⟩ := may_ok hm
    by_cases hb : (bs.length : Int) > 2000
    · refine ⟨1, ?_⟩
      unfold carlinglaw26_SpanBack.f span_Parts.f
      rw [if_pos hm, Option.bind_some, if_pos rfl, decide_eq_true hb]
      simp only [carlinglaw26_SpanBack.j0]
      rw [if_pos trivial, alive_eq]; rfl
    · obtain ⟨K, hK⟩ := Ev.out (back_loop h0 h2 (prts 40 a0 (a0 + bs.length)) (prts_length _ _ _) 40 0 0 [] (by omega) (by omega) (by omega) (by rw [Int.add_zero]; rfl) (by omega) rfl rfl)
      refine ⟨K + 1, ?_⟩
      unfold carlinglaw26_SpanBack.f span_Parts.f
      rw [if_pos hm, Option.bind_some, if_pos rfl, decide_eq_false hb]
      simp only [carlinglaw26_SpanBack.j0]
      rw [if_neg (by simp)]
      exact hK K (Nat.le_refl _)
  · refine ⟨1, ?_⟩
    unfold carlinglaw26_SpanBack.f span_Parts.f
    rw [if_neg hm, Option.bind_some, if_neg hm]
    simp only [carlinglaw26_SpanBack.j0]
    rw [if_pos trivial, alive_eq]; rfl
end Go.Proofs.Ytffpfneiaknfeaa.Pure
