/- SpanWhole, over numbers and lists alone: the parts of every span have its bytes, each once, in order; so many bytes lie on so many pages. For all whole numbers. -/
import Derived.Test.YtffpfneiaknfeaaPPx2
namespace Go.Proofs.Ytffpfneiaknfeaa.Pure
open Go.RowKit Go.Proofs.Ytffpfneiaknfeaa.PP Go.Proofs.YtffpfneiaknfeaaW.PrintWords Go.Proofs.YtffpfneiaknfeaaW.PrintLast Go.Proofs.YtffpfneiaknfeaaW.PrintMore

theorem w64 {n : Int} (h0 : -9223372036854775808 ≤ n) (h1 : n ≤ 9223372036854775807) : wrap64 n = n := by unfold wrap64; omega
theorem Ev.out {α : Type} {g : Nat → Option α} {r : α} (h : Ev g r) : ∃ K, ∀ k, K ≤ k → g k = some r := h
theorem pages_eq {n : Int} (h0 : -8192 ≤ n) (h1 : n ≤ 8192) : span_Pages.f n = some (if n < 1 then 0 else (n - 1) / 256 + 1) := by
  unfold span_Pages.f
  by_cases h : n < 1
  · rw [if_pos h, if_pos h]
  · rw [if_neg h, if_neg h, w64 (n := n - 1) (by omega) (by omega), Int.tdiv_eq_ediv_of_nonneg (by omega), w64 (n := (n - 1) / 256) (by omega) (by omega), w64 (by omega) (by omega)]
theorem alive_eq : carlinglaw26_alive.f = some true := by decide +kernel
theorem rd_drop {l r : List S28} {i : Int} {p : S28} (h0 : 0 ≤ i) (h : l.drop i.toNat = p :: r) : rd_T28 l i = p ∧ i < l.length ∧ l.drop (i + 1).toNat = r := by
  have hl : i.toNat < l.length := by
    rcases Nat.lt_or_ge i.toNat l.length with h1 | h1
    · exact h1
    · rw [List.drop_eq_nil_of_le h1] at h; cases h
  rw [List.drop_eq_getElem_cons hl] at h
  injection h with h1 h2
  refine ⟨?_, by omega, ?_⟩
  · unfold rd_T28; rw [List.getD_eq_getElem?_getD, List.getElem?_eq_getElem hl]; exact h1
  · rw [show (i + 1).toNat = i.toNat + 1 from by omega]; exact h2
theorem prts_length : ∀ (k : Nat) (a stop : Int), (prts k a stop).length ≤ k := by
  intro k
  induction k with
  | zero => intro a stop; simp [prts]
  | succ k ih => intro a stop; rw [prts]; split <;> simp [ih]
theorem whole_loop {x0 x1 : Int} (h0 : 0 ≤ x0) (h1 : 0 ≤ x1) (h2 : x0 + x1 ≤ 8192) (l : List S28) (hl : l.length ≤ 40) :
    ∀ (q : Nat) (a i : Int), 0 ≤ i → x0 ≤ a → a ≤ x0 + x1 → ((x0 + x1) / 256 - a / 256 < q ∨ a = x0 + x1) → (i > 0 → a % 256 = 0 ∨ a = x0 + x1) → l.drop i.toNat = prts q a (x0 + x1) →
    Ev (fun k => carlinglaw26_SpanWhole.l0 k x0 x1 a l l.length i) true := by
  have fin : ∀ (i : Int), 0 ≤ i → l.drop i.toNat = [] → Ev (fun k => carlinglaw26_SpanWhole.l0 k x0 x1 (x0 + x1) l l.length i) true := by
    intro i hi hd
    have hlt : ¬ i < (l.length : Int) := fun h => by have := congrArg List.length hd; simp at this; omega
    refine Ev.step (f := fun _ => some true) (fun k => ?_) (Ev.now _)
    simp only [carlinglaw26_SpanWhole.l0]
    rw [if_neg hlt, pages_eq (by omega) (by omega), Option.bind_some, w64 (n := x0 + x1) (by omega) (by omega), if_pos rfl, w64 (n := -x1) (by omega) (by omega)]
    have hb : ∀ t : Int, t = (if x1 < 1 then 0 else (x1 - 1) / 256 + 1) → x1 ≤ 256 * t ∧ 256 * t - x1 < 256 ∧ 0 ≤ t ∧ t ≤ 33 := by intro t ht; subst ht; split <;> omega
    obtain ⟨b1, b2, b3, b4⟩ := hb _ rfl
    rw [w64 (n := 256 * _) (by omega) (by omega), if_pos b1, w64 (n := 256 * _ - x1) (by omega) (by omega), if_pos b2, pages_eq (by omega) (by omega), Option.bind_some, if_pos (by rw [if_pos (by omega)]), alive_eq]; rfl
  intro q
  induction q with
  | zero =>
    intro a i hi ha0 ha1 hq _ hd
    obtain rfl : a = x0 + x1 := by omega
    exact fin i hi hd
  | succ q ih =>
    intro a i hi ha0 ha1 hq hz hd
    rw [prts] at hd
    by_cases hlt : a < x0 + x1
    · rw [if_pos hlt] at hd
      obtain ⟨e1, e2, e3⟩ := rd_drop hi hd
      obtain ⟨n, hn⟩ : ∃ n, n = mn (256 - a % 256) (x0 + x1 - a) := ⟨_, rfl⟩
      rw [← hn] at e1 e3
      have hnb : n ≤ 256 - a % 256 ∧ n ≤ x0 + x1 - a ∧ 1 ≤ n ∧ (n = 256 - a % 256 ∨ n = x0 + x1 - a) := by subst hn; unfold mn; split <;> omega
      refine Ev.step (f := fun k => carlinglaw26_SpanWhole.l0 k x0 x1 (a + n) l l.length (i + 1)) (fun k => ?_) (ih (a + n) (i + 1) (by omega) (by omega) (by omega) (by omega) (fun _ => by omega) e3)
      simp only [carlinglaw26_SpanWhole.l0]
      rw [if_pos e2, if_pos hi, if_pos e2, e1]
      simp only []
      rw [if_neg (by omega), w64 (n := a % 256 + n) (by omega) (by omega), if_neg (by omega), w64 (n := 256 * (a / 256)) (by omega) (by omega), w64 (by omega) (by omega), if_pos (by omega), w64 (n := a + n) (by omega) (by omega), w64 (n := i + 1) (by omega) (by omega)]
      by_cases hp : i > 0
      · rw [if_pos hp, if_pos (by have := hz hp; omega)]
      · rw [if_neg hp]
    · rw [if_neg hlt] at hd
      obtain rfl : a = x0 + x1 := by omega
      exact fin i hi hd
theorem SpanWhole : carlinglaw26_SpanWhole.Pure := by
  intro a0 a1 _ _
  by_cases hm : mayF a0 a1 = 0
  · obtain ⟨h0, h1, h2⟩ := may_ok hm
    obtain ⟨K, hK⟩ := Ev.out (whole_loop h0 h1 h2 (prts 40 a0 (a0 + a1)) (prts_length _ _ _) 40 a0 0 (by omega) (by omega) (by omega) (by omega) (by omega) rfl)
    refine ⟨K, ?_⟩
    unfold carlinglaw26_SpanWhole.f span_Parts.f
    rw [if_pos hm, Option.bind_some, if_pos rfl]
    exact hK K (Nat.le_refl _)
  · refine ⟨0, ?_⟩
    unfold carlinglaw26_SpanWhole.f span_Parts.f
    rw [if_neg hm, Option.bind_some, if_neg hm, if_pos (by rfl), alive_eq]; rfl
end Go.Proofs.Ytffpfneiaknfeaa.Pure
