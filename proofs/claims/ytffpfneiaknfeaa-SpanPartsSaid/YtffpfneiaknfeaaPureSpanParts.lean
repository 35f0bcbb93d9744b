/- SpanParts, over numbers and lists alone: the program's parts, their pages that are missing, and what lies ahead of an end, are the document's. For all whole numbers. -/
import Derived.Test.YtffpfneiaknfeaaSQ
namespace Go.Proofs.Ytffpfneiaknfeaa.Pure
open Go.RowKit Go.Proofs.Ytffpfneiaknfeaa.SP Go.Proofs.Ytffpfneiaknfeaa.PZ Go.Proofs.YtffpfneiaknfeaaW.PrintWords Go.Proofs.YtffpfneiaknfeaaW.PrintLast Go.Proofs.YtffpfneiaknfeaaW.PrintMore

theorem w64 {n : Int} (h0 : -9223372036854775808 ≤ n) (h1 : n ≤ 9223372036854775807) : wrap64 n = n := by unfold wrap64; omega
theorem Ev.out {α : Type} {g : Nat → Option α} {r : α} (h : Ev g r) : ∃ K, ∀ k, K ≤ k → g k = some r := h
theorem Ev.mk {α : Type} {g : Nat → Option α} {r : α} (K : Nat) (h : ∀ k, K ≤ k → g k = some r) : Ev g r := ⟨K, h⟩
theorem alive_eq : carlinglaw26_alive.f = some true := by decide +kernel
/-- A whole number of the machine. -/
def I64 (n : Int) : Prop := -9223372036854775808 ≤ n ∧ n ≤ 9223372036854775807
theorem may_ev {a b : Int} (ha : I64 a) : Ev (fun k => span_May.f k a b) (mayF a b) := by
  refine Ev.mk 1 (fun k hk => ?_)
  obtain ⟨k, rfl⟩ : ∃ m, k = m + 1 := ⟨k - 1, by omega⟩
  have h1 := ha.1
  have h2 := ha.2
  unfold span_May.f mayF
  by_cases h : a < 0
  · rw [if_pos h, if_pos (.inl h)]; simp only [span_May.j0, if_true]
  · rw [if_neg h]
    simp only [span_May.j0]
    by_cases h3 : b < 0
    · rw [decide_eq_true h3, if_pos rfl, if_pos (.inr h3)]
    · rw [decide_eq_false h3, if_neg (by simp), w64 (n := 8192 - a) (by omega) (by omega)]
      have hab : ¬ (a < 0 ∨ b < 0) := by omega
      by_cases h4 : a > 8192
      · rw [if_pos h4, if_neg hab, if_pos (.inl h4)]
      · rw [if_neg h4]
        by_cases h5 : b > 8192 - a
        · rw [if_pos h5, if_neg hab, if_pos (.inr h5)]
        · rw [if_neg h5, if_neg hab, if_neg (by omega)]
theorem rmay_ev {a b : Int} (ha : I64 a) : Ev (fun k => carlingref26_May.f k a b) (mayF a b) := by
  refine Ev.mk 1 (fun k hk => ?_)
  obtain ⟨k, rfl⟩ : ∃ m, k = m + 1 := ⟨k - 1, by omega⟩
  have h1 := ha.1
  have h2 := ha.2
  unfold carlingref26_May.f mayF
  by_cases h : a < 0
  · rw [if_pos h, if_pos (.inl h)]; simp only [carlingref26_May.j0, if_true]
  · rw [if_neg h]
    simp only [carlingref26_May.j0]
    by_cases h3 : b < 0
    · rw [decide_eq_true h3, if_pos rfl, if_pos (.inr h3)]
    · rw [decide_eq_false h3, if_neg (by simp), w64 (n := 8192 - a) (by omega) (by omega)]
      have hab : ¬ (a < 0 ∨ b < 0) := by omega
      by_cases h4 : a > 8192
      · rw [if_pos h4, if_neg hab, if_pos (.inl h4)]
      · rw [if_neg h4]
        by_cases h5 : b > 8192 - a
        · rw [if_pos h5, if_neg hab, if_pos (.inr h5)]
        · rw [if_neg h5, if_neg hab, if_neg (by omega)]
/-- The document's parts. -/
def conv (p : S28) : S52 := ⟨p.f0, p.f1, p.f2⟩
theorem eqL_conv : ∀ l : List S28, eqL l (l.map conv) = true
  | [] => rfl
  | p :: ps => by simp [eqL, conv, eqL_conv ps]
/-- One byte more. -/
def bump (i : Int) : List S52 → List S52
  | [] => [⟨i / 256, i % 256, 1⟩]
  | [p] => if p.f0 = i / 256 then [⟨p.f0, p.f1, p.f2 + 1⟩] else [p, ⟨i / 256, i % 256, 1⟩]
  | p :: q :: r => p :: bump i (q :: r)
theorem bump_snoc (i : Int) (p : S52) : ∀ L : List S52, bump i (L ++ [p]) = if p.f0 = i / 256 then L ++ [⟨p.f0, p.f1, p.f2 + 1⟩] else L ++ [p] ++ [⟨i / 256, i % 256, 1⟩]
  | [] => rfl
  | [q] => by
    have : bump i ([q] ++ [p]) = q :: bump i [p] := rfl
    rw [this]; unfold bump; split <;> rfl
  | q :: q2 :: r => by
    have h := bump_snoc i p (q2 :: r)
    have : bump i ((q :: q2 :: r) ++ [p]) = q :: bump i ((q2 :: r) ++ [p]) := rfl
    rw [this, h]; split <;> rfl
theorem prts_self (k : Nat) (a : Int) : prts k a a = [] := by cases k with | zero => rfl | succ k => rw [prts, if_neg (by omega)]
theorem prts_bump : ∀ (k : Nat) (a i : Int), 0 ≤ a → a ≤ i → i / 256 - a / 256 < k → (prts k a (i + 1)).map conv = bump i ((prts k a i).map conv) := by
  intro k
  induction k with
  | zero => intro a i h0 h1 h2; omega
  | succ k ih =>
    intro a i h0 h1 h2
    rw [prts, if_pos (by omega)]
    by_cases hai : a = i
    · subst hai
      have hm : mn (256 - a % 256) (a + 1 - a) = 1 := by unfold mn; split <;> omega
      rw [hm, prts_self, prts_self]
      rfl
    · rw [prts, if_pos (by omega)]
      rcases Int.lt_or_le (i - a) (256 - a % 256) with hc | hc
      · have hm1 : mn (256 - a % 256) (i + 1 - a) = i + 1 - a := by unfold mn; split <;> omega
        have hm2 : mn (256 - a % 256) (i - a) = i - a := by unfold mn; split <;> omega
        rw [hm1, hm2, show a + (i + 1 - a) = i + 1 from by omega, show a + (i - a) = i from by omega, prts_self, prts_self]
        show _ = bump i [conv ⟨a / 256, a % 256, i - a⟩]
        simp only [bump]
        rw [if_pos (show (conv ⟨a / 256, a % 256, i - a⟩).f0 = i / 256 from by show a / 256 = i / 256; omega)]
        show [(⟨a / 256, a % 256, i + 1 - a⟩ : S52)] = [⟨a / 256, a % 256, i - a + 1⟩]
        rw [show i + 1 - a = i - a + 1 from by omega]
      · have hm1 : mn (256 - a % 256) (i + 1 - a) = 256 - a % 256 := by unfold mn; split <;> omega
        have hm2 : mn (256 - a % 256) (i - a) = 256 - a % 256 := by unfold mn; split <;> omega
        rw [hm1, hm2]
        rw [List.map_cons, List.map_cons, ih (a + (256 - a % 256)) i (by omega) (by omega) (by omega)]
        by_cases hai2 : a + (256 - a % 256) = i
        · rw [hai2, prts_self]
          show _ :: bump i [] = bump i [conv ⟨a / 256, a % 256, 256 - a % 256⟩]
          simp only [bump]
          rw [if_neg (show ¬ (conv ⟨a / 256, a % 256, 256 - a % 256⟩).f0 = i / 256 from by show ¬ a / 256 = i / 256; omega)]
        · obtain ⟨q, r, hqr⟩ : ∃ q r, (prts k (a + (256 - a % 256)) i).map conv = q :: r := by
            cases k with
            | zero => omega
            | succ k => rw [prts, if_pos (by omega)]; exact ⟨_, _, rfl⟩
          rw [hqr]
          rfl
theorem prts_all : ∀ (k : Nat) (a stop : Int), 0 ≤ a → stop ≤ 8192 → ∀ p ∈ prts k a stop, 0 ≤ p.f0 ∧ p.f0 < 32 ∧ 0 ≤ p.f2 ∧ p.f2 ≤ 256 := by
  intro k
  induction k with
  | zero => intro a stop _ _ p hp; simp [prts] at hp
  | succ k ih =>
    intro a stop h0 h1 p hp
    rw [prts] at hp
    split at hp
    · next hlt =>
      have hmn : 1 ≤ mn (256 - a % 256) (stop - a) ∧ mn (256 - a % 256) (stop - a) ≤ 256 := by unfold mn; split <;> omega
      rcases List.mem_cons.1 hp with rfl | hp
      · show 0 ≤ a / 256 ∧ a / 256 < 32 ∧ 0 ≤ mn (256 - a % 256) (stop - a) ∧ mn (256 - a % 256) (stop - a) ≤ 256
        omega
      · exact ih _ _ (by omega) h1 p hp
    · cases hp
theorem prts_length : ∀ (k : Nat) (a stop : Int), (prts k a stop).length ≤ k := by
  intro k
  induction k with
  | zero => intro a stop; simp [prts]
  | succ k ih => intro a stop; rw [prts]; split <;> simp [ih]
theorem rd_last (L : List S52) (p : S52) : rd_T52 (L ++ [p]) (((L ++ [p]).length : Int) - 1) = p := by
  unfold rd_T52
  rw [List.length_append, List.length_singleton, show (((L.length + 1 : Nat) : Int) - 1).toNat = L.length from by omega, List.getD_eq_getElem?_getD, List.getElem?_append_right (Nat.le_refl _), Nat.sub_self]; rfl
theorem parts_loop {a b : Int} (h0 : 0 ≤ a) (h1 : 0 ≤ b) (h2 : a + b ≤ 8192) : ∀ (d : Nat) (i : Int), a ≤ i → a + b - i = d →
    Ev (fun k => carlingref26_Parts.l0 k a b ((prts 40 a i).map conv) i) ((prts 40 a (a + b)).map conv, 0) := by
  intro d
  induction d with
  | zero =>
    intro i hi hd
    obtain rfl : i = a + b := by omega
    refine Ev.step (f := fun _ => some ((prts 40 a (a + b)).map conv, 0)) (fun k => ?_) (Ev.now _)
    simp only [carlingref26_Parts.l0]
    rw [w64 (n := a + b) (by omega) (by omega), if_neg (by omega)]
  | succ d ih =>
    intro i hi hd
    have hnext := ih (i + 1) (by omega) (by omega)
    have hb := prts_bump 40 a i h0 hi (by omega)
    rw [hb] at hnext
    have hlen := prts_length 40 a i
    refine Ev.step (f := _) (fun k => ?_) hnext
    simp only [carlingref26_Parts.l0]
    rw [w64 (n := a + b) (by omega) (by omega), if_pos (by omega), w64 (n := i + 1) (by omega) (by omega), Int.tdiv_eq_ediv_of_nonneg (by omega), Int.tmod_eq_emod_of_nonneg (by omega), w64 (n := i / 256) (by omega) (by omega)]
    rcases List.eq_nil_or_concat (prts 40 a i) with hn | ⟨L, p, hn⟩
    · rw [hn]
      rw [if_neg (by simp), if_pos (by simp)]
      rfl
    · rw [List.concat_eq_append] at hn
      have hp := prts_all 40 a i h0 (by omega) p (by rw [hn]; simp)
      rw [hn] at hlen ⊢
      rw [List.length_append, List.length_singleton] at hlen
      have hml : (L ++ [p]).map conv = L.map conv ++ [conv p] := by simp
      rw [hml]
      have hll : ((L.map conv ++ [conv p]).length : Int) = L.length + 1 := by simp
      have hrl := rd_last (L.map conv) (conv p)
      rw [hll] at hrl ⊢
      rw [w64 (n := (L.length : Int) + 1 - 1) (by omega) (by omega), if_pos (by omega), if_pos (by omega), if_pos (by omega), hrl, bump_snoc]
      by_cases hpg : (conv p).f0 = i / 256
      · rw [if_pos hpg, if_pos hpg]
        have hset : (L.map conv ++ [conv p]).set ((L.length : Int) + 1 - 1).toNat ⟨(conv p).f0, (conv p).f1, wrap64 ((conv p).f2 + 1)⟩ = L.map conv ++ [⟨(conv p).f0, (conv p).f1, (conv p).f2 + 1⟩] := by
          have hf : (conv p).f2 = p.f2 := rfl
          rw [show ((L.length : Int) + 1 - 1).toNat = (L.map conv).length from by rw [List.length_map]; omega, w64 (n := (conv p).f2 + 1) (by omega) (by omega), List.set_append_right _ _ (Nat.le_refl _), Nat.sub_self]; rfl
        rw [hset]
      · rw [if_neg hpg, if_neg hpg, if_pos (by simp; omega)]
theorem rparts_ev {a b : Int} (ha : I64 a) : Ev (fun k => carlingref26_Parts.f k a b) ((if mayF a b = 0 then prts 40 a (a + b) else []).map conv, mayF a b) := by
  obtain ⟨K, hK⟩ := Ev.out (rmay_ev (b := b) ha)
  by_cases hm : mayF a b = 0
  · obtain ⟨h0, h1, h2⟩ := may_ok hm
    obtain ⟨K2, hK2⟩ := Ev.out (parts_loop h0 h1 h2 b.toNat a (by omega) (by omega))
    rw [prts_self] at hK2
    refine Ev.mk (K + K2) (fun k hk => ?_)
    unfold carlingref26_Parts.f
    rw [hK k (by omega), Option.bind_some, if_pos hm, if_pos hm, hm]
    exact hK2 k (by omega)
  · refine Ev.mk K (fun k hk => ?_)
    unfold carlingref26_Parts.f
    rw [hK k hk, Option.bind_some, if_neg hm, if_neg hm]; rfl
/-- What of a span lies ahead of an end. -/
def cutF (a b e : Int) : Int := if mayF a b = 0 then if e ≤ a then 0 else mn b (e - a) else 0
theorem cut_ev {a b e : Int} (ha : I64 a) (he : I64 e) : Ev (fun k => span_Cut.f k a b e) (cutF a b e) := by
  obtain ⟨K, hK⟩ := Ev.out (may_ev (b := b) ha)
  have e1 := he.1
  have e2 := he.2
  refine Ev.mk K (fun k hk => ?_)
  unfold span_Cut.f cutF
  rw [hK k hk, Option.bind_some]
  by_cases hm : mayF a b = 0
  · obtain ⟨h0, h1, h2⟩ := may_ok hm
    rw [if_pos hm, if_pos hm]
    by_cases hc : e ≤ a
    · rw [if_pos hc, if_pos hc]
    · rw [if_neg hc, if_neg hc, w64 (n := e - a) (by omega) (by omega)]
  · rw [if_neg hm, if_neg hm]
theorem rcut_loop {a b e : Int} (ha : I64 a) (hm : mayF a b = 0) : ∀ (d : Nat) (i : Int), a ≤ i → a + b - i = d →
    Ev (fun k => carlingref26_Cut.l0 k a b e (if e ≤ a then 0 else mn (i - a) (e - a)) i) (if e ≤ a then 0 else mn b (e - a)) := by
  obtain ⟨h0, h1, h2⟩ := may_ok hm
  obtain ⟨K, hK⟩ := Ev.out (rmay_ev (b := b) ha)
  rw [hm] at hK
  intro d
  induction d with
  | zero =>
    intro i hi hd
    obtain rfl : i = a + b := by omega
    refine Ev.mk (K + 2) (fun k hk => ?_)
    obtain ⟨k, rfl⟩ : ∃ m, k = m + 2 := ⟨k - 2, by omega⟩
    simp only [carlingref26_Cut.l0, carlingref26_Cut.j1]
    rw [hK (k + 1) (by omega), Option.bind_some, if_pos rfl, w64 (n := a + b) (by omega) (by omega), if_neg (by simp), show a + b - a = b from by omega]
  | succ d ih =>
    intro i hi hd
    obtain ⟨K2, hK2⟩ := Ev.out (ih (i + 1) (by omega) (by omega))
    refine Ev.mk (K + K2 + 2) (fun k hk => ?_)
    obtain ⟨k, rfl⟩ : ∃ m, k = m + 2 := ⟨k - 2, by omega⟩
    have h9 := hK2 k (by omega)
    simp only [carlingref26_Cut.l0, carlingref26_Cut.j1]
    rw [hK (k + 1) (by omega), Option.bind_some, if_pos rfl, w64 (n := a + b) (by omega) (by omega), if_pos (by simp; omega), w64 (n := i + 1) (by omega) (by omega)]
    by_cases hie : i < e
    · have e1 : (if e ≤ a then 0 else mn (i - a) (e - a)) = i - a := by rw [if_neg (by omega)]; unfold mn; split <;> omega
      have e2 : (if e ≤ a then 0 else mn (i + 1 - a) (e - a)) = i - a + 1 := by rw [if_neg (by omega)]; unfold mn; split <;> omega
      rw [e2] at h9
      rw [if_pos hie, e1, w64 (n := i - a + 1) (by omega) (by omega)]
      exact h9
    · have e1 : (if e ≤ a then 0 else mn (i - a) (e - a)) = if e ≤ a then 0 else mn (i + 1 - a) (e - a) := by
        by_cases hea : e ≤ a
        · rw [if_pos hea, if_pos hea]
        · rw [if_neg hea, if_neg hea]; unfold mn; split <;> split <;> omega
      rw [if_neg hie, e1]
      exact h9
theorem rcut_ev {a b e : Int} (ha : I64 a) : Ev (fun k => carlingref26_Cut.f k a b e) (cutF a b e) := by
  unfold cutF
  by_cases hm : mayF a b = 0
  · obtain ⟨h0, h1, h2⟩ := may_ok hm
    rw [if_pos hm]
    have hl := rcut_loop (e := e) ha hm b.toNat a (by omega) (by omega)
    have e1 : (if e ≤ a then 0 else mn (a - a) (e - a)) = 0 := by
      by_cases hea : e ≤ a
      · rw [if_pos hea]
      · rw [if_neg hea]; unfold mn; split <;> omega
    rw [e1] at hl
    exact Ev.congr (fun k => by unfold carlingref26_Cut.f; rfl) hl
  · rw [if_neg hm]
    obtain ⟨K, hK⟩ := Ev.out (rmay_ev (b := b) ha)
    refine Ev.mk (K + 2) (fun k hk => ?_)
    obtain ⟨k, rfl⟩ : ∃ m, k = m + 2 := ⟨k - 2, by omega⟩
    unfold carlingref26_Cut.f
    simp only [carlingref26_Cut.l0, carlingref26_Cut.j1]
    rw [hK (k + 1) (by omega), Option.bind_some, if_neg hm, if_neg (by simp)]
theorem missR_conv (pg : List Int) : ∀ l : List S28, missR pg (l.map conv) = missL pg l
  | [] => rfl
  | p :: ps => by
    show miss1 pg p.f0 ++ missR pg (ps.map conv) = miss1 pg p.f0 ++ missL pg ps
    rw [missR_conv pg ps]
theorem missL_length (pg : List Int) : ∀ l : List S28, (missL pg l).length ≤ l.length
  | [] => by simp [missL]
  | p :: ps => by
    have := missL_length pg ps
    have h1 : (miss1 pg p.f0).length ≤ 1 := by unfold miss1; split <;> simp
    rw [missL, List.length_append, List.length_cons]; omega
theorem law_calls (n0 n1 n2 : Int) (w0 : I64 n0) (w2 : I64 n2) (pg : List Int) (hpg : pg.length = 32) (w : World) :
    Calls Try.prog 4 #[.agg #[.int .i64 n0, .int .i64 n1, .int .i64 n2], .agg (pg.map (Value.int .u8)).toArray] w fun e w' => e = .returned (.bool true) ∧ Below w.heap.size w w' := by
  obtain ⟨K1, h1⟩ := Ev.out (may_ev (b := n1) w0)
  obtain ⟨K2, h2⟩ := Ev.out (rmay_ev (b := n1) w0)
  obtain ⟨K3, h3⟩ := Ev.out (rparts_ev (b := n1) w0)
  obtain ⟨K4, h4⟩ := Ev.out (cut_ev (b := n1) w0 w2)
  obtain ⟨K5, h5⟩ := Ev.out (rcut_ev (b := n1) (e := n2) w0)
  obtain ⟨l1, hl1⟩ : ∃ l1, l1 = (if mayF n0 n1 = 0 then prts 40 n0 (n0 + n1) else []) := ⟨_, rfl⟩
  rw [← hl1] at h3
  have hlen : l1.length ≤ 40 := by rw [hl1]; split; exact prts_length _ _ _; simp
  have hmiss : missL pg l1 = missF pg n0 n1 := by unfold missF; rw [hl1]; split <;> rfl
  have hpages : ∀ p ∈ l1, 0 ≤ p.f0 ∧ p.f0 < 32 := by
    intro p hp
    rw [hl1] at hp
    split at hp
    · next hm =>
      obtain ⟨g0, g1, g2⟩ := may_ok hm
      have := prts_all 40 n0 (n0 + n1) g0 g2 p hp
      exact ⟨this.1, this.2.1⟩
    · cases hp
  have hp1 : span_Parts.f n0 n1 = some (l1, mayF n0 n1) := by
    unfold span_Parts.f
    rw [hl1]
    by_cases hm : mayF n0 n1 = 0
    · rw [if_pos hm, if_pos hm, hm]
    · rw [if_neg hm, if_neg hm]
  refine SQ.law_calls (K1 + K2 + K3 + K4 + K5) n0 n1 n2 pg hpg l1 (l1.map conv) (mayF n0 n1) (cutF n0 n1 n2) hp1 (h3 _ (by omega)) (eqL_conv l1) (by rw [List.length_map]; omega) ?_ (by rw [missR_conv, hmiss]) (by rw [← hmiss]; have := missL_length pg l1; omega) (h1 _ (by omega)) (h2 _ (by omega)) (h4 _ (by omega)) (h5 _ (by omega)) alive_eq w
  intro i hi
  rw [List.length_map] at hi
  rw [List.getD_eq_getElem?_getD, List.getElem?_map, List.getElem?_eq_getElem hi]
  exact hpages l1[i] (List.getElem_mem hi)
end Go.Proofs.Ytffpfneiaknfeaa.Pure
