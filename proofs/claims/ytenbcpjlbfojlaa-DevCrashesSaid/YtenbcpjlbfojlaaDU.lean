/- What a crash leaves of a block: the plain law. -/
import Derived.Test.YtenbcpjlbfojlaaDS
namespace Go.Proofs.Ytenbcpjlbfojlaa.DA
open Go.RowKit Go.Proofs.YtenbcpjlbfojlaaW.PrintWords Go.Proofs.YtenbcpjlbfojlaaW.PrintLast Go.Proofs.YtenbcpjlbfojlaaW.PrintMore Go.Proofs.Ytenbcpjlbfojlaa.PD
set_option linter.unusedVariables false
set_option linter.unusedSimpArgs false
theorem blk_far' (M x y : Nat) (bl b : List Int) (hb : b.length ≤ M) (e1 : x + M ≤ y ∨ y + M ≤ x) (e2 : y + M ≤ bl.length) (e3 : x + M ≤ bl.length) : ((splice bl x b).drop y).take M = (bl.drop y).take M := by
  unfold splice
  apply List.ext_getElem?
  intro i
  by_cases hi : i < M
  · rw [List.getElem?_take_of_lt hi, List.getElem?_take_of_lt hi, List.getElem?_drop, List.getElem?_drop]
    rcases e1 with h1 | h1
    · rw [List.getElem?_append_right (by rw [List.length_take]; omega), List.getElem?_append_right (by rw [List.length_take]; omega), List.getElem?_drop, List.length_take]
      congr 1
      omega
    · rw [List.getElem?_append_left (by rw [List.length_take]; omega), List.getElem?_take_of_lt (by omega)]
  · rw [List.getElem?_eq_none (by rw [List.length_take]; omega), List.getElem?_eq_none (by rw [List.length_take]; omega)]
theorem like_inj {x y : Int} (h : like x = like y) : x = y := by
  have h1 := like_rd x 0 (by decide)
  rw [h, like_rd y 0 (by decide)] at h1
  exact h1.symm
theorem blk_lay_far {N : Nat} {bl : List Int} {x : Wr} {many q : Nat} (hbl : bl.length = N * 256) (hx : (0 ≤ x.n ∧ x.n < N) ∧ x.b.length = 256) (hq : q < N) (hne : x.n ≠ (q : Int)) : blk (lay bl x many) q = blk bl q := by
  unfold blk lay
  refine blk_far' 256 _ _ bl _ ?_ ?_ ?_ ?_
  · rw [List.length_take]; omega
  · omega
  · omega
  · omega
theorem blk_lay_on {N : Nat} {bl : List Int} {x : Wr} {q : Nat} (hbl : bl.length = N * 256) (hx : (0 ≤ x.n ∧ x.n < N) ∧ x.b.length = 256) (hq : q < N) (he : x.n = (q : Int)) : blk (lay bl x 256) q = x.b := by
  rw [lay_all hx.2]
  have : x.n.toNat = q := by omega
  rw [this, blk_lay bl q q N x.b hx.2 hbl hq hq, if_pos rfl]
/-- Behind a crash a block that is not torn is one that it had, or that waited. -/
theorem blk_crashed {N : Nat} {bl : List Int} (hb : bl.length = N * 256) (keep torn parts : Int) (q : Nat) (hq : q < N) {y0 : Int} (h0 : blk bl q = like y0) : ∀ (m : Nat) (ws : List Wr), ws.length = m → WsOk N ws → (∀ x ∈ ws, ∃ y, x.b = like y) →
    (∀ j : Nat, (j : Int) = torn → j < ws.length → (wAt ws j).n ≠ (q : Int)) → ∃ y, blk (crashed keep torn parts bl ws) q = like y ∧ (y = y0 ∨ ∃ x ∈ ws, x.n = (q : Int) ∧ x.b = like y) ∧ (keep = 0 → y = y0)
  | 0, ws, h, _, _, _ => by
    obtain rfl := List.length_eq_zero_iff.1 h
    exact ⟨y0, h0, .inl rfl, fun _ => rfl⟩
  | m + 1, ws, h, hw, hlk, ht => by
    obtain ⟨ini, x, rfl⟩ : ∃ ini x, ws = ini ++ [x] := by
      rcases List.eq_nil_or_concat ws with h1 | ⟨l, x, h1⟩
      · rw [h1] at h; exact absurd h (by simp)
      · exact ⟨l, x, by simpa using h1⟩
    have hx := hw x (List.mem_append.2 (.inr (List.mem_singleton.2 rfl)))
    have hi : WsOk N ini := fun y hy => hw y (List.mem_append.2 (.inl hy))
    have hlen : (crashed keep torn parts bl ini).length = N * 256 := by
      unfold crashed
      refine crashed_len hb (fun z hz => hi z.1 ?_)
      obtain ⟨a, i⟩ := z
      exact (List.mem_zipIdx hz).2.2 ▸ List.getElem_mem _
    obtain ⟨y, e1, e2, e3⟩ := blk_crashed hb keep torn parts q hq h0 m ini (by simpa using h) hi (fun z hz => hlk z (List.mem_append.2 (.inl hz))) (fun j hj hjl h9 => by
      refine ht j hj (by simp; omega) ?_
      have : wAt (ini ++ [x]) j = wAt ini j := by
        unfold wAt
        rw [List.getD_eq_getElem?_getD, List.getD_eq_getElem?_getD, List.getElem?_append_left hjl]
      rw [this]
      exact h9)
    rw [crashed_snoc]
    unfold crash1
    by_cases hc : comes keep ini.length = true
    · rw [if_pos hc]
      have hk0 : keep ≠ 0 := by
        intro h9
        rw [h9] at hc
        unfold comes at hc
        rw [Int.zero_ediv] at hc
        exact absurd hc (by decide)
      by_cases hxq : x.n = (q : Int)
      · have htn : ((ini.length : Nat) : Int) ≠ torn := fun h9 => by
          refine ht ini.length h9 (by simp) ?_
          have : wAt (ini ++ [x]) ini.length = x := by
            unfold wAt
            rw [List.getD_eq_getElem?_getD, List.getElem?_append_right (Nat.le_refl _), Nat.sub_self]
            rfl
          rw [this]
          exact hxq
        simp only
        rw [if_neg htn, blk_lay_on hlen hx hq hxq]
        obtain ⟨z, hz⟩ := hlk x (List.mem_append.2 (.inr (List.mem_singleton.2 rfl)))
        exact ⟨z, hz, .inr ⟨x, List.mem_append.2 (.inr (List.mem_singleton.2 rfl)), hxq, hz⟩, fun h9 => absurd h9 hk0⟩
      · simp only
        rw [blk_lay_far hlen hx hq hxq]
        refine ⟨y, e1, ?_, e3⟩
        rcases e2 with e2 | ⟨z, hz, hz2⟩
        · exact .inl e2
        · exact .inr ⟨z, List.mem_append.2 (.inl hz), hz2⟩
    · rw [if_neg hc]
      refine ⟨y, e1, ?_, e3⟩
      rcases e2 with e2 | ⟨z, hz, hz2⟩
      · exact .inl e2
      · exact .inr ⟨z, List.mem_append.2 (.inl hz), hz2⟩
/-! ### writes of steps -/
def wrOf (s : S31) : Wr := ⟨s.f1 % 4, like s.f3⟩
/-- What a block might be. -/
def might (l : List S31) (k : Nat) : List Int := 0 :: (l.filter (fun s => s.f1 % 4 == (k : Int))).map (·.f3)
theorem sAt_take {xs : List S31} {k : Nat} (h : k < xs.length) : xs.take (k + 1) = xs.take k ++ [sAt xs k] := by
  unfold sAt
  rw [List.take_add_one, List.getD_eq_getElem?_getD, List.getElem?_eq_getElem h]
  rfl
theorem might_snoc (l : List S31) (s : S31) (k : Nat) : might (l ++ [s]) k = if s.f1 % 4 = (k : Int) then might l k ++ [s.f3] else might l k := by
  unfold might
  rw [List.filter_append]
  by_cases h : s.f1 % 4 = (k : Int)
  · rw [if_pos h]
    simp [h]
  · rw [if_neg h]
    simp [h]
theorem might_len (l : List S31) (k : Nat) : (might l k).length ≤ l.length + 1 := by
  unfold might
  have := List.length_filter_le (fun s : S31 => s.f1 % 4 == (k : Int)) l
  simp
  omega
theorem might_pos (l : List S31) (k : Nat) : 0 < (might l k).length := by unfold might; simp
/-- The store behind the writes of some steps, and a crash. -/
theorem got_crashed (l : List S31) (d : Dv) (hb : d.blocks = (Dv.new 4).blocks) (hw : d.waits = l.map wrOf) (keep torn parts : Int) (k : Nat) (hk : k < 4) (ht : ∀ j : Nat, (j : Int) = torn → j < l.length → (sAt l j).f1 % 4 ≠ (k : Int)) :
    ∃ y, got (d.crash keep torn parts) (k : Int) = like y ∧ y ∈ might l k ∧ (keep = 0 → y = 0) := by
  have hz : blk d.blocks k = like 0 := by
    rw [hb]
    show ((List.replicate (4 * 256) (0 : Int)).drop (k * 256)).take 256 = _
    rw [List.drop_replicate, like_drop _ (by omega)]
  have hlen : d.blocks.length = 4 * 256 := by rw [hb]; exact List.length_replicate
  obtain ⟨y, e1, e2, e3⟩ := blk_crashed (N := 4) hlen keep torn parts k hk hz d.waits.length d.waits rfl (by
    rw [hw]
    intro x hx
    obtain ⟨s, _, rfl⟩ := List.mem_map.1 hx
    exact ⟨by unfold wrOf; simp only; omega, like_len _⟩) (by
    rw [hw]
    intro x hx
    obtain ⟨s, _, rfl⟩ := List.mem_map.1 hx
    exact ⟨_, rfl⟩) (fun j hj hjl h9 => by
    rw [hw, List.length_map] at hjl
    refine ht j hj hjl ?_
    have : wAt d.waits j = wrOf (sAt l j) := by
      unfold wAt sAt
      rw [hw, List.getD_eq_getElem?_getD, List.getD_eq_getElem?_getD, List.getElem?_map, List.getElem?_eq_getElem hjl]
      rfl
    rw [this] at h9
    exact h9)
  refine ⟨y, e1, ?_, e3⟩
  unfold might
  rcases e2 with rfl | ⟨x, hx, hx1, hx2⟩
  · exact List.mem_cons_self
  · rw [hw] at hx
    obtain ⟨s, hs, rfl⟩ := List.mem_map.1 hx
    refine List.mem_cons_of_mem _ (List.mem_map.2 ⟨s, List.mem_filter.2 ⟨hs, ?_⟩, like_inj hx2⟩)
    exact beq_iff_eq.2 hx1
end Go.Proofs.Ytenbcpjlbfojlaa.DA
