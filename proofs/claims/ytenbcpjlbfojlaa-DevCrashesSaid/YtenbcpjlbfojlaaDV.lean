/- Four rows beside a store. -/
import Derived.Test.YtenbcpjlbfojlaaDU
namespace Go.Proofs.Ytenbcpjlbfojlaa.DA
open Go.RowKit Go.Proofs.YtenbcpjlbfojlaaW.PrintWords Go.Proofs.YtenbcpjlbfojlaaW.PrintLast Go.Proofs.YtenbcpjlbfojlaaW.PrintMore Go.Proofs.Ytenbcpjlbfojlaa.PD
set_option linter.unusedVariables false
set_option linter.unusedSimpArgs false
def upd {α : Type} (f : Nat → α) (n : Nat) (x : α) : Nat → α := fun k => if k = n then x else f k
theorem upd_on {α : Type} (f : Nat → α) (n : Nat) (x : α) : upd f n x n = x := if_pos rfl
theorem upd_off {α : Type} {f : Nat → α} {n k : Nat} {x : α} (h : k ≠ n) : upd f n x k = f k := if_neg h
theorem four (vs : Nat → Value) {n : Nat} (h : n < 4) : (#[vs 0, vs 1, vs 2, vs 3] : Array Value)[n]? = some (vs n) := by
  match n, h with
  | 0, _ => rfl
  | 1, _ => rfl
  | 2, _ => rfl
  | 3, _ => rfl
theorem four_set (vs : Nat → Value) {n : Nat} (h : n < 4) (v : Value) : (#[vs 0, vs 1, vs 2, vs 3] : Array Value).setIfInBounds n v = #[upd vs n v 0, upd vs n v 1, upd vs n v 2, upd vs n v 3] := by
  match n, h with
  | 0, _ => simp [upd]
  | 1, _ => simp [upd]
  | 2, _ => simp [upd]
  | 3, _ => simp [upd]
/-- Four rows of bytes, each with its own block, in an array's block. -/
structure Mi (base MB : Nat) (ms : Nat → List Int) (vs : Nat → Value) (w : World) : Prop where
  box : w.heap[MB]? = some (.cells #[vs 0, vs 1, vs 2, vs 3] 43 (0, 0))
  row : ∀ k, k < 4 → Kd.R kb 5 w base (fun j => (vs k).ownBlock = some j) (vs k) (ms k)
  inj : ∀ k k', k < 4 → k' < 4 → k ≠ k' → ∀ j, (vs k).ownBlock = some j → (vs k').ownBlock ≠ some j
  nm : ∀ k, k < 4 → (vs k).ownBlock ≠ some MB
  hb : base ≤ MB
section
variable {w0 w w' w1 : World} {B MB base N : Nat} {d d' : Dv} {KS : List Nat} {ms : Nat → List Int} {vs : Nat → Value}
theorem Mi.keep (h : Mi base MB ms vs w) (hM : w'.heap[MB]? = w.heap[MB]?) (hr : ∀ k, k < 4 → ∀ j, (vs k).ownBlock = some j → w'.heap[j]? = w.heap[j]?) : Mi base MB ms vs w' :=
  ⟨hM.trans h.box, fun k hk => Kd.R_step (h.row k hk) (fun j hj _ => hr k hk j hj), h.inj, h.nm, h.hb⟩
theorem Mi.own_lt (h : Mi base MB ms vs w) {k j : Nat} (hk : k < 4) (hj : (vs k).ownBlock = some j) : j < w.heap.size := ((Kd.R_bound (h.row k hk)).1 j hj).2.2.1
/-- A store and the four rows. -/
structure Jm (w0 : World) (B MB : Nat) (d : Dv) (ms : Nat → List Int) (vs : Nat → Value) (KS : List Nat) (w : World) : Prop where
  dj : Dj w0 B 4 d KS w
  mi : Mi w0.heap.size MB ms vs w
  mbk : MB ∈ KS
  ok : ∀ k, k < 4 → ∀ j, (vs k).ownBlock = some j → j ∈ KS
theorem Jm.below (h : Jm w0 B MB d ms vs KS w) (hb : Below w.heap.size w w') : Jm w0 B MB d ms vs KS w' :=
  ⟨h.dj.below hb, h.mi.keep (hb.block MB (blk_lt h.mi.box)) (fun k hk j hj => hb.block j (h.mi.own_lt hk hj)), h.mbk, h.ok⟩
theorem Jm.stay (h : Jm w0 B MB d ms vs KS w) (hd : Dj w0 B 4 d' KS w') (hs : Stay KS w w') : Jm w0 B MB d' ms vs KS w' :=
  ⟨hd, h.mi.keep (hs MB h.mbk) (fun k hk j hj => hs j (h.ok k hk j hj)), h.mbk, h.ok⟩
theorem Jm.more (h : Jm w0 B MB d ms vs KS w) (o : Obj) : Jm w0 B MB d ms vs (w.heap.size :: KS) (w.alloc o) := by
  have hb := (Below.refl w.heap.size w).alloc (Nat.le_refl _) o
  exact ⟨h.dj.more o, h.mi.keep (hb.block MB (blk_lt h.mi.box)) (fun k hk j hj => hb.block j (h.mi.own_lt hk hj)), List.mem_cons_of_mem _ h.mbk, fun k hk j hj => List.mem_cons_of_mem _ (h.ok k hk j hj)⟩
theorem Jm.told (h : Jm w0 B MB d ms vs KS w) (hb : Below w.heap.size w w') {g : Nat} (h1 : w.heap.size ≤ g) (h2 : g < w'.heap.size) : Jm w0 B MB d ms vs (g :: KS) w' :=
  ⟨h.dj.told hb h1 h2, h.mi.keep (hb.block MB (blk_lt h.mi.box)) (fun k hk j hj => hb.block j (h.mi.own_lt hk hj)), List.mem_cons_of_mem _ h.mbk, fun k hk j hj => List.mem_cons_of_mem _ (h.ok k hk j hj)⟩
/-- A kept block has grown, or a new one is there. -/
theorem Dj.grew (h : Dj w0 B N d KS w) {row own : Option Nat} (hg : w.grownBy w' row) (hr : ∀ r, row = some r → r ∈ KS) (hrb : ∀ r, row = some r → w0.heap.size ≤ r) (ho : own = row ∨ ∃ b, own = some b ∧ w.heap.size ≤ b) (hol : ∀ g, own = some g → g < w'.heap.size) : ∀ g, own = some g → Dj w0 B N d (g :: KS) w' := fun g hgo => by
  obtain ⟨⟨col, vb, vw, vs, vt, hs, hk⟩, h2, h3⟩ := h
  have hk9 : Kept w w' (fun k => row = some k) := ⟨hg.size, fun k hk hn => hg.block k hk (fun he => hn he.symm)⟩
  refine ⟨⟨col, vb, vw, vs, vt, hs.kept hk9 (fun k hk2 he => hk2 (hk k (hr k he)).1), fun k h1 => ?_⟩, h2.grown hg (by have := h2.size; exact this) hrb, h3⟩
  rcases List.mem_cons.1 h1 with rfl | h1
  · refine ⟨?_, hol k hgo⟩
    rcases ho with ho | ⟨b, hb, hbl⟩
    · exact (hk k (hr k (ho ▸ hgo))).1
    · rw [hgo] at hb
      injection hb with hb
      by_cases hc : col k = 0
      · exact hc
      · have := hs.lt _ hc
        omega
  · exact ⟨(hk k h1).1, Nat.lt_of_lt_of_le (hk k h1).2 hg.size⟩
/-- A row has one more, and lies in the array. -/
theorem Jm.put (h : Jm w0 B MB d ms vs KS w) {q : Nat} (hq : q < 4) {v4 : Value} {l : List Int} {ok : Nat → Prop} (ho : Kd.R kb 5 w' w0.heap.size ok v4 l) (hg : w.grownBy w' (vs q).ownBlock) (hat : v4.ownBlock = (vs q).ownBlock ∨ ∃ b, v4.ownBlock = some b ∧ w.heap.size ≤ b) (hl : 0 < l.length) :
    ∃ KS', Jm w0 B MB d (upd ms q l) (upd vs q v4) KS' (w'.setCell ⟨MB, q, none⟩ v4) ∧ (∀ k ∈ KS, k ∈ KS') ∧ w'.heap[MB]? = some (.cells #[vs 0, vs 1, vs 2, vs 3] 43 (0, 0)) := by
  obtain ⟨g, c, he, hgb, hgl, _⟩ := Kd.R_form ho hl
  have hown : v4.ownBlock = some g := by rw [he]; rfl
  have hrb : ∀ r, (vs q).ownBlock = some r → w0.heap.size ≤ r := fun r hr => ((Kd.R_bound (h.mi.row q hq)).1 r hr).2.1
  have hd := h.dj.grew hg (fun r hr => h.ok q hq r hr) hrb hat (fun g' h' => by rw [hown] at h'; injection h' with h'; omega) g hown
  have hbox : w'.heap[MB]? = some (.cells #[vs 0, vs 1, vs 2, vs 3] 43 (0, 0)) := blk_grown h.mi.box hg (fun he => h.mi.nm q hq he.symm)
  have hgM : g ≠ MB := by
    rcases hat with hat | ⟨b, hb, hbl⟩
    · exact fun h9 => h.mi.nm q hq (by rw [← hat, hown, h9])
    · rw [hown] at hb
      injection hb with hb
      have := blk_lt h.mi.box
      omega
  have hfar : ∀ k j, k < 4 → k ≠ q → (vs k).ownBlock = some j → j ≠ g := fun k j hk hkq hj h9 => by
    rcases hat with hat | ⟨b, hb, hbl⟩
    · exact h.mi.inj k q hk hq hkq j hj (by rw [← hat, hown, h9])
    · rw [hown] at hb
      injection hb with hb
      have := h.mi.own_lt hk hj
      omega
  refine ⟨g :: KS, ⟨hd.wrote (p := ⟨MB, q, none⟩) (List.mem_cons_of_mem _ h.mbk) h.mi.hb v4, ⟨?_, fun k hk => ?_, fun k k' hk hk' hne j hj => ?_, fun k hk => ?_, h.mi.hb⟩, List.mem_cons_of_mem _ h.mbk, fun k hk j hj => ?_⟩, fun k hk => List.mem_cons_of_mem _ hk, hbox⟩
  · rw [blk_set hbox q v4, four_set vs hq v4]
  · by_cases hkq : k = q
    · subst hkq
      rw [upd_on, upd_on]
      refine Kd.R_far (p := ⟨MB, k, none⟩) (Kd.R_of_own (Kd.own_of_R ho) (fun j hj => hj)) (fun j hj h9 => ?_) v4
      rw [hown] at hj
      injection hj with hj
      exact hgM (hj.trans h9)
    · rw [upd_off hkq, upd_off hkq]
      refine Kd.R_far (p := ⟨MB, q, none⟩) (Kd.R_grown (h.mi.row k hk) hg (fun j hj h9 => h.mi.inj k q hk hq hkq j hj h9.symm)) (fun j hj h9 => ?_) v4
      exact h.mi.nm k hk (by rw [hj]; exact congrArg some h9)
  · by_cases hkq : k = q
    · subst hkq
      rw [upd_on, hown] at hj
      rw [upd_off (fun h9 => hne h9.symm)]
      injection hj with hj
      exact fun h9 => hfar k' j hk' (fun h8 => hne h8.symm) h9 hj.symm
    · rw [upd_off hkq] at hj
      by_cases hkq' : k' = q
      · subst hkq'
        rw [upd_on, hown]
        exact fun h9 => by
          injection h9 with h9
          exact hfar k j hk hkq hj h9.symm
      · rw [upd_off hkq']
        exact h.mi.inj k k' hk hk' hne j hj
  · by_cases hkq : k = q
    · subst hkq
      rw [upd_on, hown]
      exact fun h9 => by
        injection h9 with h9
        exact hgM h9
    · rw [upd_off hkq]
      exact h.mi.nm k hk
  · by_cases hkq : k = q
    · subst hkq
      rw [upd_on, hown] at hj
      injection hj with hj
      exact hj ▸ List.mem_cons_self
    · rw [upd_off hkq] at hj
      exact List.mem_cons_of_mem _ (h.ok k hk j hj)
/-- A row of one byte. -/
theorem R_one {x : Int} (hb : base ≤ w.heap.size) : Kd.R kb 5 (w.alloc (.cells #[.int .u8 x] 5)) base (fun j => j = w.heap.size) (.slice (some ⟨w.heap.size, 0, none⟩) 1 1) [x] :=
  Kd.R_of_own ⟨rfl, .inr ⟨w.heap.size, 1, #[.int .u8 x], rfl, hb, blk_new _ _, Nat.le_refl _, by decide, rfl, rfl⟩⟩ (fun k hk => by injection hk with hk; exact hk.symm)
theorem grown_alloc (o : Obj) (row : Option Nat) : w.grownBy (w.alloc o) row := ⟨rfl, rfl, rfl, by simp, fun k hk _ => ((Below.refl w.heap.size w).alloc (Nat.le_refl _) o).block k hk⟩
end
end Go.Proofs.Ytenbcpjlbfojlaa.DA
