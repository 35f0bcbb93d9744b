/- The document's meter, by hand: what stands in memory, and what its methods come to. -/
import Derived.Test.YtfbfloiflcjdjaaEN
import Derived.Deep.QuietTactic
import Derived.BigQuiet
namespace Go.Proofs.Ytfbfloiflcjdjaa.EO
open Go.RowKit Go.Maps Go.Proofs.YtfbfloiflcjdjaaW.PrintWords Go.Proofs.YtfbfloiflcjdjaaW.PrintLast Go.Proofs.YtfbfloiflcjdjaaW.PrintMore Go.Proofs.Ytfbfloiflcjdjaa.PE Go.Proofs.Ytfbfloiflcjdjaa.EM Go.Proofs.Ytfbfloiflcjdjaa.EN
theorem info48 : (Try.prog.info? 48).map (fun i => (i.zero, i.size, i.bytes)) = some (some (.agg #[.int .u32 0, .int .i64 0]), 2, 16) := by kernel_rfl
theorem eqA48 (d : Nat) (w : World) (x0 y0 x1 y1 : Int) :
    (Op.equalIn (d + 2) 48 (.agg #[.int .u32 x0, .int .i64 x1]) (.agg #[.int .u32 y0, .int .i64 y1])).run Try.prog w = .ok (x0 == y0 && (x1 == y1)) w := by
  refine eqA_of Try.underlying48 (by kernel_rfl) ?_
  refine eqf_cons (by rfl) (by go_simp; rfl) (by go_simp; rfl) (by go_simp) ?_
  exact eqf_last (by rfl) (by go_simp; rfl) (by go_simp; rfl) (by go_simp)
/-- The document's meter. -/
structure RS where
  last : Int
  now : Int
  l : List Use
def RS.reserve (m : RS) : RS × Int × Int :=
  if m.now ≠ 0 then (m, 0, 7) else if m.last = 4294967295 then (m, 0, 20) else (⟨m.last + 1, m.last + 1, m.l⟩, m.last + 1, 0)
def RS.use (m : RS) (b : Int) : RS × Int :=
  if m.now = 0 ∨ b < 0 then (m, 1) else if (⟨m.now, b⟩ : Use) ∈ m.l then (m, 7) else (⟨m.last, m.now, m.l ++ [⟨m.now, b⟩]⟩, 0)
def RS.done (m : RS) : RS × Int := if m.now = 0 then (m, 1) else (⟨m.last, 0, m.l⟩, 0)
structure Rm (base B : Nat) (m : RS) (w : World) (vl : Value) : Prop where
  box : w.heap[B]? = some (.cells #[.int .u32 m.last, .int .u32 m.now, vl] 42 (0, 0))
  hB : base ≤ B
  row : Kd.R kU 48 w base (fun k => k ≠ B) vl m.l
section
variable {base B : Nat} {m : RS} {w w' : World} {vl : Value}
theorem Rm.c0 (h : Rm base B m w vl) : w.cell? ⟨B, 0, none⟩ = some (.int .u32 m.last) := (blk_cell h.box 0).trans rfl
theorem Rm.c1 (h : Rm base B m w vl) : w.cell? ⟨B, 1, none⟩ = some (.int .u32 m.now) := (blk_cell h.box 1).trans rfl
theorem Rm.c2 (h : Rm base B m w vl) : w.cell? ⟨B, 2, none⟩ = some vl := (blk_cell h.box 2).trans rfl
theorem Rm.lt (h : Rm base B m w vl) : B < w.heap.size := blk_lt h.box
theorem kU_moves {w w' : World} {base : Nat} {ok : Nat → Prop} {xs : List Use} {cs : List Value} (h : Reps (kU.M w base ok) 2 xs cs) {ok' : Nat → Prop} : Reps (kU.M w' base ok') 2 xs cs := h.imp_ (fun p cs hp => by obtain rfl := kU_openM hp; exact kU_mkM _ _ _ _)
/-- A row of uses stays where its own block stays. -/
theorem rowU_move {e : Nat} {ok ok' : Nat → Prop} {v : Value} {xs : List Use} (h : Kd.R kU e w base ok v xs) (hm : ∀ k, v.ownBlock = some k → w'.heap[k]? = w.heap[k]?) (hok : ∀ k, v.ownBlock = some k → ok' k) : Kd.R kU e w' base ok' v xs := by
  obtain ⟨_, inner, ho, hr⟩ := h
  exact ⟨hok, inner, own_move ho hm, kU_moves hr⟩
theorem Rm.kept (h : Rm base B m w vl) {S2 : Nat → Prop} (hk : Kept w w' S2) (hd : ∀ k, (k = B ∨ some k = vl.ownBlock) → ¬ S2 k) : Rm base B m w' vl := by
  refine ⟨blk_kept h.box hk (hd B (.inl rfl)), h.hB, ?_⟩
  obtain ⟨h0, inner, ho, hr⟩ := h.row
  exact ⟨h0, inner, own_move ho (fun k hk2 => hk.2 k (own_lt ho k hk2) (hd k (.inr hk2.symm))), kU_moves hr⟩
theorem Rm.below (h : Rm base B m w vl) (hb : Below w.heap.size w w') : Rm base B m w' vl := h.kept (Kept.of_below hb (fun _ => False)) (fun _ _ h => h)
theorem kept_own {w w' : World} {B : Nat} (h : Kept w w' (fun k => k = B)) (j : Nat) (u : Value) : Kept w (w'.setCell ⟨B, j, none⟩ u) (fun k => k = B) := kept_set (a := ⟨B, j, none⟩) h rfl u
def AfterR (base B : Nat) (m : RS) (w w' : World) (vl : Value) : Prop := ∃ vl', Rm base B m w' vl' ∧ Kept w w' (fun k => k = B) ∧ (vl' = vl ∨ ∀ k, vl'.ownBlock = some k → w.heap.size ≤ k) ∧ Below base w w'
theorem AfterR.same {w : World} (h : Rm base B m w vl) : AfterR base B m w w vl := ⟨vl, h, Kept.refl _ _, .inl rfl, Below.refl _ _⟩
set_option maxHeartbeats 2000000 in
theorem rdone_calls (w : World) (h : Rm base B m w vl) : Calls Try.prog 13 #[.pointer (some ⟨B, 0, none⟩)] w fun e w' => e = .returned (.int .i64 m.done.2) ∧ AfterR base B m.done.1 w w' vl := by
  have h0 := h.c1
  have hf := blk_frozen h.box 1
  have HM := Aside0.mk h
  clear h
  unfold RS.done
  by_cases hn : m.now = 0
  · rw [if_pos hn]
    rw [hn] at h0
    go_enter Try.func13, Try.ntmps13
    go_wp2
    go_ret
    exact ⟨rfl, AfterR.same HM.out⟩
  · rw [if_neg hn]
    have hb : (m.now == 0) = false := beq_eq_false_iff_ne.mpr hn
    go_enter Try.func13, Try.ntmps13
    go_wp2
    go_ret
    have h := HM.out
    exact ⟨rfl, vl, ⟨blk_put h.box 1 _ rfl, h.hB, Kd.R_far (p := ⟨B, 1, none⟩) h.row (fun _ hk => hk) _⟩, kept_own (Kept.refl _ _) _ _, .inl rfl, (Below.refl base w).setCell (p := ⟨B, 1, none⟩) h.hB _⟩
set_option maxHeartbeats 2000000 in
theorem rreserve_calls (w : World) (h : Rm base B m w vl) (hm : 0 ≤ m.last ∧ m.last ≤ 4294967295) :
    Calls Try.prog 12 #[.pointer (some ⟨B, 0, none⟩)] w fun e w' => e = .returned (.tuple #[.int .u32 m.reserve.2.1, .int .i64 m.reserve.2.2]) ∧ AfterR base B m.reserve.1 w w' vl := by
  have h0 := h.c0
  have h1 := h.c1
  have hf0 := blk_frozen h.box 0
  have hf1 := blk_frozen h.box 1
  have HM := Aside0.mk h
  clear h
  unfold RS.reserve
  by_cases hn : m.now = 0
  · rw [if_neg (by simpa using hn)]
    rw [hn] at h1
    by_cases hl : m.last = 4294967295
    · rw [if_pos hl]
      rw [hl] at h0
      go_enter Try.func12, Try.ntmps12
      go_wp2
      go_ret2
      exact ⟨rfl, AfterR.same HM.out⟩
    · rw [if_neg hl]
      have hb : (m.last == 4294967295) = false := beq_eq_false_iff_ne.mpr hl
      have hw : IntKind.u32.wrap (m.last + 1) = m.last + 1 := by simp [IntKind.wrap, IntKind.signed, IntKind.bits]; omega
      go_enter Try.func12, Try.ntmps12
      go_wp2
      go_ret2
      have h := HM.out
      exact ⟨rfl, vl, ⟨blk_put (blk_put h.box 0 _ rfl) 1 _ rfl, h.hB, Kd.R_far (p := ⟨B, 1, none⟩) (Kd.R_far (p := ⟨B, 0, none⟩) h.row (fun _ hk => hk) _) (fun _ hk => hk) _⟩, kept_own (kept_own (Kept.refl _ _) _ _) _ _, .inl rfl, ((Below.refl base w).setCell (p := ⟨B, 0, none⟩) h.hB _).setCell (p := ⟨B, 1, none⟩) h.hB _⟩
  · rw [if_pos hn]
    have hb : (m.now != 0) = true := bne_iff_ne.mpr hn
    go_enter Try.func12, Try.ntmps12
    go_wp2
    go_ret2
    exact ⟨rfl, AfterR.same HM.out⟩
def uAt (xs : List Use) (i : Nat) : Use := xs.getD i zU
theorem at_U {w : World} {A : Option Addr} {n : Nat} {xs : List Use} (h : Kd.C kU w A n xs) (i : Nat) (h1 : i < n) : ∃ ad, A = some ad ∧ w.cell? (ad.add (i * 2)) = some (.int .u32 (uAt xs i).e) ∧ w.cell? ⟨(ad.add (i * 2)).block, (ad.add (i * 2)).off + 1, none⟩ = some (.int .i64 (uAt xs i).b) := by
  obtain ⟨ad, c, e, _, hK, hc0⟩ := Kd.C_get h zU i (by omega) (by omega)
  have hc : ∀ j u, c[j]? = some u → w.cell? (ad.add (i * 2 + j)) = some u := hc0
  obtain rfl := kU_open hK
  exact ⟨ad, e, hc 0 _ rfl, by rw [← add_field _ _ 1 (by omega)]; exact hc 1 _ rfl⟩
theorem uAt_take {xs : List Use} {k : Nat} (h : k < xs.length) : xs.take (k + 1) = xs.take k ++ [uAt xs k] := by
  rw [List.take_succ_eq_append_getElem h]; simp [uAt, List.getD_eq_getElem?_getD, List.getElem?_eq_getElem h]
end
end Go.Proofs.Ytfbfloiflcjdjaa.EO
