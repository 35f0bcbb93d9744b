/- The store's small methods. -/
import Derived.Test.YtenbcpjlbfojlaaDC
namespace Go.Proofs.Ytenbcpjlbfojlaa.DA
open Go.RowKit Go.Proofs.YtenbcpjlbfojlaaW.PrintWords Go.Proofs.YtenbcpjlbfojlaaW.PrintLast Go.Proofs.YtenbcpjlbfojlaaW.PrintMore Go.Proofs.Ytenbcpjlbfojlaa.PD
set_option linter.unusedVariables false
set_option linter.unusedSimpArgs false
section
variable {α : Type} {base B N : Nat} {d : Dv} {col col' : Nat → Nat} {w w' w1 : World} {vb vw vs vt : Value}
/-- A store of N blocks. -/
def Of (d : Dv) (N : Nat) : Prop := d.blocks.length = N * 256 ∧ 1 ≤ N ∧ N ≤ 1024
set_option maxHeartbeats 2000000 in
theorem len_calls (w : World) (h : Sd base B d col w vb vw vs vt) (hN : Of d N) : Calls Try.prog 19 #[.pointer (some ⟨B, 0, none⟩)] w fun e w' => e = .returned (.int .i64 (N : Int)) ∧ w = w' := by
  obtain ⟨A, c, rfl⟩ := Kd.R_slice h.rb
  have h0 := h.c0
  obtain ⟨h1, h2, h3⟩ := hN
  have hq1 : ((d.blocks.length : Nat) : Int) / 256 = (N : Int) := by omega
  have hq2 : Int.tdiv ((d.blocks.length : Nat) : Int) 256 = (N : Int) := by rw [Int.tdiv_eq_ediv_of_nonneg (by omega)]; exact hq1
  clear h h1
  go_enter Try.func19, Try.ntmps19
  go_wp2
  go_ret
  exact ⟨rfl, rfl⟩
def askE (N : Nat) (n : Int) : Int := if n < 0 ∨ (N : Int) ≤ n then 1 else 0
set_option maxHeartbeats 2000000 in
theorem ask_calls (n : Int) (w : World) (h : Sd base B d col w vb vw vs vt) (hN : Of d N) : Calls Try.prog 29 #[.pointer (some ⟨B, 0, none⟩), .int .i64 n] w fun e w' => e = .returned (.int .i64 (askE N n)) ∧ w = w' := by
  have hz : ((N : Int) == 0) = false := beq_eq_false_iff_ne.mpr (by have := hN.2.1; omega)
  have HL := Aside0.mk (len_calls w h hN)
  clear h hN
  unfold askE
  by_cases h1 : n < 0
  · rw [if_pos (.inl h1)]
    have hb : decide (n < 0) = true := decide_eq_true h1
    clear h1
    go_enter Try.func29, Try.ntmps29
    go_wp2_with (go_at_call 19; refine HL.out.mono ?_; rintro e w2 ⟨rfl, rfl⟩)
    go_ret
    exact ⟨rfl, rfl⟩
  · have hb : decide (n < 0) = false := decide_eq_false h1
    by_cases h2 : (N : Int) ≤ n
    · rw [if_pos (.inr h2)]
      have hb2 : decide (n ≥ (N : Int)) = true := decide_eq_true h2
      clear h1 h2
      go_enter Try.func29, Try.ntmps29
      go_wp2_with (go_at_call 19; refine HL.out.mono ?_; rintro e w2 ⟨rfl, rfl⟩)
      go_ret
      exact ⟨rfl, rfl⟩
    · rw [if_neg (by omega)]
      have hb2 : decide (n ≥ (N : Int)) = false := decide_eq_false (by omega)
      clear h1 h2
      go_enter Try.func29, Try.ntmps29
      go_wp2_with (go_at_call 19; refine HL.out.mono ?_; rintro e w2 ⟨rfl, rfl⟩)
      go_ret
      exact ⟨rfl, rfl⟩
def Dv.note (d : Dv) (n : Int) : Dv := ⟨d.blocks, d.waits, d.shelf, d.trace ++ [n]⟩
set_option maxHeartbeats 4000000 in
theorem note_calls (n : Int) (w : World) (h : Sd base B d col w vb vw vs vt) (ht : d.trace.length < 100000) : Calls Try.prog 28 #[.pointer (some ⟨B, 0, none⟩), .int .i64 n] w fun e w' => e = .returned (.tuple #[]) ∧ SAfter base B (d.note n) col w w' := by
  have h3 := h.c3
  have hf3 := blk_frozen h.box 3
  have HS := Aside0.mk h
  have HT := Aside0.mk ht
  clear h ht
  go_enter Try.func28, Try.ntmps28
  go_wp2_with (at_builtin; refine Kd.R_append ki (w0 := w) base rfl (.tmp 8) (.tmp 10) 44 3 (.int .i64 0) 8 rfl Try.underlying44 info3 rfl (by decide) (by decide) vt d.trace n [.int .i64 n] (fun j => (col j = 5 ∧ j < w.heap.size) ∨ w.heap.size ≤ j) (fun _ => False) rfl rfl rfl (fun _ h => h.elim) (fun _ h => .inr h) (Kd.R_mono (Kd.R_bound HS.out.rt) (fun _ hk => .inl ⟨hk.1, hk.2.2.1⟩)) (Below.refl _ _) (Nat.le_trans HS.out.hB (Nat.le_of_lt HS.out.bl)) (by have := HT.out; omega) ?_; intro v4 w4 ho4 hb4 hg4 hat4; obtain ⟨A4, c4, rfl⟩ := Kd.R_slice ho4; have hbx := blk_grown HS.out.box hg4 (HS.out.ne_own (i := 5) (by decide) HS.out.rt.1); have hcz : w4.cell? ⟨B, 3, none⟩ = some vt := (blk_cell hbx 3).trans rfl; have hfz : w4.frozen? ⟨B, 3, none⟩ = false := blk_frozen hbx 3; have hl4 : ¬ ((d.trace ++ [n]).length : Int) > 100000 := (by have := HT.out; simp only [List.length_append, List.length_cons, List.length_nil]; omega); revert ho4 hl4; generalize (d.trace ++ [n]).length = n4; intro ho4 hl4; have hl5 : decide ((n4 : Int) > 100000) = false := decide_eq_false hl4; have HP := Aside0.mk (SAfter.of (HS.out.put3 ho4 (grown_kept HS.out.rt.1 hg4) (HS.out.grown_below hg4 (fun k he => ((Kd.R_bound HS.out.rt).1 k he).2.1)))); clear ho4 hb4 hg4 hat4 hbx hl4)
  go_end0
  exact ⟨rfl, HP.out⟩
end
end Go.Proofs.Ytenbcpjlbfojlaa.DA
