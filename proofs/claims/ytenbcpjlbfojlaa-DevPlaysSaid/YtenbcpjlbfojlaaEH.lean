/- A store answers every call as the document says: the walk. -/
import Derived.Test.YtenbcpjlbfojlaaEG
namespace Go.Proofs.Ytenbcpjlbfojlaa.DA
open Go.RowKit Go.Proofs.YtenbcpjlbfojlaaW.PrintWords Go.Proofs.YtenbcpjlbfojlaaW.PrintLast Go.Proofs.YtenbcpjlbfojlaaW.PrintMore Go.Proofs.Ytenbcpjlbfojlaa.PD
set_option linter.unusedVariables false
set_option linter.unusedSimpArgs false
theorem isame_self {w : World} {A0 A1 : Option Addr} {c0 c1 L : Nat} {l : List Int} (hL : L = l.length) (ha : Kd.C ki w A0 L l) (hc0 : L ≤ c0) (hb : Kd.C ki w A1 L l) (hc1 : L ≤ c1) (hl : l.length ≤ 1000000000) : Calls Try.prog 21 #[.slice A0 L c0, .slice A1 L c1] w fun e w' => e = .returned (.bool true) ∧ Below w.heap.size w w' := by
  subst hL
  exact (same21 ha hc0 hb hc1 hl).mono fun e w' ⟨h1, h2⟩ => ⟨by rw [h1, decide_eq_true rfl], h2⟩
theorem new_bad (n : Int) (h : n < 1 ∨ n > 1024) (w : World) : Calls Try.prog 7 #[.int .i64 n] w fun e w' => e = .returned (.tuple #[.pointer none, .int .i64 1]) ∧ w = w' := by
  by_cases g : n < 1
  · have b1 : decide (n < 1) = true := decide_eq_true g
    clear h g
    go_enter Try.func7, Try.ntmps7
    go_wp2
    go_ret2
    exact ⟨rfl, rfl⟩
  · have b1 : decide (n < 1) = false := decide_eq_false g
    have b2 : decide (n > 1024) = true := decide_eq_true (by omega)
    clear h g
    go_enter Try.func7, Try.ntmps7
    go_wp2
    go_ret2
    exact ⟨rfl, rfl⟩
theorem step_sizes (d : Dv) (N : Nat) (s : S31) : (d.step N s).waits.length ≤ d.waits.length + 1 ∧ (d.step N s).trace.length ≤ d.trace.length + 1 := by
  unfold Dv.step
  split
  · omega
  split
  · simp [Dv.flush]
  split
  · simp [Dv.crash]
  split
  · unfold Dv.tamper; split <;> simp
  split
  · unfold Dv.put; split <;> simp
  split
  · unfold Dv.restore; split <;> simp
  · unfold Dv.write
    split
    · simp
    · split <;> simp
set_option maxHeartbeats 16000000 in
theorem plays_bad (n : Int) (hn : n < 1 ∨ n > 1024) (A : Option Addr) (len c : Nat) (w : World) :
    Calls Try.prog 5 #[.int .i64 n, .slice A len c] w fun e w' => e = .returned (.bool true) ∧ Below w.heap.size w w' := by
  have R7 := Aside0.mk (new_bad n hn w)
  have R17 := Aside0.mk (fun W => rnew_bad n hn W)
  clear hn
  go_enter Try.func5, Try.ntmps5
  go_wp2_with (first
    | (go_at_call 7; (with_reducible refine Calls.mono R7.out ?_); rintro e w1 ⟨rfl, rfl⟩)
    | (go_at_call 17; (with_reducible refine Calls.mono (R17.out _) ?_); rintro e w2 ⟨A1, c1, A2, c2, A3, c3, A4, c4, rfl, hb⟩; have HB := Aside0.mk (hb.alloc hb.size (.cells #[.int .i64 0, .slice A1 0 c1, .slice A2 0 c2, .slice A3 0 c3, .slice A4 0 c4] 50)); clear hb)
    | (go_at_call 15; refine (alive_calls _).mono ?_; rintro e w9 ⟨rfl, hb9⟩; have HB9 := Aside0.mk (below_step HB.out hb9); clear hb9))
  go_ret
  exact ⟨rfl, HB9.out⟩
set_option maxHeartbeats 16000000 in
theorem plays_many (n : Nat) (h1 : 20 < n) (h2 : n ≤ 1024) (A : Option Addr) (len c : Nat) (w : World) :
    Calls Try.prog 5 #[.int .i64 (n : Int), .slice A len c] w fun e w' => e = .returned (.bool true) ∧ Below w.heap.size w w' := by
  have R7 := Aside0.mk (new_calls n (by omega) h2 w)
  have R17 := Aside0.mk (fun W => rnew_good n (by omega) h2 W)
  have b1 : decide ((n : Int) > 20) = true := decide_eq_true (by omega)
  have b2 : decide (n > 20) = true := decide_eq_true h1
  have b3 : decide (20 < n) = true := decide_eq_true h1
  clear h1 h2
  go_enter Try.func5, Try.ntmps5
  go_wp2_with (first
    | (go_at_call 7; (with_reducible refine Calls.mono R7.out ?_); rintro e w1 ⟨B, col, vb, vw, vs, vt, rfl, _, _, hb1⟩; have HB1 := Aside0.mk hb1; clear hb1)
    | (go_at_call 17; (with_reducible refine Calls.mono (R17.out _) ?_); rintro e w2 ⟨ub, uw, us, ut, rfl, rb, rw9, rs, rt, hb⟩; obtain ⟨A1, c1, rfl⟩ := Kd.R_slice rb; obtain ⟨A2, c2, rfl⟩ := Kd.R_slice rw9; obtain ⟨A3, c3, rfl⟩ := Kd.R_slice rs; obtain ⟨A4, c4, rfl⟩ := Kd.R_slice rt; clear rb rw9 rs rt; have HB := Aside0.mk (below_step HB1.out hb); clear hb)
    | (go_at_call 15; refine (alive_calls _).mono ?_; rintro e w9 ⟨rfl, hb9⟩; have HB9 := Aside0.mk (below_step (HB.out.alloc HB.out.size _) hb9); clear hb9))
  go_ret
  exact ⟨rfl, HB9.out⟩
end Go.Proofs.Ytenbcpjlbfojlaa.DA
