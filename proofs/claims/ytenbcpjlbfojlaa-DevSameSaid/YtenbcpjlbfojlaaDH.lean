/- Bytes, Trace, Waiting, New, Tamper. -/
import Derived.Test.YtenbcpjlbfojlaaDG
namespace Go.Proofs.Ytenbcpjlbfojlaa.DA
open Go.RowKit Go.Proofs.YtenbcpjlbfojlaaW.PrintWords Go.Proofs.YtenbcpjlbfojlaaW.PrintLast Go.Proofs.YtenbcpjlbfojlaaW.PrintMore Go.Proofs.Ytenbcpjlbfojlaa.PD
set_option linter.unusedVariables false
set_option linter.unusedSimpArgs false
section
variable {α : Type} {base B N : Nat} {d : Dv} {col col' : Nat → Nat} {w w' w1 : World} {vb vw vs vt : Value}
set_option maxHeartbeats 2000000 in
theorem bytes_calls (w : World) (h : Sd base B d col w vb vw vs vt) (hN : d.blocks.length ≤ 1000000000) : Calls Try.prog 20 #[.pointer (some ⟨B, 0, none⟩)] w fun e w' => ∃ v, e = .returned v ∧ Kd.R kb 5 w' w.heap.size (fun _ => True) v d.blocks ∧ Below w.heap.size w w' := by
  obtain ⟨A, c, rfl⟩ := Kd.R_slice h.rb
  have h0 := h.c0
  have HC := Aside0.mk (clone_calls A c d.blocks w (Kd.R_reads' h.rb).2.2 hN)
  clear h hN
  go_enter Try.func20, Try.ntmps20
  go_wp2_with (go_at_call 30; refine HC.out.mono ?_; rintro e w1 ⟨v, rfl, ho, hb⟩; have HO := Aside0.mk ho; have HB := Aside0.mk hb; clear ho hb)
  go_ret
  exact ⟨_, rfl, HO.out, HB.out⟩
set_option maxHeartbeats 2000000 in
theorem trace_calls (w : World) (h : Sd base B d col w vb vw vs vt) (hN : d.trace.length ≤ 1000000000) : Calls Try.prog 22 #[.pointer (some ⟨B, 0, none⟩)] w fun e w' => ∃ v, e = .returned v ∧ Kd.R ki 3 w' w.heap.size (fun _ => True) v d.trace ∧ Below w.heap.size w w' := by
  obtain ⟨A, c, rfl⟩ := Kd.R_slice h.rt
  have h0 := h.c3
  have HC := Aside0.mk (iclone_calls A c d.trace w (Kd.R_reads' h.rt).2.2 hN)
  clear h hN
  go_enter Try.func22, Try.ntmps22
  go_wp2_with (go_at_call 39; refine HC.out.mono ?_; rintro e w1 ⟨v, rfl, ho, hb⟩; have HO := Aside0.mk ho; have HB := Aside0.mk hb; clear ho hb)
  go_ret
  exact ⟨_, rfl, HO.out, HB.out⟩
def numsW (ws : List Wr) : List Int := ws.map (·.n)
set_option maxHeartbeats 4000000 in
theorem waiting_calls (w : World) (h : Sd base B d col w vb vw vs vt) (hwl : d.waits.length ≤ 100000) : Calls Try.prog 16 #[.pointer (some ⟨B, 0, none⟩)] w fun e w' => ∃ v, e = .returned v ∧ Kd.R ki 3 w' w.heap.size (fun _ => True) v (numsW d.waits) ∧ Below w.heap.size w w' := by
  obtain ⟨Aw, cw, rfl⟩ := Kd.R_slice h.rw
  have h1 := h.c1
  obtain ⟨n, hn⟩ : ∃ n, n = d.waits.length := ⟨_, rfl⟩
  have hC := (Kd.R_reads' h.rw).2.2
  rw [← hn] at h1 hwl hC
  have HC := Aside0.mk hC
  have HN := Aside0.mk hn
  clear h hn hC
  go_enter Try.func16, Try.ntmps16
  go_wp2
  go_loopg [3, 13] n (fun gk v3 v13 w' => ∃ (j : Nat) (A3 : Option Addr) (n3 c3 : Nat), v3 = .slice A3 n3 c3 ∧ v13 = .int .i64 (j : Int) ∧ j + gk = n ∧ Aside0 (Kd.R ki 3 w' w.heap.size (fun _ => True) (.slice A3 n3 c3) (numsW (d.waits.take j)) ∧ Below w.heap.size w w'))
  case atStart => exact ⟨0, none, 0, 0, rfl, rfl, by omega, ⟨Kd.R_nil _ _ _ _ _, Below.refl _ _⟩⟩
  case round =>
    obtain ⟨j, A3, n3, c3, rfl, rfl, hjn, HR⟩ := hrel
    by_cases hlt : j < n
    · have hj0 : (0 : Int) ≤ (j : Int) := by omega
      have hj1 : (j : Int) < (n : Int) := by omega
      have hj2 : decide ((j : Int) < (n : Int)) = true := decide_eq_true hj1
      have hjl : j < d.waits.length := by rw [← HN.out]; exact hlt
      obtain ⟨ad, Ab, cb, rfl, hx0, hx1, _, _⟩ := at_W (Kd.C_below HC.out HR.out.2) j hlt
      have HTK := Aside0.mk (wAt_take hjl)
      generalize wAt d.waits j = x at hx0 hx1 HTK
      obtain ⟨xn, xb⟩ := x
      have HJ := Aside0.mk (show (numsW (d.waits.take j)).length = j by unfold numsW; rw [List.length_map, List.length_take]; omega)
      have HO0 := Aside0.mk (Kd.R_alloc HR.out.1 (.cells #[.int .i64 xn, .slice Ab xb.length cb] 71))
      have HB0 := Aside0.mk (HR.out.2.alloc HR.out.2.size (.cells #[.int .i64 xn, .slice Ab xb.length cb] 71))
      go_wp2_with (at_builtin; refine Kd.R_append ki (w0 := w) w.heap.size rfl (.tmp 17) (.tmp 20) 44 3 (.int .i64 0) 8 rfl Try.underlying44 info3 rfl (by decide) (by decide) _ (numsW (d.waits.take j)) xn [.int .i64 xn] (fun _ => True) (fun _ => False) rfl (by rw [World.size_alloc]; rfl) rfl (fun _ h => h.elim) (fun _ _ => trivial) HO0.out HB0.out HB0.out.size (by rw [HJ.out]; omega) ?_; intro v4 w4 ho4 hb4 hg4 hat4; obtain ⟨A4, c4, rfl⟩ := Kd.R_slice ho4; have HO4 := Aside0.mk ho4; have HB4 := Aside0.mk hb4; clear ho4 hb4 hg4 hat4)
      go_roundg (gk - 1)
      case measure => omega
      case rel =>
        refine ⟨j + 1, A4, _, c4, rfl, by go_num, by omega, ⟨?_, HB4.out⟩⟩
        have h9 := HO4.out
        rw [HTK.out]
        unfold numsW at h9 ⊢
        rw [List.map_append]
        simpa using h9
    · obtain rfl : j = n := by omega
      have hge : decide ((j : Int) < (j : Int)) = false := decide_eq_false (by omega)
      go_wp2
      go_ret
      have h9 := HR.out.1
      rw [HN.out, List.take_length] at h9
      exact ⟨_, rfl, h9, HR.out.2⟩
def Dv.new (n : Nat) : Dv := ⟨List.replicate (n * 256) 0, [], [], []⟩
theorem Wf.new {n : Nat} (h1 : 1 ≤ n) (h2 : n ≤ 1024) : Wf (Dv.new n) n := ⟨⟨List.length_replicate, h1, h2⟩, fun x hx => absurd hx (by simp [Dv.new]), fun x hx => absurd hx (by simp [Dv.new]), by simp [Dv.new]⟩
set_option maxHeartbeats 4000000 in
theorem new_calls (n : Nat) (h1 : 1 ≤ n) (h2 : n ≤ 1024) (w : World) : Calls Try.prog 7 #[.int .i64 (n : Int)] w fun e w' => ∃ B col vb vw vs vt, e = .returned (.tuple #[.pointer (some ⟨B, 0, none⟩), .int .i64 0]) ∧ Sd w.heap.size B (Dv.new n) col w' vb vw vs vt ∧ (∀ k, col k ≠ 0 → w.heap.size ≤ k) ∧ Below w.heap.size w w' := by
  have hb1 : decide ((n : Int) < 1) = false := decide_eq_false (by omega)
  have hb2 : decide ((n : Int) > 1024) = false := decide_eq_false (by omega)
  have hw : IntKind.i64.wrap ((n : Int) * 256) = (n : Int) * 256 := w64 _ (by omega) (by omega)
  go_enter Try.func7, Try.ntmps7
  go_wp2_with ((with_reducible refine gate_dst (N := 12) rfl ?_); refine Kd.R_make kb _ 5 rfl (N := 12) rfl 35 _ _ rfl ((n : Int) * 256) rfl rfl Try.underlying35 (.int .u8 0) 1 info5 rfl (by decide) (by omega) 0 (ok := fun _ => True) (okp := fun _ => True) rfl (fun _ hk => hk) trivial (by omega) (by omega) (Below.refl _ _) (Nat.le_refl _) ?_; intro v106 w3 ho4 hb hg_ hnew_; clear hg_ hnew_; rw [show ((n : Int) * 256).toNat = n * 256 by omega] at ho4; obtain ⟨A, c, rfl⟩ := Kd.R_slice ho4; rw [List.length_replicate] at ho4 ⊢; have HO := Aside0.mk ho4; have HB := Aside0.mk hb; clear ho4 hb)
  go_ret2
  have hs := HB.out.size
  have hb4 := HB.out.alloc hs (.cells #[.slice A (n * 256) c, .slice none 0 0, .slice none 0 0, .slice none 0 0] 62)
  refine ⟨w3.heap.size, fun k => if k = w3.heap.size then 1 else if w.heap.size ≤ k ∧ k < w3.heap.size then 2 else 0, _, _, _, _, rfl, ⟨blk_new _ _, hs, if_pos rfl, ?_, Kd.R_nil _ _ _ _ _, Kd.R_nil _ _ _ _ _, Kd.R_nil _ _ _ _ _, ?_⟩, ?_, hb4⟩
  · exact Kd.R_mono (Kd.R_bound (Kd.R_alloc (Kd.R_mono (Kd.R_bound HO.out) (fun k hk => hk.2.2.1)) _)) (fun k hk => by
      have h3 : k < w3.heap.size := hk.1
      rw [if_neg (by omega), if_pos ⟨hk.2.1, h3⟩])
  · intro k hk
    simp only [World.size_alloc]
    by_cases h9 : k = w3.heap.size
    · omega
    · rw [if_neg h9] at hk
      by_cases h8 : w.heap.size ≤ k ∧ k < w3.heap.size
      · omega
      · rw [if_neg h8] at hk; exact absurd rfl hk
  · intro k hk
    simp only at hk
    by_cases h9 : k = w3.heap.size
    · omega
    · rw [if_neg h9] at hk
      by_cases h8 : w.heap.size ≤ k ∧ k < w3.heap.size
      · omega
      · rw [if_neg h8] at hk; exact absurd rfl hk
end
end Go.Proofs.Ytenbcpjlbfojlaa.DA
