/- alive, and the law EpochLeft: what the code comes to, by hand. -/
import Derived.Test.YtfbfloiflcjdjaaEM
namespace Go.Proofs.Ytfbfloiflcjdjaa.EN
open Go.RowKit Go.Maps Go.Proofs.YtfbfloiflcjdjaaW.PrintWords Go.Proofs.YtfbfloiflcjdjaaW.PrintLast Go.Proofs.YtfbfloiflcjdjaaW.PrintMore Go.Proofs.Ytfbfloiflcjdjaa.PE Go.Proofs.Ytfbfloiflcjdjaa.EM
/-- A meter stands, below nothing of the call's own. -/
structure Ms (w0 : World) (B : Nat) (m : Meter) (w : World) : Prop where
  ex : ∃ S vu mv, Mt w0.heap.size B m S w vu mv
  bel : Below w0.heap.size w0 w
section
variable {w0 w w' : World} {B : Nat} {m m' : Meter}
theorem Ms.below (h : Ms w0 B m w) (hb : Below w.heap.size w w') : Ms w0 B m w' := by
  obtain ⟨⟨S, vu, mv, hm⟩, h2⟩ := h
  exact ⟨⟨S, vu, mv, hm.below hb⟩, below_step h2 hb⟩
theorem Ms.new {last : Int} (h2 : Below w0.heap.size w0 w) {vu mv : Value} (h : Mt w.heap.size w.heap.size (Meter.new last) (fun k => w.heap.size ≤ k) w' vu mv) (hb : Below w.heap.size w w') : Ms w0 w.heap.size (Meter.new last) w' := by
  refine ⟨⟨_, vu, mv, ⟨h.box, below_size h2, ?_, fun hn => absurd rfl hn, h.foot, h.mlt⟩⟩, below_step h2 hb⟩
  exact Kd.R_lower h.row (below_size h2)
theorem use_ms (h : Ms w0 B m w) (b : Int) (hb0 : (Lit.int .i64 b).wf = true) (hul : m.uses.length ≤ 1000000) (hbl : m.bl.length ≤ 1000000) :
    Calls Try.prog 19 #[.pointer (some ⟨B, 0, none⟩), .int .i64 b] w fun e w' => e = .returned (.int .i64 (m.use b).2) ∧ Ms w0 B (m.use b).1 w' := by
  obtain ⟨⟨S, vu, mv, hm⟩, h2⟩ := h
  refine (use_calls b hb0 w hm hul hbl).mono ?_
  rintro e w' ⟨he, S', vu', mv', hm', _, _, hb⟩
  exact ⟨he, ⟨S', vu', mv', hm'⟩, h2.trans hb⟩
theorem reserve_ms (h : Ms w0 B m w) (hm : 0 ≤ m.last ∧ m.last ≤ 4294967295) :
    Calls Try.prog 18 #[.pointer (some ⟨B, 0, none⟩)] w fun e w' => e = .returned (.tuple #[.int .u32 m.reserve.2.1, .int .i64 m.reserve.2.2]) ∧ Ms w0 B m.reserve.1 w' := by
  obtain ⟨⟨S, vu, mv, hmm⟩, h2⟩ := h
  refine (reserve_calls w hmm hm).mono ?_
  rintro e w' ⟨he, S', vu', mv', hm', _, _, hb⟩
  exact ⟨he, ⟨S', vu', mv', hm'⟩, h2.trans hb⟩
theorem done_ms (h : Ms w0 B m w) : Calls Try.prog 20 #[.pointer (some ⟨B, 0, none⟩)] w fun e w' => e = .returned (.int .i64 m.done.2) ∧ Ms w0 B m.done.1 w' := by
  obtain ⟨⟨S, vu, mv, hmm⟩, h2⟩ := h
  refine (done_calls w hmm).mono ?_
  rintro e w' ⟨he, S', vu', mv', hm', _, _, hb⟩
  exact ⟨he, ⟨S', vu', mv', hm'⟩, h2.trans hb⟩
theorem last_ms (h : Ms w0 B m w) : Calls Try.prog 15 #[.pointer (some ⟨B, 0, none⟩)] w fun e w' => e = .returned (.int .u32 m.last) ∧ w' = w := by
  obtain ⟨⟨S, vu, mv, hmm⟩, _⟩ := h
  exact last_calls w hmm
theorem now_ms (h : Ms w0 B m w) : Calls Try.prog 16 #[.pointer (some ⟨B, 0, none⟩)] w fun e w' => e = .returned (.int .u32 m.now) ∧ w' = w := by
  obtain ⟨⟨S, vu, mv, hmm⟩, _⟩ := h
  exact now_calls w hmm
theorem left_ms (h : Ms w0 B m w) (hm : 0 ≤ m.last ∧ m.last ≤ 4294967295) : Calls Try.prog 17 #[.pointer (some ⟨B, 0, none⟩)] w fun e w' => e = .returned (.int .u32 (4294967295 - m.last)) ∧ w' = w := by
  obtain ⟨⟨S, vu, mv, hmm⟩, _⟩ := h
  exact left_calls w hmm hm
theorem used_ms (h : Ms w0 B m w) (hl : m.uses.length ≤ 1000000) : Calls Try.prog 10 #[.pointer (some ⟨B, 0, none⟩)] w fun e w' => ∃ v, e = .returned v ∧ Kd.R kU 37 w' w.heap.size (fun _ => True) v m.uses ∧ Below w.heap.size w w' ∧ Ms w0 B m w' := by
  have h0 := h
  obtain ⟨⟨S, vu, mv, hmm⟩, _⟩ := h
  refine (used_calls w hmm hl).mono ?_
  rintro e w' ⟨v, he, hr, hb⟩
  exact ⟨v, he, hr, hb, h0.below hb⟩
end
set_option maxHeartbeats 4000000 in
theorem alive_calls (w : World) : Calls Try.prog 11 #[] w fun e w' => e = .returned (.bool true) ∧ Below w.heap.size w w' := by
  have R1 := Aside0.mk (fun W (h : Ms w w.heap.size (Meter.new 5) W) => (reserve_ms h (by decide) : Calls Try.prog 18 #[.pointer (some ⟨w.heap.size, 0, none⟩)] W fun e w' => e = .returned (.tuple #[.int .u32 6, .int .i64 0]) ∧ Ms w w.heap.size ⟨6, 6, [], []⟩ w'))
  have R2 := Aside0.mk (fun W (h : Ms w w.heap.size ⟨6, 6, [], []⟩ W) => (use_ms h 3 (by decide) (by decide) (by decide) : Calls Try.prog 19 #[.pointer (some ⟨w.heap.size, 0, none⟩), .int .i64 3] W fun e w' => e = .returned (.int .i64 0) ∧ Ms w w.heap.size ⟨6, 6, [⟨6, 3⟩], [3]⟩ w'))
  have R3 := Aside0.mk (fun W (h : Ms w w.heap.size ⟨6, 6, [⟨6, 3⟩], [3]⟩ W) => (use_ms h 3 (by decide) (by decide) (by decide) : Calls Try.prog 19 #[.pointer (some ⟨w.heap.size, 0, none⟩), .int .i64 3] W fun e w' => e = .returned (.int .i64 7) ∧ Ms w w.heap.size ⟨6, 6, [⟨6, 3⟩], [3]⟩ w'))
  have R4 := Aside0.mk (fun W (h : Ms w w.heap.size ⟨6, 6, [⟨6, 3⟩], [3]⟩ W) => (done_ms h : Calls Try.prog 20 #[.pointer (some ⟨w.heap.size, 0, none⟩)] W fun e w' => e = .returned (.int .i64 0) ∧ Ms w w.heap.size ⟨6, 0, [⟨6, 3⟩], [3]⟩ w'))
  go_enter Try.func11, Try.ntmps11
  go_wp2_with (first
    | (go_at_call 7; refine (new_calls 5 _).mono ?_; rintro e w1 ⟨vu, mv, rfl, hM, hb⟩; have H1 := Aside0.mk (Ms.new (w0 := w) (Below.refl _ _) hM hb); clear hM hb)
    | (go_at_call 18; refine (R1.out _ H1.out).mono ?_; rintro e w2 ⟨rfl, hM⟩; have H2 := Aside0.mk hM; clear hM H1)
    | (go_at_call 19; refine (R2.out _ H2.out).mono ?_; rintro e w3 ⟨rfl, hM⟩; have H3 := Aside0.mk hM; clear hM H2)
    | (go_at_call 19; refine (R3.out _ H3.out).mono ?_; rintro e w4 ⟨rfl, hM⟩; have H4 := Aside0.mk hM; clear hM H3)
    | (go_at_call 20; refine (R4.out _ H4.out).mono ?_; rintro e w5 ⟨rfl, hM⟩; have H5 := Aside0.mk hM; clear hM H4)
    | (go_at_call 16; refine (now_ms H5.out).mono ?_; rintro e w6 ⟨rfl, rfl⟩)
    | (go_at_call 10; refine (used_ms H5.out (by decide)).mono ?_; rintro e w7 ⟨v, rfl, hr, _, hM⟩; obtain ⟨A, c, rfl⟩ := Kd.R_slice hr; have H7 := Aside0.mk hM; clear hr hM))
  go_ret
  exact ⟨rfl, H7.out.bel⟩
set_option maxHeartbeats 8000000 in
set_option maxRecDepth 100000 in
theorem left_law (less b : Int) (hl : 0 ≤ less ∧ less ≤ 255) (hb0 : (Lit.int .i64 b).wf = true) (w : World) : Calls Try.prog 6 #[.int .u8 less, .int .i64 b] w fun e w' => e = .returned (.bool true) ∧ Below w.heap.size w w' := by
  obtain ⟨q, hq⟩ : ∃ q : Nat, (q : Int) = Int.tmod less 40 := ⟨(Int.tmod less 40).toNat, by rw [Int.tmod_eq_emod_of_nonneg hl.1]; omega⟩
  have hq40 : q < 40 := by have := hq; rw [Int.tmod_eq_emod_of_nonneg hl.1] at this; omega
  have ht := hq.symm
  have hw1 : IntKind.u32.wrap (q : Int) = q := by simp [IntKind.wrap, IntKind.signed, IntKind.bits]; omega
  have hw0 : IntKind.u8.wrap (q : Int) = q := by simp [IntKind.wrap, IntKind.signed, IntKind.bits]; omega
  have hw2 : IntKind.u32.wrap (4294967295 - (q : Int)) = 4294967295 - q := by simp [IntKind.wrap, IntKind.signed, IntKind.bits]; omega
  have HW := Aside0.mk hb0
  clear hq hb0
  go_enter Try.func6, Try.ntmps6
  go_wp2_with (first
    | (go_at_call 7; refine (new_calls (4294967295 - q) _).mono ?_; rintro e w1 ⟨vu, mv, rfl, hM, hb⟩; have H1 := Aside0.mk (Ms.new (w0 := w) (Below.refl _ _) hM hb); clear hM hb))
  go_loopg [7] q (fun kq v7 w' => ∃ (uses : List Use) (bl : List Int), v7 = .int .u32 (kq : Int) ∧ Aside0 (Ms w w.heap.size ⟨4294967295 - (kq : Int), 0, uses, bl⟩ w') ∧ uses.length + kq ≤ 40 ∧ bl.length ≤ 1 ∧ kq ≤ 40)
  case atStart => exact ⟨[], [], rfl, H1, by simp; omega, by simp, by omega⟩
  case round =>
    clear H1
    obtain ⟨uses, bl, rfl, HS, hu, hbl, hk⟩ := hrel
    cases gk with
    | succ g =>
      have hgt : decide (((g + 1 : Nat) : Int) > 0) = true := decide_eq_true (by omega)
      have R17 := Aside0.mk (fun W (h : Ms w w.heap.size ⟨4294967295 - (g + 1 : Nat), 0, uses, bl⟩ W) => (show Calls Try.prog 17 #[.pointer (some ⟨w.heap.size, 0, none⟩)] W fun e w' => e = .returned (.int .u32 ((g + 1 : Nat) : Int)) ∧ w' = W from by
        have h9 := left_ms h ⟨by simp only; omega, by simp only; omega⟩
        simp only [show (4294967295 : Int) - (4294967295 - ((g + 1 : Nat) : Int)) = ((g + 1 : Nat) : Int) from by omega] at h9
        exact h9))
      by_cases hb : b < 0
      · have hb1 : decide (b ≥ 0) = false := decide_eq_false (by omega)
        have R18 := Aside0.mk (fun W (h : Ms w w.heap.size ⟨4294967295 - (g + 1 : Nat), 0, uses, bl⟩ W) => (show Calls Try.prog 18 #[.pointer (some ⟨w.heap.size, 0, none⟩)] W fun e w' => e = .returned (.tuple #[.int .u32 (4294967295 - (g : Int)), .int .i64 0]) ∧ Ms w w.heap.size ⟨4294967295 - (g : Int), 4294967295 - (g : Int), uses, []⟩ w' from by
          have h9 := reserve_ms h ⟨by simp only; omega, by simp only; omega⟩
          have e9 : (Meter.mk (4294967295 - (g + 1 : Nat)) 0 uses bl).reserve = (⟨4294967295 - (g : Int), 4294967295 - (g : Int), uses, []⟩, 4294967295 - (g : Int), 0) := by
            unfold Meter.reserve
            rw [if_neg (by simp), if_neg (by simp only; omega), show (4294967295 : Int) - (g + 1 : Nat) + 1 = 4294967295 - (g : Int) from by omega]
          rw [e9] at h9
          exact h9))
        have R19 := Aside0.mk (fun W (h : Ms w w.heap.size ⟨4294967295 - (g : Int), 4294967295 - (g : Int), uses, []⟩ W) => (show Calls Try.prog 19 #[.pointer (some ⟨w.heap.size, 0, none⟩), .int .i64 b] W fun e w' => e = .returned (.int .i64 1) ∧ Ms w w.heap.size ⟨4294967295 - (g : Int), 4294967295 - (g : Int), uses, []⟩ w' from by
          have h9 := use_ms h b HW.out (by simp only; omega) (by simp)
          have e9 : (Meter.mk (4294967295 - (g : Int)) (4294967295 - (g : Int)) uses []).use b = (⟨4294967295 - (g : Int), 4294967295 - (g : Int), uses, []⟩, 1) := by
            unfold Meter.use
            rw [if_pos (.inr hb)]
          rw [e9] at h9
          exact h9))
        have R20 := Aside0.mk (fun W (h : Ms w w.heap.size ⟨4294967295 - (g : Int), 4294967295 - (g : Int), uses, []⟩ W) => (show Calls Try.prog 20 #[.pointer (some ⟨w.heap.size, 0, none⟩)] W fun e w' => e = .returned (.int .i64 0) ∧ Ms w w.heap.size ⟨4294967295 - (g : Int), 0, uses, []⟩ w' from by
          have h9 := done_ms h
          have e9 : (Meter.mk (4294967295 - (g : Int)) (4294967295 - (g : Int)) (uses) []).done = (⟨4294967295 - (g : Int), 0, uses, []⟩, 0) := by
            unfold Meter.done
            rw [if_neg (by simp only; omega)]
          rw [e9] at h9
          exact h9))
        go_wp2_with (first
          | (go_at_call 17; refine (R17.out _ HS.out).mono ?_; rintro e w2 ⟨rfl, rfl⟩)
          | (go_at_call 18; refine (R18.out _ HS.out).mono ?_; rintro e w3 ⟨rfl, hM⟩; have H3 := Aside0.mk hM; clear hM HS)
          | (go_at_call 15; refine (last_ms H3.out).mono ?_; rintro e w4 ⟨rfl, rfl⟩)
          | (go_at_call 16; refine (now_ms H3.out).mono ?_; rintro e w5 ⟨rfl, rfl⟩)
          | (go_at_call 19; refine (R19.out _ H3.out).mono ?_; rintro e w6 ⟨rfl, hM⟩; have H6 := Aside0.mk hM; clear hM H3)
          | (go_at_call 20; refine (R20.out _ H6.out).mono ?_; rintro e w7 ⟨rfl, hM⟩; have H7 := Aside0.mk hM; clear hM H6))
        go_roundg g
        case measure => omega
        case rel => exact ⟨uses, [], by first | rfl | simp, H7, by (try simp); omega, by simp, by omega⟩
      · have hb1 : decide (b ≥ 0) = true := decide_eq_true (by omega)
        have R18 := Aside0.mk (fun W (h : Ms w w.heap.size ⟨4294967295 - (g + 1 : Nat), 0, uses, bl⟩ W) => (show Calls Try.prog 18 #[.pointer (some ⟨w.heap.size, 0, none⟩)] W fun e w' => e = .returned (.tuple #[.int .u32 (4294967295 - (g : Int)), .int .i64 0]) ∧ Ms w w.heap.size ⟨4294967295 - (g : Int), 4294967295 - (g : Int), uses, []⟩ w' from by
          have h9 := reserve_ms h ⟨by simp only; omega, by simp only; omega⟩
          have e9 : (Meter.mk (4294967295 - (g + 1 : Nat)) 0 uses bl).reserve = (⟨4294967295 - (g : Int), 4294967295 - (g : Int), uses, []⟩, 4294967295 - (g : Int), 0) := by
            unfold Meter.reserve
            rw [if_neg (by simp), if_neg (by simp only; omega), show (4294967295 : Int) - (g + 1 : Nat) + 1 = 4294967295 - (g : Int) from by omega]
          rw [e9] at h9
          exact h9))
        have R19 := Aside0.mk (fun W (h : Ms w w.heap.size ⟨4294967295 - (g : Int), 4294967295 - (g : Int), uses, []⟩ W) => (show Calls Try.prog 19 #[.pointer (some ⟨w.heap.size, 0, none⟩), .int .i64 b] W fun e w' => e = .returned (.int .i64 0) ∧ Ms w w.heap.size ⟨4294967295 - (g : Int), 4294967295 - (g : Int), uses ++ [⟨4294967295 - (g : Int), b⟩], [b]⟩ w' from by
          have h9 := use_ms h b HW.out (by simp only; omega) (by simp)
          have e9 : (Meter.mk (4294967295 - (g : Int)) (4294967295 - (g : Int)) uses []).use b = (⟨4294967295 - (g : Int), 4294967295 - (g : Int), uses ++ [⟨4294967295 - (g : Int), b⟩], [b]⟩, 0) := by
            unfold Meter.use
            rw [if_neg (by simp only; omega), if_neg (by simp)]
          rw [e9] at h9
          exact h9))
        have R20 := Aside0.mk (fun W (h : Ms w w.heap.size ⟨4294967295 - (g : Int), 4294967295 - (g : Int), uses ++ [⟨4294967295 - (g : Int), b⟩], [b]⟩ W) => (show Calls Try.prog 20 #[.pointer (some ⟨w.heap.size, 0, none⟩)] W fun e w' => e = .returned (.int .i64 0) ∧ Ms w w.heap.size ⟨4294967295 - (g : Int), 0, uses ++ [⟨4294967295 - (g : Int), b⟩], [b]⟩ w' from by
          have h9 := done_ms h
          have e9 : (Meter.mk (4294967295 - (g : Int)) (4294967295 - (g : Int)) (uses ++ [⟨4294967295 - (g : Int), b⟩]) [b]).done = (⟨4294967295 - (g : Int), 0, uses ++ [⟨4294967295 - (g : Int), b⟩], [b]⟩, 0) := by
            unfold Meter.done
            rw [if_neg (by simp only; omega)]
          rw [e9] at h9
          exact h9))
        go_wp2_with (first
          | (go_at_call 17; refine (R17.out _ HS.out).mono ?_; rintro e w2 ⟨rfl, rfl⟩)
          | (go_at_call 18; refine (R18.out _ HS.out).mono ?_; rintro e w3 ⟨rfl, hM⟩; have H3 := Aside0.mk hM; clear hM HS)
          | (go_at_call 15; refine (last_ms H3.out).mono ?_; rintro e w4 ⟨rfl, rfl⟩)
          | (go_at_call 16; refine (now_ms H3.out).mono ?_; rintro e w5 ⟨rfl, rfl⟩)
          | (go_at_call 19; refine (R19.out _ H3.out).mono ?_; rintro e w6 ⟨rfl, hM⟩; have H6 := Aside0.mk hM; clear hM H3)
          | (go_at_call 20; refine (R20.out _ H6.out).mono ?_; rintro e w7 ⟨rfl, hM⟩; have H7 := Aside0.mk hM; clear hM H6))
        go_roundg g
        case measure => omega
        case rel => exact ⟨uses ++ [⟨4294967295 - (g : Int), b⟩], [b], by first | rfl | simp, H7, by (try simp); omega, by simp, by omega⟩
    | zero =>
      have R18 := Aside0.mk (fun W (h : Ms w w.heap.size ⟨4294967295 - (0 : Nat), 0, uses, bl⟩ W) => (show Calls Try.prog 18 #[.pointer (some ⟨w.heap.size, 0, none⟩)] W fun e w' => e = .returned (.tuple #[.int .u32 0, .int .i64 20]) ∧ Ms w w.heap.size ⟨4294967295 - (0 : Nat), 0, uses, bl⟩ w' from by
        have h9 := reserve_ms h ⟨by simp only; omega, by simp only; omega⟩
        have e9 : (Meter.mk (4294967295 - (0 : Nat)) 0 uses bl).reserve = (⟨4294967295 - (0 : Nat), 0, uses, bl⟩, 0, 20) := by
          unfold Meter.reserve
          rw [if_neg (by simp), if_pos (by simp only; omega)]
        rw [e9] at h9
        exact h9))
      have R17 := Aside0.mk (fun W (h : Ms w w.heap.size ⟨4294967295 - (0 : Nat), 0, uses, bl⟩ W) => (show Calls Try.prog 17 #[.pointer (some ⟨w.heap.size, 0, none⟩)] W fun e w' => e = .returned (.int .u32 0) ∧ w' = W from by
        have h9 := left_ms h ⟨by simp only; omega, by simp only; omega⟩
        simp only [show (4294967295 : Int) - (4294967295 - ((0 : Nat) : Int)) = 0 from by omega] at h9
        exact h9))
      have R19 := Aside0.mk (fun W (h : Ms w w.heap.size ⟨4294967295 - (0 : Nat), 0, uses, bl⟩ W) => (show Calls Try.prog 19 #[.pointer (some ⟨w.heap.size, 0, none⟩), .int .i64 b] W fun e w' => e = .returned (.int .i64 1) ∧ Ms w w.heap.size ⟨4294967295 - (0 : Nat), 0, uses, bl⟩ w' from by
        have h9 := use_ms h b HW.out (by simp only; omega) (by simp only; omega)
        have e9 : (Meter.mk (4294967295 - (0 : Nat)) 0 uses bl).use b = (⟨4294967295 - (0 : Nat), 0, uses, bl⟩, 1) := by
          unfold Meter.use
          rw [if_pos (.inl rfl)]
        rw [e9] at h9
        exact h9))
      go_wp2_with (first
        | (go_at_call 18; refine (R18.out _ HS.out).mono ?_; rintro e w3 ⟨rfl, hM⟩; have H3 := Aside0.mk hM; clear hM HS)
        | (go_at_call 17; refine (R17.out _ H3.out).mono ?_; rintro e w4 ⟨rfl, rfl⟩)
        | (go_at_call 19; refine (R19.out _ H3.out).mono ?_; rintro e w6 ⟨rfl, hM⟩; have H6 := Aside0.mk hM; clear hM H3)
        | (go_at_call 11; refine (alive_calls _).mono ?_; rintro e w7 ⟨rfl, hb⟩; have HB := Aside0.mk (below_step H6.out.bel hb); clear hb H6))
      go_ret
      exact ⟨rfl, HB.out⟩
/-- A step. -/
def Meter.step (m : Meter) (k b : Int) : Meter × Int × Int :=
  if k % 4 = 0 then m.reserve else if k % 4 = 2 then (m.done.1, 0, m.done.2) else ((m.use b).1, 0, (m.use b).2)
section
variable {w0 w : World} {B : Nat} {m : Meter}
set_option maxHeartbeats 4000000 in
theorem play_ms (h : Ms w0 B m w) (k b : Int) (hk : 0 ≤ k ∧ k ≤ 255) (hb0 : (Lit.int .i64 b).wf = true) (hm : 0 ≤ m.last ∧ m.last ≤ 4294967295) (hul : m.uses.length ≤ 1000000) (hbl : m.bl.length ≤ 1000000) :
    Calls Try.prog 9 #[.pointer (some ⟨B, 0, none⟩), .agg #[.int .u8 k, .int .i64 b]] w fun e w' => e = .returned (.tuple #[.int .u32 (Meter.step m k b).2.1, .int .i64 (Meter.step m k b).2.2]) ∧ Ms w0 B (Meter.step m k b).1 w' := by
  have ht : Int.tmod k 4 = k % 4 := Int.tmod_eq_emod_of_nonneg hk.1
  obtain ⟨q, hq⟩ : ∃ q, q = k % 4 := ⟨_, rfl⟩
  have hq4 : 0 ≤ q ∧ q < 4 := by omega
  have HS := Aside0.mk (h.below ((Below.refl _ _).alloc (Nat.le_refl _) (.cells #[.int .u8 k, .int .i64 b] 29)))
  have R18 := Aside0.mk (fun W (h : Ms w0 B m W) => reserve_ms h hm)
  have R19 := Aside0.mk (fun W (h : Ms w0 B m W) => use_ms h b hb0 hul hbl)
  have R20 := Aside0.mk (fun W (h : Ms w0 B m W) => done_ms h)
  unfold Meter.step
  rw [← hq] at ht ⊢
  have hw8 : IntKind.u8.wrap q = q := by simp [IntKind.wrap, IntKind.signed, IntKind.bits]; omega
  clear h hq hb0 hk hm hul hbl
  by_cases h0 : q = 0
  · rw [if_pos h0]
    subst h0
    go_enter Try.func9, Try.ntmps9
    go_wp2_with (go_at_call 18; refine (R18.out _ HS.out).mono ?_; rintro e w3 ⟨rfl, hM⟩; have H3 := Aside0.mk hM; clear hM HS)
    go_ret2
    exact ⟨rfl, H3.out⟩
  · rw [if_neg h0]
    have hb0 : (q == 0) = false := beq_eq_false_iff_ne.mpr h0
    by_cases h2 : q = 2
    · rw [if_pos h2]
      subst h2
      go_enter Try.func9, Try.ntmps9
      go_wp2_with (go_at_call 20; refine (R20.out _ HS.out).mono ?_; rintro e w3 ⟨rfl, hM⟩; have H3 := Aside0.mk hM; clear hM HS)
      go_ret2
      exact ⟨rfl, H3.out⟩
    · rw [if_neg h2]
      have hb2 : (q == 2) = false := beq_eq_false_iff_ne.mpr h2
      go_enter Try.func9, Try.ntmps9
      go_wp2_with (go_at_call 19; refine (R19.out _ HS.out).mono ?_; rintro e w3 ⟨rfl, hM⟩; have H3 := Aside0.mk hM; clear hM HS)
      go_ret2
      exact ⟨rfl, H3.out⟩
set_option maxHeartbeats 2000000 in
theorem short_calls (A : Option Addr) (n c : Nat) (hn : n ≤ c) (hc : c ≤ 9223372036854775807) (w : World) : Calls Try.prog 8 #[.slice A n c] w fun e w' => e = .returned (.slice A (min n 200) c) ∧ w' = w := by
  rcases Nat.lt_trichotomy n 200 with h | rfl | h
  · have h1 : ((n : Int) < 200) := by omega
    have h2 : (n : Int) ≤ c := by omega
    rw [Nat.min_eq_left (by omega)]
    go_enter Try.func8, Try.ntmps8
    go_wp2
    go_ret
    exact ⟨rfl, rfl⟩
  · have h3 : (200 : Int) ≤ c := by omega
    rw [Nat.min_eq_right (Nat.le_refl _)]
    go_enter Try.func8, Try.ntmps8
    go_wp2
    go_ret
    exact ⟨rfl, rfl⟩
  · have h1 : ¬ ((n : Int) < 200) := by omega
    have h4 : ¬ ((n : Int) ≤ 200) := by omega
    have h3 : (200 : Int) ≤ c := by omega
    rw [Nat.min_eq_right (by omega)]
    go_enter Try.func8, Try.ntmps8
    go_wp2
    go_ret
    exact ⟨rfl, rfl⟩
end
end Go.Proofs.Ytfbfloiflcjdjaa.EN
