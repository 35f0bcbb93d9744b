/- The document's Read. -/
import Derived.Test.YtenbcpjlbfojlaaDX
namespace Go.Proofs.Ytenbcpjlbfojlaa.DA
open Go.RowKit Go.Proofs.YtenbcpjlbfojlaaW.PrintWords Go.Proofs.YtenbcpjlbfojlaaW.PrintLast Go.Proofs.YtenbcpjlbfojlaaW.PrintMore Go.Proofs.Ytenbcpjlbfojlaa.PD
set_option linter.unusedVariables false
set_option linter.unusedSimpArgs false
section
variable {α : Type} {base RB N : Nat} {d : Dv} {RS RS' : Nat → Prop} {w w' w1 : World} {vb vw vs vt : Value}
theorem rread_bad (n : Int) (w : World) (h : Rm base RB N d RS w vb vw vs vt) (hq : n < 0 ∨ (N : Int) ≤ n) :
    Calls Try.prog 32 #[.pointer (some ⟨RB, 0, none⟩), .int .i64 n] w fun e w' => e = .returned (.tuple #[.slice none 0 0, .int .i64 1]) ∧ w = w' := by
  have h0 := h.c0
  by_cases g1 : n < 0
  · have b1 : decide (n < 0) = true := decide_eq_true g1
    clear hq g1 h
    go_enter Try.func32, Try.ntmps32
    go_wp2
    go_ret2
    exact ⟨rfl, rfl⟩
  · have b1 : decide (n < 0) = false := decide_eq_false g1
    have b2 : decide (n ≥ (N : Int)) = true := decide_eq_true (by omega)
    have b2' : decide ((N : Int) ≤ n) = true := decide_eq_true (by omega)
    clear hq g1 h
    go_enter Try.func32, Try.ntmps32
    go_wp2
    go_ret2
    exact ⟨rfl, rfl⟩
set_option maxRecDepth 100000 in
set_option maxHeartbeats 8000000 in
theorem rread_good (q : Nat) (w : World) (h : Rm base RB N d RS w vb vw vs vt) (hN : Of d N) (hq : q < N) (hwl : d.waits.length ≤ 100000) (hw2 : ∀ y ∈ d.waits, y.b.length = 256) :
    Calls Try.prog 32 #[.pointer (some ⟨RB, 0, none⟩), .int .i64 (q : Int)] w fun e w' => (∃ A c, e = .returned (.tuple #[.slice A 256 c, .int .i64 0]) ∧ 256 ≤ c ∧ Kd.C kb w A 256 (got d (q : Int))) ∧ w = w' := by
  obtain ⟨Aw, cw, rfl⟩ := Kd.R_slice h.rw
  obtain ⟨Ab, cb, rfl⟩ := Kd.R_slice h.rb
  obtain ⟨hN1, hN2, hN3⟩ := hN
  have h0 := h.c0
  have h1 := h.c1
  have h2 := h.c2
  have hcap := (Kd.R_reads' h.rb).2.1
  have hCB := (Kd.R_reads' h.rb).2.2
  have HCW := Aside0.mk (Kd.R_reads' h.rw).2.2
  obtain ⟨i0, hi0, _, hsz0, _⟩ := info_parts info5
  have hcut := cut_mid (P := Try.prog) 35 5 .i64 .i64 Try.underlying35 hi0 1 hsz0 Ab d.blocks.length cb ((q : Int) * 256) ((q : Int) * 256 + 256) (by omega) (by omega) (by omega) hcap
  rw [show ((q : Int) * 256).toNat = q * 256 by omega, show ((q : Int) * 256 + 256).toNat - q * 256 = 256 by omega] at hcut
  have hdl : ((d.blocks.drop (q * 256)).take 256).length = 256 := by rw [List.length_take, List.length_drop]; omega
  have hC2 := Kd.C_take (m := 256) (Kd.C_drop (m := q * 256) hCB (by omega) hcap) (by rw [List.length_drop]; omega)
  rw [hdl] at hC2
  have hC3 : Kd.C kb w (if cb = q * 256 then Ab else Ab.map (·.add (q * 256 * 1))) 256 (blk d.blocks q) := hC2
  generalize (if cb = q * 256 then Ab else Ab.map (·.add (q * 256 * 1))) = A' at hcut hC3
  have hca : 256 ≤ cb - q * 256 := by omega
  have hw1 : IntKind.i64.wrap ((q : Int) * 256) = (q : Int) * 256 := w64 _ (by omega) (by omega)
  have hw3 : IntKind.i64.wrap ((q : Int) * 256 + 256) = (q : Int) * 256 + 256 := w64 _ (by omega) (by omega)
  have b1 : decide ((q : Int) < 0) = false := decide_eq_false (by omega)
  have b2 : decide ((q : Int) ≥ (N : Int)) = false := decide_eq_false (by omega)
  have b2' : decide ((N : Int) ≤ (q : Int)) = false := decide_eq_false (by omega)
  have b3 : decide (q ≥ N) = false := decide_eq_false (by omega)
  have b3' : decide (N ≤ q) = false := decide_eq_false (by omega)
  obtain ⟨L, hL⟩ : ∃ L, L = d.blocks.length := ⟨_, rfl⟩
  obtain ⟨n, hn⟩ : ∃ n, n = d.waits.length := ⟨_, rfl⟩
  rw [← hL] at hcut h1
  rw [← hn] at h2 hwl
  have HN := Aside0.mk hn
  have HG := Aside0.mk (And.intro hca hC3)
  have HW2 := Aside0.mk hw2
  clear h hcap hCB hi0 hsz0 hdl hC2 hC3 hL hn hca hw2 hN1 hN2 hN3
  go_enter Try.func32, Try.ntmps32
  go_wp2
  go_loopg [6, 7] n (fun gk v6 v7 w' => ∃ (i : Nat) (A9 : Option Addr) (c9 : Nat), v6 = .slice A9 256 c9 ∧ v7 = .int .i64 (i : Int) ∧ i + gk = n ∧ w = w' ∧ Aside0 (256 ≤ c9 ∧ Kd.C kb w A9 256 (gotW d.blocks (d.waits.take i) q)))
  case atStart => exact ⟨0, _, _, rfl, rfl, by omega, rfl, HG⟩
  case round =>
    clear HG
    obtain ⟨i, A9, c9, rfl, rfl, hig, rfl, HR⟩ := hrel
    by_cases hlt : i < n
    · have hi0 : (0 : Int) ≤ (i : Int) := by omega
      have hi1 : (i : Int) < (n : Int) := by omega
      have hi2 : decide ((i : Int) < (n : Int)) = true := decide_eq_true hi1
      have hil : i < d.waits.length := by rw [← HN.out]; exact hlt
      have HT := Aside0.mk (wAt_take hil)
      have hl6 := HW2.out _ (wAt_mem hil)
      obtain ⟨aw, Ax, cx, rfl, hx0, hx1, hx2, hx3⟩ := at_W HCW.out i hil
      rw [hl6] at hx1 hx2 hx3
      have HX := Aside0.mk (And.intro hx2 hx3)
      generalize wAt d.waits i = x at hx0 hx1 HT HX
      obtain ⟨m, b⟩ := x
      simp only at hx0 hx1
      clear hl6 hx2 hx3
      by_cases hm : m = (q : Int)
      · have hb : (m == (q : Int)) = true := beq_iff_eq.mpr hm
        have HM := Aside0.mk hm
        clear hm
        go_wp2
        go_roundg (gk - 1)
        case measure => omega
        case rel => exact ⟨i + 1, _, _, rfl, by go_num, by omega, rfl, ⟨HX.out.1, by rw [HT.out, gotW_snoc, if_pos HM.out]; exact HX.out.2⟩⟩
      · have hb : (m == (q : Int)) = false := beq_eq_false_iff_ne.mpr hm
        have HM := Aside0.mk hm
        clear hm
        go_wp2
        go_roundg (gk - 1)
        case measure => omega
        case rel => exact ⟨i + 1, _, _, rfl, by go_num, by omega, rfl, ⟨HR.out.1, by rw [HT.out, gotW_snoc, if_neg HM.out]; exact HR.out.2⟩⟩
    · obtain rfl : i = n := by omega
      have hge : decide ((i : Int) < (i : Int)) = false := decide_eq_false (by omega)
      go_wp2
      go_ret2
      exact ⟨⟨_, _, rfl, HR.out.1, by rw [got_W]; have h9 := HR.out.2; rw [HN.out, List.take_length] at h9; exact h9⟩, rfl⟩
end
end Go.Proofs.Ytenbcpjlbfojlaa.DA
