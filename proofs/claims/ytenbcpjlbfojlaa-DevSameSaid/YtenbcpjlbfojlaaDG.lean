/- Crash. -/
import Derived.Test.YtenbcpjlbfojlaaDF
namespace Go.Proofs.Ytenbcpjlbfojlaa.DA
open Go.RowKit Go.Proofs.YtenbcpjlbfojlaaW.PrintWords Go.Proofs.YtenbcpjlbfojlaaW.PrintLast Go.Proofs.YtenbcpjlbfojlaaW.PrintMore Go.Proofs.Ytenbcpjlbfojlaa.PD
attribute [local go_sem] max2_int min2_int
set_option linter.unusedVariables false
set_option linter.unusedSimpArgs false
/-- How many of a torn write's bytes come, by 64. -/
def tornN (parts : Int) : Nat := (min (max parts 0) 4).toNat
theorem tornN_le (parts : Int) : tornN parts ≤ 4 := by unfold tornN; omega
/-- Whether a write comes. -/
def comes (keep : Int) (i : Nat) : Bool := keep / 2 ^ (i % 64) % 2 == 1
def crash1 (keep torn parts : Int) (b : List Int) (p : Wr × Nat) : List Int := if comes keep p.2 = true then lay b p.1 (if (p.2 : Int) = torn then 64 * tornN parts else 256) else b
def crashed (keep torn parts : Int) (bl : List Int) (ws : List Wr) : List Int := ws.zipIdx.foldl (crash1 keep torn parts) bl
theorem crashed_snoc (keep torn parts : Int) (bl : List Int) (ws : List Wr) (x : Wr) : crashed keep torn parts bl (ws ++ [x]) = crash1 keep torn parts (crashed keep torn parts bl ws) (x, ws.length) := by
  unfold crashed
  rw [List.zipIdx_append, List.foldl_append]
  simp
theorem and1 (x : Int) (h0 : 0 ≤ x) (h1 : x < 2 ^ 64) : bits .and .u64 x 1 = x % 2 := bits_mask .u64 64 (by decide) (fun n h0 h1 => by simp [IntKind.wrap, IntKind.signed, IntKind.bits]; omega) 1 (by decide) x h0 h1
theorem pow2_pos (r : Nat) : (0 : Int) < 2 ^ r := Int.pow_pos (by decide)
theorem keep_and (keep : Int) (i : Nat) (h : 0 ≤ keep ∧ keep ≤ 18446744073709551615) : bits .and .u64 (keep / 2 ^ (i % 64)) 1 = if comes keep i = true then 1 else 0 := by
  have h0 : 0 ≤ keep / 2 ^ (i % 64) := Int.ediv_nonneg h.1 (Int.le_of_lt (pow2_pos _))
  have h1 : keep / 2 ^ (i % 64) ≤ keep := Int.ediv_le_self _ h.1
  rw [and1 _ h0 (by omega)]
  unfold comes
  by_cases hb : keep / 2 ^ (i % 64) % 2 = 1
  · rw [hb]; rfl
  · rw [show keep / 2 ^ (i % 64) % 2 = 0 by omega]; rfl
section
variable {α : Type} {base B N : Nat} {d : Dv} {col col' : Nat → Nat} {w w' w1 : World} {vb vw vs vt : Value}
set_option maxHeartbeats 8000000 in
theorem crash_calls (keep torn parts : Int) (hkeep : 0 ≤ keep ∧ keep ≤ 18446744073709551615) (w : World) (h : Sd base B d col w vb vw vs vt) (hN : Wf d N) (hwl : d.waits.length ≤ 100000) :
    Calls Try.prog 10 #[.pointer (some ⟨B, 0, none⟩), .int .u64 keep, .int .i64 torn, .int .i64 parts] w fun e w' => e = .returned (.tuple #[]) ∧ SAfter base B ⟨crashed keep torn parts d.blocks d.waits, [], d.shelf, d.trace⟩ col w w' := by
  obtain ⟨Aw, cw, rfl⟩ := Kd.R_slice h.rw
  have h1 := h.c1
  obtain ⟨n, hn⟩ : ∃ n, n = d.waits.length := ⟨_, rfl⟩
  rw [← hn] at h1 hwl
  have HS := Aside0.mk h
  have HW := Aside0.mk hN
  have HN := Aside0.mk hn
  have HK := Aside0.mk hkeep
  obtain ⟨p0, hp0⟩ : ∃ p0, (if parts < 0 then 0 else parts) = p0 := ⟨_, rfl⟩
  obtain ⟨t, ht⟩ : ∃ t : Nat, t = tornN parts := ⟨_, rfl⟩
  have ht4 : t ≤ 4 := ht ▸ tornN_le parts
  have hp1 : (if 4 < p0 then 4 else p0) = (t : Int) := by
    rw [← hp0, ht]; unfold tornN
    repeat' split
    all_goals omega
  have hw64 : IntKind.i64.wrap (64 * (t : Int)) = 64 * (t : Int) := w64 _ (by omega) (by omega)
  have HT := Aside0.mk ht
  clear h hN hn hkeep ht
  go_enter Try.func10, Try.ntmps10
  go_wp2
  go_loopg [18] n (fun gk v18 w' => ∃ j : Nat, v18 = .int .i64 (j : Int) ∧ j + gk = n ∧ Aside0 ((crashed keep torn parts d.blocks (d.waits.take j)).length = N * 256 ∧ Sd base B ⟨crashed keep torn parts d.blocks (d.waits.take j), d.waits, d.shelf, d.trace⟩ col w' vb (.slice Aw d.waits.length cw) vs vt ∧ Kept w w' (fun k => col k ≠ 0) ∧ Below base w w'))
  case atStart => exact ⟨0, rfl, by omega, ⟨HW.out.of.1, HS.out, Kept.refl _ _, Below.refl _ _⟩⟩
  case round =>
    obtain ⟨j, rfl, hjn, HR⟩ := hrel
    by_cases hlt : j < n
    · have hj0 : (0 : Int) ≤ (j : Int) := by omega
      have hj1 : (j : Int) < (n : Int) := by omega
      have hj2 : decide ((j : Int) < (n : Int)) = true := decide_eq_true hj1
      have hjl : j < d.waits.length := by rw [← HN.out]; exact hlt
      obtain ⟨ad, Ab, cb, rfl, hx0, hx1, hxl, hxc⟩ := at_W (show Kd.C kW wr Aw n d.waits from HN.out ▸ (Kd.R_reads' HR.out.2.1.rw).2.2) j hlt
      have HTK := Aside0.mk (wAt_take hjl)
      have HJL := Aside0.mk (show (d.waits.take j).length = j by rw [List.length_take]; omega)
      obtain ⟨⟨hq0, hq1⟩, hb256⟩ := HW.out.ws _ (wAt_mem hjl)
      generalize hwt : wAt d.waits j = x at hx0 hx1 hxl hxc HTK hq0 hq1 hb256
      clear hwt
      rw [hb256] at hx1 hxl hxc
      obtain ⟨q, hq⟩ : ∃ q : Nat, x.n = (q : Int) := ⟨x.n.toNat, by omega⟩
      have HX := Aside0.mk (show x.n = (q : Int) ∧ x.b.length = 256 ∧ q < N from ⟨hq, hb256, by omega⟩)
      rw [hq] at hx0 hq1
      have hb := (Below.refl wr.heap.size wr).alloc (Nat.le_refl _) (.cells #[.int .i64 (q : Int), .slice Ab 256 cb] 71)
      obtain ⟨many, hmany⟩ : ∃ many, many = (if (j : Int) = torn then 64 * t else 256) := ⟨_, rfl⟩
      have hm256 : many ≤ 256 := by rw [hmany]; split <;> omega
      have HC0 := come_calls (N := N) q many Ab cb x.b _ (HR.out.2.1.below hb) ⟨HR.out.1, HW.out.of.2.1, HW.out.of.2.2⟩ (by omega) (Kd.C_below hxc hb) hxl hm256
      have hrem : Int.tmod (j : Int) 64 = ((j % 64 : Nat) : Int) := by rw [Int.tmod_eq_emod_of_nonneg (by omega)]; omega
      have hka := keep_and keep j HK.out
      obtain ⟨r, hr⟩ : ∃ r, r = j % 64 := ⟨_, rfl⟩
      rw [← hr] at hrem hka
      have hr0 : (0 : Int) ≤ (r : Int) := by omega
      have hr1 : (r : Int) ≤ 64 := by omega
      have HM := Aside0.mk hmany
      have HAL := Aside0.mk (And.intro (HR.out.2.2.1.alloc (.cells #[.int .i64 (q : Int), .slice Ab 256 cb] 71)) (HR.out.2.2.2.alloc (Nat.le_trans HR.out.2.1.hB (Nat.le_of_lt HR.out.2.1.bl)) (.cells #[.int .i64 (q : Int), .slice Ab 256 cb] 71)))
      have HSB := Aside0.mk (HR.out.2.1.below hb)
      have HC := Aside0.mk HC0
      clear hq hb256 hq0 hq1 hxc hb hxl HC0 hr
      by_cases hc : comes keep j = true
      · rw [if_pos hc] at hka
        have HCm := Aside0.mk hc
        clear hc
        by_cases htn : (j : Int) = torn
        · have htb : ((j : Int) == torn) = true := beq_iff_eq.mpr htn
          have HTN := Aside0.mk htn
          have hm2 : many = 64 * t := by rw [HM.out, if_pos htn]
          have HC2 : Aside0 (Calls Try.prog 27 #[.pointer (some ⟨B, 0, none⟩), .agg #[.int .i64 (q : Int), .slice Ab 256 cb], .int .i64 (64 * (t : Int))] (wr.alloc (.cells #[.int .i64 (q : Int), .slice Ab 256 cb] 71)) fun e w' => e = .returned (.tuple #[]) ∧ Over base B ⟨crashed keep torn parts d.blocks (d.waits.take j), d.waits, d.shelf, d.trace⟩ (splice (crashed keep torn parts d.blocks (d.waits.take j)) (q * 256) (x.b.take many)) col (wr.alloc (.cells #[.int .i64 (q : Int), .slice Ab 256 cb] 71)) w' vb (.slice (some ad) d.waits.length cw) vs vt) := ⟨by
            have h9 := HC.out
            rw [show ((many : Nat) : Int) = 64 * (t : Int) by rw [hm2]; omega] at h9
            exact h9⟩
          clear htn hm2 HC
          go_wp2_with (go_at_call 27; refine HC2.out.mono ?_; rintro e w3 ⟨rfl, hO⟩; have HO := Aside0.mk hO; clear hO)
          go_roundg (gk - 1)
          case measure => omega
          case rel =>
            obtain ⟨hS, hK, hB⟩ := HO.out
            have hfl : splice (crashed keep torn parts d.blocks (d.waits.take j)) (q * 256) (x.b.take many) = crashed keep torn parts d.blocks (d.waits.take (j + 1)) := by
              rw [HTK.out, crashed_snoc, HJL.out]
              unfold crash1
              rw [if_pos HCm.out]
              unfold lay
              rw [show x.n.toNat = q by have := HX.out.1; omega, ← HT.out, ← HM.out]
            simp only at hS
            rw [hfl] at hS
            refine ⟨j + 1, by go_num, by omega, ⟨?_, hS, HAL.out.1.then_ hK (fun k hk => .inl (by rw [hk]; decide)), HAL.out.2.trans hB⟩⟩
            rw [← hfl, length_splice _ _ _ (by rw [List.length_take, HX.out.2.1]; have := HR.out.1; have := HX.out.2.2; omega)]
            exact HR.out.1
        · have htb : ((j : Int) == torn) = false := beq_eq_false_iff_ne.mpr htn
          have HTN := Aside0.mk htn
          have hm2 : many = 256 := by rw [HM.out, if_neg htn]
          rw [hm2] at HC
          clear htn
          go_wp2_with (go_at_call 27; refine HC.out.mono ?_; rintro e w3 ⟨rfl, hO⟩; have HO := Aside0.mk hO; clear hO)
          go_roundg (gk - 1)
          case measure => omega
          case rel =>
            obtain ⟨hS, hK, hB⟩ := HO.out
            have hfl : splice (crashed keep torn parts d.blocks (d.waits.take j)) (q * 256) (x.b.take 256) = crashed keep torn parts d.blocks (d.waits.take (j + 1)) := by
              rw [HTK.out, crashed_snoc, HJL.out]
              unfold crash1
              rw [if_pos HCm.out]
              unfold lay
              rw [show x.n.toNat = q by have := HX.out.1; omega, if_neg HTN.out]
            simp only at hS
            rw [hfl] at hS
            refine ⟨j + 1, by go_num, by omega, ⟨?_, hS, HAL.out.1.then_ hK (fun k hk => .inl (by rw [hk]; decide)), HAL.out.2.trans hB⟩⟩
            rw [← hfl, length_splice _ _ _ (by rw [List.length_take, HX.out.2.1]; have := HR.out.1; have := HX.out.2.2; omega)]
            exact HR.out.1
      · rw [if_neg hc] at hka
        have HCm := Aside0.mk hc
        clear hc HC
        by_cases htn : (j : Int) = torn
        · have htb : ((j : Int) == torn) = true := beq_iff_eq.mpr htn
          clear htn
          go_wp2
          go_roundg (gk - 1)
          case measure => omega
          case rel =>
            have hfl : crashed keep torn parts d.blocks (d.waits.take j) = crashed keep torn parts d.blocks (d.waits.take (j + 1)) := by
              rw [HTK.out, crashed_snoc, HJL.out]
              unfold crash1
              rw [if_neg HCm.out]
            have hS := HSB.out
            have hl := HR.out.1
            rw [hfl] at hS hl
            exact ⟨j + 1, by go_num, by omega, ⟨hl, hS, HAL.out.1, HAL.out.2⟩⟩
        · have htb : ((j : Int) == torn) = false := beq_eq_false_iff_ne.mpr htn
          clear htn
          go_wp2
          go_roundg (gk - 1)
          case measure => omega
          case rel =>
            have hfl : crashed keep torn parts d.blocks (d.waits.take j) = crashed keep torn parts d.blocks (d.waits.take (j + 1)) := by
              rw [HTK.out, crashed_snoc, HJL.out]
              unfold crash1
              rw [if_neg HCm.out]
            have hS := HSB.out
            have hl := HR.out.1
            rw [hfl] at hS hl
            exact ⟨j + 1, by go_num, by omega, ⟨hl, hS, HAL.out.1, HAL.out.2⟩⟩
    · obtain rfl : j = n := by omega
      have hge : decide ((j : Int) < (j : Int)) = false := decide_eq_false (by omega)
      obtain ⟨hfl, hS, hK, hB⟩ := HR.out
      rw [HN.out, List.take_length] at hfl hS
      obtain ⟨col2, hS2, hc2, hk2, hb2⟩ := hS.put1 (w1 := wr) (l := []) (v4 := .slice none 0 0) (Kd.R_nil _ _ _ _ _) (Kept.refl _ _) (Below.refl _ _)
      have hfz := blk_frozen hS.box 1
      have hcz := hS.c1
      rw [← HN.out] at hcz
      have HA := Aside0.mk (show SAfter base B ⟨crashed keep torn parts d.blocks d.waits, [], d.shelf, d.trace⟩ col w (wr.setCell ⟨B, 1, none⟩ (.slice none 0 0)) from
        ⟨col2, _, _, _, _, hS2, fun k hk => (hc2 k hk).imp id (fun h9 => Nat.le_trans hK.1 h9), hK.then_ hk2 (fun k hk => .inl hk), hB.trans hb2⟩)
      clear hS hK hB hS2 hc2 hk2 hb2 hfl HR
      go_wp2
      go_end0
      exact ⟨rfl, HA.out⟩
end
end Go.Proofs.Ytenbcpjlbfojlaa.DA
