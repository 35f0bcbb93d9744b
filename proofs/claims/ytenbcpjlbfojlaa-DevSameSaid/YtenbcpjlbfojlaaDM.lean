/- slices.Backward over what waits: the iterator's contract. -/
import Derived.Test.YtenbcpjlbfojlaaDL
import Derived.RangeFuncNested
import Derived.RangeFuncBox
import Derived.RangeFuncBound
import Derived.RangeFuncCalls
import Derived.RangeFuncLeaves
import Derived.Shelf.Abstract
import Derived.Shelf.RegionOpen
import Derived.OwnWalkIn
import Derived.TacticsInMore
import Derived.LoopNIn
import Derived.LoopIn
namespace Go.Proofs.Ytenbcpjlbfojlaa.DA
open Go.RowKit Go.Shelf Go.Proofs.YtenbcpjlbfojlaaW.PrintWords Go.Proofs.YtenbcpjlbfojlaaW.PrintLast Go.Proofs.YtenbcpjlbfojlaaW.PrintMore Go.Proofs.Ytenbcpjlbfojlaa.PD
attribute [local go_sem] Oper.semAt_some
set_option linter.unusedVariables false
set_option linter.unusedSimpArgs false
/-- len - 1, len - 2, ..: k of them. -/
def down (len k : Nat) : List Nat := (List.range k).map (fun j => len - 1 - j)
theorem down_succ (len k : Nat) : down len (k + 1) = down len k ++ [len - 1 - k] := by simp [down, List.range_succ]
theorem down_length (len k : Nat) : (down len k).length = k := by simp [down]
/-- What the iterator hands over at i. -/
def enW (nn : Nat → Int) (sv : Nat → Value) (i : Nat) : Array Value := #[.int .i64 (i : Int), .agg #[.int .i64 (nn i), sv i]]
set_option maxRecDepth 100000 in
set_option maxHeartbeats 4000000 in
theorem back1_in (F : Fence) (n : Nat) (h42 : F.fn 42) (hro : F.round = none) (hn : 1 ≤ n) (l Bs n₀ len cap : Nat) (A : Option Addr) (ad : Addr) (nn : Nat → Int) (sv : Nat → Value) (hlen : len ≤ 100000) (hA : 0 < len → A = some ad ∧ ad.block < n₀) (J Jx : List Nat → World → Prop)
    (hY : ∀ pre x W, J pre W → pre.length < len → YieldAt F (n - 1) Try.prog l (enW nn sv x) W fun e W' =>
      (e = .returned (.bool true) ∧ J (pre ++ [x]) W' ∧ Below n₀ W W') ∨ (e = .returned (.bool false) ∧ Jx (pre ++ [x]) W'))
    (W : World) (hBs : W.cell? ⟨Bs, 0, none⟩ = some (.slice A len cap)) (hBn : Bs < n₀) (hsv : ∀ i, (sv i).oneCell' = true)
    (hc : ∀ j, j < len → W.cell? (ad.add (j * 2)) = some (.int .i64 (nn j)) ∧ W.cell? ⟨(ad.add (j * 2)).block, (ad.add (j * 2)).off + 1, none⟩ = some (sv j)) (h0 : J [] W) :
    CallsIn F n Try.prog 42 #[.func (.yield l) #[] #[], .pointer (some ⟨Bs, 0, none⟩)] W fun e W' => (∃ v, e = .returned v) ∧
      ((∃ ys, ys = down len len ∧ J ys W') ∨ (∃ pre, (∃ k, k ≤ len ∧ pre = down len k) ∧ Jx pre W')) := by
  have hwl : IntKind.i64.wrap ((len : Int) - 1) = (len : Int) - 1 := w64 _ (by omega) (by omega)
  rcases Nat.eq_zero_or_pos len with rfl | hpl
  · refine callsIn_of_wp Try.func42 rfl h42 ?_ hro
    simp only [Try.ntmps42, List.size_toArray, List.length_cons, List.length_nil, Nat.reduceAdd, Nat.reduceSub, Array.replicate_succ, Array.replicate_zero, List.push_toArray, List.append_toArray, List.nil_append, List.cons_append]
    have hw1 : IntKind.i64.wrap (-1) = -1 := rfl
    clear hwl
    gi_wp2
    gi_loopw [3] (fun i wr => i = .int .i64 (-1) ∧ J [] wr) (fun _ _ => 0)
    case atStart => exact ⟨rfl, h0⟩
    case round =>
      obtain ⟨rfl, hJs⟩ := hrel
      gi_wp2
      go_end0
      exact ⟨⟨_, rfl⟩, .inl ⟨[], rfl, hJs⟩⟩
  obtain ⟨rfl, hb⟩ := hA hpl
  refine callsIn_of_wp Try.func42 rfl h42 ?_ hro
  simp only [Try.ntmps42, List.size_toArray, List.length_cons, List.length_nil, Nat.reduceAdd, Nat.reduceSub, Array.replicate_succ, Array.replicate_zero, List.push_toArray, List.append_toArray, List.nil_append, List.cons_append]
  gi_wp2
  gi_loopw [3] (fun i wr => ∃ r : Nat, r ≤ len ∧ i = .int .i64 ((r : Int) - 1) ∧ J (down len (len - r)) wr ∧ Below n₀ W wr)
    (fun i _ => (intOf i + 1).toNat)
  case atStart => exact ⟨len, Nat.le_refl _, rfl, by rw [Nat.sub_self]; exact h0, Below.refl _ _⟩
  case round =>
    obtain ⟨r, hr, hi, hJs, hnx⟩ := hrel
    have hBs' : wr.cell? ⟨Bs, 0, none⟩ = some (.slice (some ad) len cap) := (hnx.cell (p := ⟨Bs, 0, none⟩) hBn).trans hBs
    rcases Nat.eq_zero_or_pos r with rfl | hp
    · rw [show (((0 : Nat) : Int) - 1) = -1 by omega] at hi
      subst hi
      gi_wp2
      go_end0
      exact ⟨⟨_, rfl⟩, .inl ⟨_, by rw [Nat.sub_zero], hJs⟩⟩
    · obtain ⟨s, rfl⟩ : ∃ s, r = s + 1 := ⟨r - 1, by omega⟩
      rw [show (((s + 1 : Nat) : Int) - 1) = (s : Int) by omega] at hi
      subst hi
      have hs0 : (0 : Int) ≤ (s : Int) := by omega
      have hs1 : (s : Int) < (len : Int) := by omega
      have hs2 : decide ((s : Int) ≥ 0) = true := decide_eq_true hs0
      obtain ⟨hc0, hc1⟩ := hc s (by omega)
      have hx0 : wr.cell? (ad.add (s * 2)) = some (.int .i64 (nn s)) := (hnx.cell (by rw [add_block]; exact hb)).trans hc0
      have hx1 : wr.cell? ⟨(ad.add (s * 2)).block, (ad.add (s * 2)).off + 1, none⟩ = some (sv s) := (hnx.cell (by show (ad.add (s * 2)).block < n₀; rw [add_block]; exact hb)).trans hc1
      have hws : IntKind.i64.wrap ((s : Int) - 1) = (s : Int) - 1 := w64 _ (by omega) (by omega)
      obtain ⟨fn, tmps, assign, body, hy, hR⟩ := hY _ s wr hJs (by rw [down_length]; omega)
      dsimp only [enW] at hy
      gi_wp2
      refine hR.mono ?_
      rintro e W3 (⟨rfl, hJ3, hk3⟩ | ⟨rfl, hJx3⟩)
      · have hds : down len (len - s) = down len (len - (s + 1)) ++ [s] := by
          rw [show len - s = (len - (s + 1)) + 1 by omega, down_succ, show len - 1 - (len - (s + 1)) = s by omega]
        gi_wp2
        go_roundw
        case rel => exact ⟨s, by omega, rfl, by rw [hds]; exact hJ3, hnx.trans hk3⟩
        case measure => simp [intOf]
      · gi_wp2
        refine bodyPost_ret (results_none rfl _ _ _) rfl ?_
        refine ⟨⟨_, rfl⟩, .inr ⟨_, ⟨len - s, by omega, rfl⟩, ?_⟩⟩
        rw [show len - s = (len - (s + 1)) + 1 by omega, down_succ, show len - 1 - (len - (s + 1)) = s by omega]
        exact hJx3
theorem down_le {len k i : Nat} (hk : k ≤ len) (h : i ∈ down len k) : i < len := by
  unfold down at h
  obtain ⟨j, hj, rfl⟩ := List.mem_map.1 h
  have := List.mem_range.1 hj
  omega
/-- The iterator hands over each write that waits, the last one first; or stops. -/
theorem back_stops (F : Fence) (n : Nat) (h42 : F.fn 42) (hro : F.round = none) (hn : 1 ≤ n) (Bs n₀ len cap : Nat) (A : Option Addr) (ad : Addr) (nn : Nat → Int) (sv : Nat → Value) (hlen : len ≤ 100000) (hA : 0 < len → A = some ad ∧ ad.block < n₀) (w : World) (hBn : Bs < n₀) (hn₀ : n₀ ≤ w.heap.size)
    (hBs : w.cell? ⟨Bs, 0, none⟩ = some (.slice A len cap)) (hsv : ∀ i, (sv i).oneCell' = true)
    (hc : ∀ j, j < len → w.cell? (ad.add (j * 2)) = some (.int .i64 (nn j)) ∧ w.cell? ⟨(ad.add (j * 2)).block, (ad.add (j * 2)).off + 1, none⟩ = some (sv j)) :
    SeqStopsK F n Try.prog 42 #[.pointer (some ⟨Bs, 0, none⟩)] (enW nn sv) (Below n₀) (fun ys => ys = down len len)
      (fun pre => ∃ k, k ≤ len ∧ pre = down len k) len w := fun l J Jx W hW _ _ hY h0 => by
  have hW' : Below n₀ w W := hW.mono hn₀
  refine back1_in F n h42 hro hn l Bs n₀ len cap A ad nn sv hlen hA J Jx hY W ((hW'.cell (p := ⟨Bs, 0, none⟩) hBn).trans hBs) hBn hsv (fun j hj => ?_) h0
  obtain ⟨h1, h2⟩ := hc j hj
  have hb := (hA (by omega)).2
  exact ⟨(hW'.cell (by rw [add_block]; exact hb)).trans h1, (hW'.cell (by show (ad.add (j * 2)).block < n₀; rw [add_block]; exact hb)).trans h2⟩
set_option maxHeartbeats 1000000 in
theorem backward_in (F : Fence) (n : Nat) (h31 : F.fn 31) (hro : F.round = none) (a : Option Addr) (len cap : Nat) (w : World) :
    CallsIn F n Try.prog 31 #[.slice a len cap] w fun e w' => e = .returned (.func (.func 42) #[] #[.pointer (some ⟨w.heap.size, 0, none⟩)]) ∧ w' = w.alloc (.cells #[.slice a len cap] 60) := by
  refine callsIn_of_wp Try.func31 rfl h31 ?_ hro
  simp only [Try.ntmps31, List.size_toArray, List.length_cons, List.length_nil, Nat.reduceAdd, Nat.reduceSub, Array.replicate_succ, Array.replicate_zero, List.push_toArray, List.append_toArray, List.nil_append, List.cons_append]
  gi_wp2
  go_ret
  exact ⟨rfl, rfl⟩
end Go.Proofs.Ytenbcpjlbfojlaa.DA
