/- Flush and Crash. -/
import Derived.Test.YtenbcpjlbfojlaaDE
namespace Go.Proofs.Ytenbcpjlbfojlaa.DA
open Go.RowKit Go.Proofs.YtenbcpjlbfojlaaW.PrintWords Go.Proofs.YtenbcpjlbfojlaaW.PrintLast Go.Proofs.YtenbcpjlbfojlaaW.PrintMore Go.Proofs.Ytenbcpjlbfojlaa.PD
set_option linter.unusedVariables false
set_option linter.unusedSimpArgs false
def zW : Wr := ⟨0, []⟩
def wAt (xs : List Wr) (i : Nat) : Wr := xs.getD i zW
theorem at_W {w : World} {A : Option Addr} {n : Nat} {xs : List Wr} (h : Kd.C kW w A n xs) (i : Nat) (h1 : i < n) : ∃ ad Ab cb, A = some ad ∧ w.cell? (ad.add (i * 2)) = some (.int .i64 (wAt xs i).n) ∧ w.cell? ⟨(ad.add (i * 2)).block, (ad.add (i * 2)).off + 1, none⟩ = some (.slice Ab (wAt xs i).b.length cb) ∧ (wAt xs i).b.length ≤ cb ∧ Kd.C kb w Ab (wAt xs i).b.length (wAt xs i).b := by
  obtain ⟨ad, c, e, _, hK, hc0⟩ := Kd.C_get h zW i (by omega) (by omega)
  have hc : ∀ j u, c[j]? = some u → w.cell? (ad.add (i * 2 + j)) = some u := hc0
  obtain ⟨Ab, cb, rfl, hl, hr⟩ := kW_open hK
  exact ⟨ad, Ab, cb, e, hc 0 _ rfl, by rw [← add_field _ _ 1 (by omega)]; exact hc 1 _ rfl, hl, hr⟩
theorem wAt_mem {xs : List Wr} {j : Nat} (h : j < xs.length) : wAt xs j ∈ xs := by
  unfold wAt
  rw [List.getD_eq_getElem?_getD, List.getElem?_eq_getElem h]
  exact List.getElem_mem h
theorem wAt_take {xs : List Wr} {k : Nat} (h : k < xs.length) : xs.take (k + 1) = xs.take k ++ [wAt xs k] := by
  rw [List.take_succ_eq_append_getElem h]; simp [wAt, List.getD_eq_getElem?_getD, List.getElem?_eq_getElem h]
/-- What holds of a store of N blocks. -/
structure Wf (d : Dv) (N : Nat) : Prop where
  of : Of d N
  ws : ∀ x ∈ d.waits, (0 ≤ x.n ∧ x.n < N) ∧ x.b.length = 256
  sh : ∀ s ∈ d.shelf, s.length = N * 256
  sl : d.shelf.length ≤ 16
/-- A write comes, or its first bytes. -/
def lay (bl : List Int) (x : Wr) (many : Nat) : List Int := splice bl (x.n.toNat * 256) (x.b.take many)
theorem lay_len {bl : List Int} {x : Wr} {many N : Nat} (hb : bl.length = N * 256) (hx : (0 ≤ x.n ∧ x.n < N) ∧ x.b.length = 256) : (lay bl x many).length = N * 256 := by
  unfold lay
  rw [length_splice _ _ _ (by rw [List.length_take]; have := hx.1; omega)]
  exact hb
def flushed (bl : List Int) (ws : List Wr) : List Int := ws.foldl (fun b x => lay b x 256) bl
theorem flushed_snoc (bl : List Int) (ws : List Wr) (x : Wr) : flushed bl (ws ++ [x]) = lay (flushed bl ws) x 256 := by unfold flushed; rw [List.foldl_append]; rfl
section
variable {α : Type} {base B N : Nat} {d : Dv} {col col' : Nat → Nat} {w w' w1 : World} {vb vw vs vt : Value}
set_option maxHeartbeats 8000000 in
theorem flush_calls (w : World) (h : Sd base B d col w vb vw vs vt) (hN : Wf d N) (hwl : d.waits.length ≤ 100000) (htl : d.trace.length < 100000) :
    Calls Try.prog 9 #[.pointer (some ⟨B, 0, none⟩)] w fun e w' => e = .returned (.int .i64 (d.waits.length : Int)) ∧ SAfter base B ⟨flushed d.blocks d.waits, [], d.shelf, d.trace ++ [-1]⟩ col w w' := by
  obtain ⟨Aw, cw, rfl⟩ := Kd.R_slice h.rw
  have h1 := h.c1
  obtain ⟨n, hn⟩ : ∃ n, n = d.waits.length := ⟨_, rfl⟩
  rw [← hn] at h1 hwl ⊢
  have hz : ((N : Int) == 0) = false := beq_eq_false_iff_ne.mpr (by have := hN.of.2.1; omega)
  have HL := Aside0.mk (len_calls w h hN.of)
  have HS := Aside0.mk h
  have HW := Aside0.mk hN
  have HN := Aside0.mk hn
  have HT := Aside0.mk htl
  clear h hN hn htl
  go_enter Try.func9, Try.ntmps9
  go_wp2_with (go_at_call 19; refine HL.out.mono ?_; rintro e w2 ⟨rfl, rfl⟩)
  go_loopg [19] n (fun gk v19 w' => ∃ j : Nat, v19 = .int .i64 (j : Int) ∧ j + gk = n ∧ Aside0 ((flushed d.blocks (d.waits.take j)).length = N * 256 ∧ Sd base B ⟨flushed d.blocks (d.waits.take j), d.waits, d.shelf, d.trace⟩ col w' vb (.slice Aw d.waits.length cw) vs vt ∧ Kept w w' (fun k => col k ≠ 0) ∧ Below base w w'))
  case atStart => exact ⟨0, rfl, by omega, ⟨HW.out.of.1, HS.out, Kept.refl _ _, Below.refl _ _⟩⟩
  case round =>
    obtain ⟨j, rfl, hjn, HR⟩ := hrel
    by_cases hlt : j < n
    · have hj0 : (0 : Int) ≤ (j : Int) := by omega
      have hj1 : (j : Int) < (n : Int) := by omega
      have hj2 : decide ((j : Int) < (n : Int)) = true := decide_eq_true hj1
      have hjl : j < d.waits.length := by rw [← HN.out]; exact hlt
      obtain ⟨ad, Ab, cb, rfl, hx0, hx1, hxl, hxc⟩ := at_W (show Kd.C kW wr Aw n d.waits from HN.out ▸ (Kd.R_reads' HR.out.2.1.rw).2.2) j hlt
      have HTK := Aside0.mk (wAt_take hjl)
      obtain ⟨⟨hq0, hq1⟩, hb256⟩ := HW.out.ws _ (wAt_mem hjl)
      generalize hwt : wAt d.waits j = x at hx0 hx1 hxl hxc HTK hq0 hq1 hb256
      clear hwt
      rw [hb256] at hx1 hxl hxc
      obtain ⟨q, hq⟩ : ∃ q : Nat, x.n = (q : Int) := ⟨x.n.toNat, by omega⟩
      have HX := Aside0.mk (show x.n = (q : Int) ∧ x.b.length = 256 ∧ q < N from ⟨hq, hb256, by omega⟩)
      rw [hq] at hx0 hq1
      have hb := (Below.refl wr.heap.size wr).alloc (Nat.le_refl _) (.cells #[.int .i64 (q : Int), .slice Ab 256 cb] 71)
      have HC := Aside0.mk (come_calls (N := N) q 256 Ab cb x.b _ (HR.out.2.1.below hb) ⟨HR.out.1, HW.out.of.2.1, HW.out.of.2.2⟩ (by omega) (Kd.C_below hxc hb) hxl (Nat.le_refl _))
      clear hq hb256 hq0 hq1 hxc hb hxl
      go_wp2_with (go_at_call 27; refine HC.out.mono ?_; rintro e w3 ⟨rfl, hO⟩; have HO := Aside0.mk hO; clear hO)
      go_roundg (gk - 1)
      case measure => omega
      case rel =>
        obtain ⟨hS, hK, hB⟩ := HO.out
        have hfl : splice (flushed d.blocks (d.waits.take j)) (q * 256) (x.b.take 256) = flushed d.blocks (d.waits.take (j + 1)) := by
          rw [HTK.out, flushed_snoc]
          unfold lay
          rw [show x.n.toNat = q by have := HX.out.1; omega]
        simp only at hS
        rw [hfl] at hS
        refine ⟨j + 1, by go_num, by omega, ⟨?_, hS, ?_, ?_⟩⟩
        · rw [← hfl, length_splice _ _ _ (by rw [List.length_take, HX.out.2.1]; have := HR.out.1; have := HX.out.2.2; omega)]
          exact HR.out.1
        · exact (HR.out.2.2.1.alloc _).then_ hK (fun k hk => .inl (by rw [hk]; decide))
        · exact (HR.out.2.2.2.alloc (Nat.le_trans HR.out.2.1.hB (Nat.le_of_lt HR.out.2.1.bl)) _).trans hB
    · obtain rfl : j = n := by omega
      have hge : decide ((j : Int) < (j : Int)) = false := decide_eq_false (by omega)
      obtain ⟨hfl, hS, hK, hB⟩ := HR.out
      rw [HN.out, List.take_length] at hfl hS
      obtain ⟨col2, hS2, hc2, hk2, hb2⟩ := hS.put1 (w1 := wr) (l := []) (v4 := .slice none 0 0) (Kd.R_nil _ _ _ _ _) (Kept.refl _ _) (Below.refl _ _)
      have hfz := blk_frozen hS.box 1
      have hcz := hS.c1
      rw [← HN.out] at hcz
      have HS2 := Aside0.mk hS2
      have HAC := Aside0.mk (show (∀ k, col2 k ≠ 0 → col k ≠ 0 ∨ w.heap.size ≤ k) ∧ Kept w (wr.setCell ⟨B, 1, none⟩ (.slice none 0 0)) (fun k => col k ≠ 0) ∧ Below base w (wr.setCell ⟨B, 1, none⟩ (.slice none 0 0)) from
        ⟨fun k hk => (hc2 k hk).imp id (fun h9 => Nat.le_trans hK.1 h9), hK.then_ hk2 (fun k hk => .inl hk), hB.trans hb2⟩)
      clear hS hK hB hS2 hc2 hk2 hb2 hfl HR
      go_wp2_with (go_at_call 28; refine (note_calls (-1) _ HS2.out HT.out).mono ?_; rintro e w3 ⟨rfl, hA⟩; have HA := Aside0.mk hA; clear hA)
      go_ret
      exact ⟨rfl, SAfter.then_ HAC.out HA.out⟩
end
end Go.Proofs.Ytenbcpjlbfojlaa.DA
