/- What was written last is read. -/
import Derived.Test.YtenbcpjlbfojlaaDR
namespace Go.Proofs.Ytenbcpjlbfojlaa.DA
open Go.RowKit Go.Proofs.YtenbcpjlbfojlaaW.PrintWords Go.Proofs.YtenbcpjlbfojlaaW.PrintLast Go.Proofs.YtenbcpjlbfojlaaW.PrintMore Go.Proofs.Ytenbcpjlbfojlaa.PD
set_option linter.unusedVariables false
set_option linter.unusedSimpArgs false
section
variable {w0 w w' : World} {B N : Nat} {d : Dv} {KS : List Nat}
theorem has_at {has : List Int} {m : Nat} (h : has.length = m) {k : Nat} (hk : k < m) : ((has.map (Value.int .u8)).toArray)[k]? = some (.int .u8 (rd has (k : Int))) := by
  unfold rd
  rw [Int.toNat_natCast, List.getD_eq_getElem?_getD, List.getElem?_toArray, List.getElem?_map, List.getElem?_eq_getElem (by omega)]
  simp
theorem has_set {has : List Int} {n : Nat} {x : Int} : ((has.map (Value.int .u8)).toArray).setIfInBounds n (.int .u8 x) = ((has.set n x).map (Value.int .u8)).toArray := by
  rw [List.map_set]
  simp
theorem blk_cell_below {a : Addr} {v : Value} (h : w.cell? a = some v) (hb : Below w.heap.size w w') : w'.cell? a = some v := cell_low hb h
theorem blk_stay {o : Obj} {k : Nat} (h : w.heap[k]? = some o) (hs : Stay KS w w') (hk : k ∈ KS) : w'.heap[k]? = some o := (hs k hk).trans h
/-- What a Read tells where the block is known. -/
theorem read_told (h : Dj w0 B N d KS w) {q : Nat} {y : Int} (hq : q < N) (hg : got d (q : Int) = like y) (hwl : d.waits.length ≤ 100000) : Calls Try.prog 13 #[.pointer (some ⟨B, 0, none⟩), .int .i64 (q : Int)] w (ToldLike y 0 w) := by
  have h9 := read_dj h (q : Int) hwl
  rw [read_ok hq] at h9
  exact h9.mono fun e w' ht => ht.like hg
theorem same_like {A0 A1 : Option Addr} {c0 c1 : Nat} {x : Int} (ha : Kd.C kb w A0 256 (like x)) (hc0 : 256 ≤ c0) (hb : Kd.C kb w A1 256 (like x)) (hc1 : 256 ≤ c1) :
    Calls Try.prog 14 #[.slice A0 256 c0, .slice A1 256 c1] w fun e w' => e = .returned (.bool true) ∧ Below w.heap.size w w' := by
  have hl := like_len x
  have h9 := same14 (A0 := A0) (A1 := A1) (c0 := c0) (c1 := c1) (a := like x) (b := like x) (w := w) (by rw [hl]; exact ha) (by rw [hl]; exact hc0) (by rw [hl]; exact hb) (by rw [hl]; exact hc1) (by rw [hl]; decide)
  rw [hl] at h9
  exact h9.mono fun e w' ⟨h1, h2⟩ => ⟨by rw [h1, decide_eq_true rfl], h2⟩
/-- A block of like bytes is written. -/
theorem write_n (h : Dj w0 B N d KS w) {q : Nat} {x : Int} (hq : q < N) {Ab : Option Addr} {cb : Nat} (hb : Kd.C kb w Ab 256 (like x)) (hcb : 256 ≤ cb) (hwl : d.waits.length ≤ 100000) (htl : d.trace.length < 100000) :
    Calls Try.prog 11 #[.pointer (some ⟨B, 0, none⟩), .int .i64 (q : Int), .slice Ab 256 cb] w fun e w' => e = .returned (.int .i64 0) ∧ Dj w0 B N (d.write N (q : Int) (like x)).1 KS w' ∧ Stay KS w w' := by
  have h9 := write_like h (q : Int) x hb hcb hwl htl
  rw [show (d.write N (q : Int) (like x)).2 = 0 from by rw [write_ok hq (like_len x)]] at h9
  exact h9
end
/-- What the store has is what was written last. -/
def Has (d : Dv) (has : List Int) (N : Nat) : Prop := ∀ k, k < N → got d (k : Int) = like (rd has (k : Int))
theorem rd_set {has : List Int} {n k : Nat} {x : Int} (hn : n < has.length) : rd (has.set n x) (k : Int) = if n = k then x else rd has (k : Int) := by
  unfold rd
  rw [Int.toNat_natCast, List.getD_eq_getElem?_getD, List.getD_eq_getElem?_getD, List.getElem?_set]
  by_cases h : n = k
  · rw [if_pos h, if_pos h, if_pos hn]; rfl
  · rw [if_neg h, if_neg h]
theorem Has.write {d : Dv} {has : List Int} {N n : Nat} {x : Int} (h : Has d has N) (hn : n < N) (hl : has.length = N) : Has (d.write N (n : Int) (like x)).1 (has.set n x) N := fun k hk => by
  rw [got_write hn (like_len x), rd_set (by omega)]
  by_cases h9 : n = k
  · rw [if_pos h9, if_pos h9]
  · rw [if_neg h9, if_neg h9, h k hk]
theorem Has.flush {d : Dv} {has : List Int} {N : Nat} (h : Has d has N) (hw : Wf d N) : Has d.flush has N := fun k hk => by rw [got_flush hw k hk, h k hk]
theorem Has.crash {d : Dv} {has : List Int} {N : Nat} (h : Has d has N) (hw : Wf d N) (keep torn parts : Int) : Has (d.flush.crash keep torn parts) has N := fun k hk => by rw [got_flush_crash hw keep torn parts k hk, h k hk]
theorem like_drop (m : Nat) (h : 256 ≤ m) : (List.replicate m (0 : Int)).take 256 = like 0 := by
  rw [List.take_replicate]
  unfold like
  congr 1
  show min B256 m = B256
  unfold B256
  omega
theorem Has.new (N : Nat) : Has (Dv.new N) (List.replicate N 0) N := fun k hk => by
  show ((List.replicate (N * 256) (0 : Int)).drop (k * 256)).take 256 = _
  rw [List.drop_replicate, like_drop _ (by omega)]
  congr 1
  unfold rd
  rw [Int.toNat_natCast, List.getD_eq_getElem?_getD, List.getElem?_replicate, if_pos hk]
  rfl
set_option maxHeartbeats 16000000 in
set_option maxRecDepth 100000 in
theorem reads_law (A : Option Addr) (n c : Nat) (l : List S31) (w : World) (hC : Kd.C k31 w A n l) (hnc : n ≤ c) (hc : c ≤ 9223372036854775807) (hs : Steps l) :
    Calls Try.prog 3 #[.slice A n c] w fun e w' => e = .returned (.bool true) ∧ Below w.heap.size w w' := by
  obtain ⟨N, hN⟩ : ∃ N, N = min n 60 := ⟨_, rfl⟩
  have R8 := Aside0.mk (fun W => (show Calls Try.prog 8 #[.slice A n c] W fun e w' => e = .returned (.slice A N c) ∧ w' = W from hN ▸ short_calls A n c hnc hc W))
  have R7 := Aside0.mk (show Calls Try.prog 7 #[.int .i64 8] w fun e w' => ∃ B, e = .returned (.tuple #[.pointer (some ⟨B, 0, none⟩), .int .i64 0]) ∧ Dj w B 8 (Dv.new 8) [] w' from (new_dj (w0 := w) (w := w) 8 (by decide) (by decide) (Below.refl _ _)).mono fun e w' ⟨B, h1, h2, _⟩ => ⟨B, h1, h2⟩)
  have hln : l.length = n := hC.1
  have hN2 : N ≤ 60 ∧ N ≤ n := by omega
  have HC := Aside0.mk hC
  have HS := Aside0.mk hs
  have HN := Aside0.mk (And.intro hN2 hln)
  clear hC hs hN2 hln hN
  go_enter Try.func3, Try.ntmps3
  go_wp2_with (first
    | (go_at_call 7; refine R7.out.mono ?_; rintro e w1 ⟨B, rfl, h⟩; have H1 := Aside0.mk h; clear h)
    | (go_at_call 8; refine (R8.out _).mono ?_; rintro e w2 ⟨rfl, rfl⟩))
  have HB0 := Aside0.mk (H1.out.more (.cells (((List.replicate 8 (0 : Int)).map (Value.int .u8)).toArray) 27))
  have HK0 := Aside0.mk (blk_new w1 (.cells (((List.replicate 8 (0 : Int)).map (Value.int .u8)).toArray) 27))
  generalize hKB : w1.heap.size = KB at HB0 HK0 ⊢
  have HKB := Aside0.mk (show w.heap.size ≤ KB from by have := H1.out.bel.size; omega)
  clear hKB H1 R7
  go_loopg [25] N (fun gk0 v25 w' => ∃ (i : Nat) (d : Dv) (has : List Int), v25 = .int .i64 (i : Int) ∧ i + gk0 = N ∧ Aside0 (Dj w B 8 d [KB] w' ∧ w'.heap[KB]? = some (.cells (has.map (Value.int .u8)).toArray 27 (0, 0)) ∧ Has d has 8 ∧ has.length = 8 ∧ d.waits.length ≤ i ∧ d.trace.length ≤ i))
  case atStart => exact ⟨0, Dv.new 8, List.replicate 8 0, rfl, by omega, ⟨HB0.out, HK0.out, Has.new 8, rfl, Nat.le_refl _, Nat.le_refl _⟩⟩
  case round =>
    clear HB0 HK0
    obtain ⟨i, d, has, rfl, hig, HR⟩ := hrel
    have hN200 := HN.out.1.1
    by_cases hlt : i < N
    · have hin : i < n := by have := HN.out.1.2; omega
      obtain ⟨ad, rfl, hx0, hx1, hx2, hx3, hx4⟩ := at_S (Kd.C_below HC.out HR.out.1.bel) i hin
      obtain ⟨⟨s00, s01⟩, hwn, hwa, ⟨s30, s31⟩, hwp⟩ := HS.out.at (i := i) (by rw [HN.out.2]; exact hin)
      generalize (sAt l i).f0 = k at hx0 s00 s01
      generalize (sAt l i).f1 = sn at hx1 hwn
      generalize (sAt l i).f2 = sa at hx2 hwa
      generalize (sAt l i).f3 = sx at hx3 s30 s31
      generalize (sAt l i).f4 = sp at hx4 hwp
      have hlt2 : decide ((i : Int) < (N : Int)) = true := decide_eq_true (by omega)
      have hi0 : (0 : Int) ≤ (i : Int) := by omega
      have hi1 : (i : Int) < (N : Int) := by omega
      have hi2 : (i : Int) ≤ 60 := by omega
      have HW := Aside0.mk HR.out.1.wf
      have HL := Aside0.mk HR.out.2.2
      have HD0 := Aside0.mk (HR.out.1.more (.cells #[.int .u8 k, .int .i64 sn, .int .i64 sa, .int .u8 sx, .int .u64 sp] 31))
      have HK0 := Aside0.mk (blk_alloc HR.out.2.1 (.cells #[.int .u8 k, .int .i64 sn, .int .i64 sa, .int .u8 sx, .int .u64 sp] 31))
      have HS0 := Aside0.mk (blk_new wr (.cells #[.int .u8 k, .int .i64 sn, .int .i64 sa, .int .u8 sx, .int .u64 sp] 31))
      have HWP := Aside0.mk hwp
      clear HR hwp
      obtain ⟨q, hq⟩ : ∃ q : Nat, sn % 8 = (q : Int) := ⟨(sn % 8).toNat, by omega⟩
      have hq8 : (q : Int) < 8 := by omega
      have hq0 : (0 : Int) ≤ (q : Int) := by omega
      have hand : bits .and .i64 sn 7 = (q : Int) := (and7 sn).trans hq
      have ht0 : Int.tmod k 8 = k % 8 := Int.tmod_eq_emod_of_nonneg s00
      obtain ⟨r, hr⟩ : ∃ r, k % 8 = r := ⟨_, rfl⟩
      have hr8 : 0 ≤ r ∧ r < 8 := by omega
      have ht : Int.tmod k 8 = r := ht0.trans hr
      have hw8 : IntKind.u8.wrap r = r := by simp [IntKind.wrap, IntKind.signed, IntKind.bits]; omega
      clear hq hr ht0
      obtain ⟨gk0, hgk0⟩ : ∃ g, g = gk := ⟨_, rfl⟩
      by_cases h3 : r = 3
      · have hb3 : (r == 3) = true := beq_iff_eq.mpr h3
        clear h3
        go_wp2_with (go_at_call 9; (with_reducible refine Calls.mono (flush_dj HD0.out (by have := HL.out.2.2; omega) (by have := HL.out.2.2; omega)) ?_); rintro e w3 ⟨rfl, h, hs⟩; have hd9 := h.less (KS' := [KB]) (fun k hk => List.mem_cons_of_mem _ hk); have hk9 := blk_stay HK0.out hs (List.mem_cons_of_mem _ (List.mem_singleton.2 rfl)); clear h hs)
        have HN1 := Aside0.mk (And.intro (HL.out.1.flush HW.out) (And.intro HL.out.2.1 (show d.flush.waits.length ≤ 100000 ∧ d.flush.waits.length ≤ i + 1 ∧ d.flush.trace.length ≤ i + 1 from by have := HL.out.2.2; simp [Dv.flush]; omega)))
        generalize d.flush = d1 at hd9 HN1
        obtain ⟨has1, e9⟩ : ∃ has1, has1 = has := ⟨_, rfl⟩
        rw [← e9] at hk9 HN1
        clear e9
        have HD9 := Aside0.mk hd9
        have HK9 := Aside0.mk hk9
        clear hd9 hk9
        go_loopg [62] 8 (fun gk v62 w' => ∃ k : Nat, v62 = .int .i64 (k : Int) ∧ k + gk = 8 ∧ Aside0 (Dj w B 8 d1 [KB] w' ∧ w'.heap[KB]? = some (.cells (has1.map (Value.int .u8)).toArray 27 (0, 0))))
        case atStart => exact ⟨0, rfl, by omega, ⟨HD9.out, HK9.out⟩⟩
        case round =>
          clear HD9 HK9
          obtain ⟨k, rfl, hkg, HZ⟩ := hrel
          by_cases hk8 : k < 8
          · have hk0 : (0 : Int) ≤ (k : Int) := by omega
            have hk1 : (k : Int) < 8 := by omega
            have hk2 : decide ((k : Int) < 8) = true := decide_eq_true hk1
            have hx := (blk_cell HZ.out.2 k).trans (has_at HN1.out.2.1 hk8)
            have RR := Aside0.mk (read_told HZ.out.1 (by omega) (HN1.out.1 k hk8) HN1.out.2.2.1)
            have HK := Aside0.mk HZ.out.2
            have HD := Aside0.mk HZ.out.1
            clear HZ
            generalize rd has1 (k : Int) = y at hx RR
            go_wp2_with (first
              | (go_at_call 13; (with_reducible refine Calls.mono RR.out ?_); rintro e w2 ⟨a2, c2, rfl, hc2, hC2, hb2, hf2, hl2⟩; have H2 := Aside0.mk (HD.out.below hb2); have HK2 := Aside0.mk (blk_below HK.out hb2); replace hx := (blk_cell_below hx hb2); have HC2 := Aside0.mk (And.intro hC2 hc2); clear hC2 hc2 hb2 hf2 hl2 HD HK)
              | (go_at_call 12; (with_reducible refine Calls.mono (block_c y _) ?_); rintro e w3 ⟨A3, c3, rfl, hc3, hC3, hb3⟩; have H3 := Aside0.mk (H2.out.below hb3); have HK3 := Aside0.mk (blk_below HK2.out hb3); have RS := Aside0.mk (same_like (Kd.C_below HC2.out.1 hb3) HC2.out.2 hC3 hc3); clear hC3 hc3 hb3 H2 HK2)
              | (go_at_call 14; (with_reducible refine Calls.mono RS.out ?_); rintro e w4 ⟨rfl, hb4⟩; have H4 := Aside0.mk (H3.out.below hb4); have HK4 := Aside0.mk (blk_below HK3.out hb4); clear hb4 H3 HK3))
            go_roundg (gk - 1)
            case measure => omega
            case rel => exact ⟨k + 1, by go_num, by omega, ⟨H4.out, HK4.out⟩⟩
          · obtain rfl : k = 8 := by omega
            have HZ1 := Aside0.mk HZ.out.1
            have HZ2 := Aside0.mk HZ.out.2
            clear HZ
            go_wp2
            go_roundg (gk0 - 1)
            case measure => omega
            case rel => exact ⟨i + 1, d1, has1, by go_num, by omega, ⟨HZ1.out, HZ2.out, HN1.out.1, HN1.out.2.1, by have := HN1.out.2.2; omega, by have := HN1.out.2.2; omega⟩⟩
      · have hb3 : (r == 3) = false := beq_eq_false_iff_ne.mpr h3
        by_cases h4 : r = 4
        · have hb4 : (r == 4) = true := beq_iff_eq.mpr h4
          clear h3 h4
          go_wp2_with (first
            | (go_at_call 9; (with_reducible refine Calls.mono (flush_dj HD0.out (by have := HL.out.2.2; omega) (by have := HL.out.2.2; omega)) ?_); rintro e w3 ⟨rfl, h, hs⟩; have hsc := blk_stay HS0.out hs List.mem_cons_self; have hf1 := (blk_cell hsc 1).trans (show _ = some (Value.int .i64 sn) from rfl); have hf2 := (blk_cell hsc 2).trans (show _ = some (Value.int .i64 sa) from rfl); have hf4 := (blk_cell hsc 4).trans (show _ = some (Value.int .u64 sp) from rfl); have H3 := Aside0.mk h; have HK3 := Aside0.mk (blk_stay HK0.out hs (List.mem_cons_of_mem _ (List.mem_singleton.2 rfl))); clear h hs hsc HD0 HK0)
            | (go_at_call 10; (with_reducible refine Calls.mono (crash_dj H3.out sp sn sa HWP.out (by simp [Dv.flush])) ?_); rintro e w4 ⟨rfl, h, hs⟩; have hd9 := h.less (KS' := [KB]) (fun k hk => List.mem_cons_of_mem _ hk); have hk9 := blk_stay HK3.out hs (List.mem_cons_of_mem _ (List.mem_singleton.2 rfl)); clear h hs H3 HK3 hf1 hf2 hf4))
          have HN1 := Aside0.mk (And.intro (HL.out.1.crash HW.out sp sn sa) (And.intro HL.out.2.1 (show (d.flush.crash sp sn sa).waits.length ≤ 100000 ∧ (d.flush.crash sp sn sa).waits.length ≤ i + 1 ∧ (d.flush.crash sp sn sa).trace.length ≤ i + 1 from by have := HL.out.2.2; simp [Dv.flush, Dv.crash]; omega)))
          generalize d.flush.crash sp sn sa = d1 at hd9 HN1
          obtain ⟨has1, e9⟩ : ∃ has1, has1 = has := ⟨_, rfl⟩
          rw [← e9] at hk9 HN1
          clear e9
          have HD9 := Aside0.mk hd9
          have HK9 := Aside0.mk hk9
          clear hd9 hk9
          go_loopg [62] 8 (fun gk v62 w' => ∃ k : Nat, v62 = .int .i64 (k : Int) ∧ k + gk = 8 ∧ Aside0 (Dj w B 8 d1 [KB] w' ∧ w'.heap[KB]? = some (.cells (has1.map (Value.int .u8)).toArray 27 (0, 0))))
          case atStart => exact ⟨0, rfl, by omega, ⟨HD9.out, HK9.out⟩⟩
          case round =>
            clear HD9 HK9
            obtain ⟨k, rfl, hkg, HZ⟩ := hrel
            by_cases hk8 : k < 8
            · have hk0 : (0 : Int) ≤ (k : Int) := by omega
              have hk1 : (k : Int) < 8 := by omega
              have hk2 : decide ((k : Int) < 8) = true := decide_eq_true hk1
              have hx := (blk_cell HZ.out.2 k).trans (has_at HN1.out.2.1 hk8)
              have RR := Aside0.mk (read_told HZ.out.1 (by omega) (HN1.out.1 k hk8) HN1.out.2.2.1)
              have HK := Aside0.mk HZ.out.2
              have HD := Aside0.mk HZ.out.1
              clear HZ
              generalize rd has1 (k : Int) = y at hx RR
              go_wp2_with (first
                | (go_at_call 13; (with_reducible refine Calls.mono RR.out ?_); rintro e w2 ⟨a2, c2, rfl, hc2, hC2, hb2, hf2, hl2⟩; have H2 := Aside0.mk (HD.out.below hb2); have HK2 := Aside0.mk (blk_below HK.out hb2); replace hx := (blk_cell_below hx hb2); have HC2 := Aside0.mk (And.intro hC2 hc2); clear hC2 hc2 hb2 hf2 hl2 HD HK)
                | (go_at_call 12; (with_reducible refine Calls.mono (block_c y _) ?_); rintro e w3 ⟨A3, c3, rfl, hc3, hC3, hb3⟩; have H3 := Aside0.mk (H2.out.below hb3); have HK3 := Aside0.mk (blk_below HK2.out hb3); have RS := Aside0.mk (same_like (Kd.C_below HC2.out.1 hb3) HC2.out.2 hC3 hc3); clear hC3 hc3 hb3 H2 HK2)
                | (go_at_call 14; (with_reducible refine Calls.mono RS.out ?_); rintro e w4 ⟨rfl, hb4⟩; have H4 := Aside0.mk (H3.out.below hb4); have HK4 := Aside0.mk (blk_below HK3.out hb4); clear hb4 H3 HK3))
              go_roundg (gk - 1)
              case measure => omega
              case rel => exact ⟨k + 1, by go_num, by omega, ⟨H4.out, HK4.out⟩⟩
            · obtain rfl : k = 8 := by omega
              have HZ1 := Aside0.mk HZ.out.1
              have HZ2 := Aside0.mk HZ.out.2
              clear HZ
              go_wp2
              go_roundg (gk0 - 1)
              case measure => omega
              case rel => exact ⟨i + 1, d1, has1, by go_num, by omega, ⟨HZ1.out, HZ2.out, HN1.out.1, HN1.out.2.1, by have := HN1.out.2.2; omega, by have := HN1.out.2.2; omega⟩⟩
        · have hb4 : (r == 4) = false := beq_eq_false_iff_ne.mpr h4
          clear h3 h4
          have hf3 := (blk_cell HS0.out 3).trans (show _ = some (Value.int .u8 sx) from rfl)
          go_wp2_with (first
            | (go_at_call 12; (with_reducible refine Calls.mono (block_c sx _) ?_); rintro e w3 ⟨A3, c3, rfl, hc3, hC3, hb3⟩; have H3 := Aside0.mk (HD0.out.below hb3); have HK3 := Aside0.mk (blk_below HK0.out hb3); have HS3 := Aside0.mk (blk_below HS0.out hb3); have HC3 := Aside0.mk (And.intro hC3 hc3); clear hC3 hc3 hb3 HD0 HK0 HS0)
            | (go_at_call 11; (with_reducible refine Calls.mono (write_n H3.out (q := q) (x := sx) (by omega) HC3.out.1 HC3.out.2 (by have := HL.out.2.2; omega) (by have := HL.out.2.2; omega)) ?_); rintro e w4 ⟨rfl, h, hs⟩; have HDW := Aside0.mk h; have hkw := blk_stay HK3.out hs (List.mem_cons_of_mem _ (List.mem_singleton.2 rfl)); have hfw := (blk_cell (blk_stay HS3.out hs List.mem_cons_self) 3).trans (show _ = some (Value.int .u8 sx) from rfl); have hz := (blk_cell hkw q).trans (has_at HL.out.2.1 (show q < 8 by omega)); have hzf := blk_frozen hkw q; have hk9 := blk_put hkw q (.int .u8 sx) has_set; have hd9 := (h.wrote (p := ⟨KB, q, none⟩) (List.mem_cons_of_mem _ (List.mem_singleton.2 rfl)) HKB.out (.int .u8 sx)).less (KS' := [KB]) (fun k hk => List.mem_cons_of_mem _ hk); clear h hs H3 HK3 HS3 hkw))
          have HN1 := Aside0.mk (And.intro (HL.out.1.write (n := q) (x := sx) (by omega) HL.out.2.1) (And.intro (show (has.set q sx).length = 8 from by rw [List.length_set]; exact HL.out.2.1) (show (d.write 8 (q : Int) (like sx)).1.waits.length ≤ 100000 ∧ (d.write 8 (q : Int) (like sx)).1.waits.length ≤ i + 1 ∧ (d.write 8 (q : Int) (like sx)).1.trace.length ≤ i + 1 from by rw [write_ok (by omega) (like_len sx)]; have := HL.out.2.2; simp; omega)))
          generalize (d.write 8 (q : Int) (like sx)).1 = d1 at hd9 HN1
          generalize has.set q sx = has1 at hk9 HN1
          have HD9 := Aside0.mk hd9
          have HK9 := Aside0.mk hk9
          clear hd9 hk9
          go_loopg [62] 8 (fun gk v62 w' => ∃ k : Nat, v62 = .int .i64 (k : Int) ∧ k + gk = 8 ∧ Aside0 (Dj w B 8 d1 [KB] w' ∧ w'.heap[KB]? = some (.cells (has1.map (Value.int .u8)).toArray 27 (0, 0))))
          case atStart => exact ⟨0, rfl, by omega, ⟨HD9.out, HK9.out⟩⟩
          case round =>
            clear HD9 HK9
            obtain ⟨k, rfl, hkg, HZ⟩ := hrel
            by_cases hk8 : k < 8
            · have hk0 : (0 : Int) ≤ (k : Int) := by omega
              have hk1 : (k : Int) < 8 := by omega
              have hk2 : decide ((k : Int) < 8) = true := decide_eq_true hk1
              have hx := (blk_cell HZ.out.2 k).trans (has_at HN1.out.2.1 hk8)
              have RR := Aside0.mk (read_told HZ.out.1 (by omega) (HN1.out.1 k hk8) HN1.out.2.2.1)
              have HK := Aside0.mk HZ.out.2
              have HD := Aside0.mk HZ.out.1
              clear HZ
              generalize rd has1 (k : Int) = y at hx RR
              go_wp2_with (first
                | (go_at_call 13; (with_reducible refine Calls.mono RR.out ?_); rintro e w2 ⟨a2, c2, rfl, hc2, hC2, hb2, hf2, hl2⟩; have H2 := Aside0.mk (HD.out.below hb2); have HK2 := Aside0.mk (blk_below HK.out hb2); replace hx := (blk_cell_below hx hb2); have HC2 := Aside0.mk (And.intro hC2 hc2); clear hC2 hc2 hb2 hf2 hl2 HD HK)
                | (go_at_call 12; (with_reducible refine Calls.mono (block_c y _) ?_); rintro e w3 ⟨A3, c3, rfl, hc3, hC3, hb3⟩; have H3 := Aside0.mk (H2.out.below hb3); have HK3 := Aside0.mk (blk_below HK2.out hb3); have RS := Aside0.mk (same_like (Kd.C_below HC2.out.1 hb3) HC2.out.2 hC3 hc3); clear hC3 hc3 hb3 H2 HK2)
                | (go_at_call 14; (with_reducible refine Calls.mono RS.out ?_); rintro e w4 ⟨rfl, hb4⟩; have H4 := Aside0.mk (H3.out.below hb4); have HK4 := Aside0.mk (blk_below HK3.out hb4); clear hb4 H3 HK3))
              go_roundg (gk - 1)
              case measure => omega
              case rel => exact ⟨k + 1, by go_num, by omega, ⟨H4.out, HK4.out⟩⟩
            · obtain rfl : k = 8 := by omega
              have HZ1 := Aside0.mk HZ.out.1
              have HZ2 := Aside0.mk HZ.out.2
              clear HZ
              go_wp2
              go_roundg (gk0 - 1)
              case measure => omega
              case rel => exact ⟨i + 1, d1, has1, by go_num, by omega, ⟨HZ1.out, HZ2.out, HN1.out.1, HN1.out.2.1, by have := HN1.out.2.2; omega, by have := HN1.out.2.2; omega⟩⟩
    · obtain rfl : i = N := by omega
      have hge : decide ((i : Int) < (i : Int)) = false := decide_eq_false (by omega)
      have HBB := Aside0.mk HR.out.1.bel
      clear HR
      go_wp2_with (go_at_call 15; refine (alive_calls _).mono ?_; rintro e w7 ⟨rfl, hb⟩; have HB7 := Aside0.mk (below_step HBB.out hb); clear hb)
      go_ret
      exact ⟨rfl, HB7.out⟩
end Go.Proofs.Ytenbcpjlbfojlaa.DA
