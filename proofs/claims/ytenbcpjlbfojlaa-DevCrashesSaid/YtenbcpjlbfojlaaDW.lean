/- Behind a crash: the walk. -/
import Derived.Test.YtenbcpjlbfojlaaDV
namespace Go.Proofs.Ytenbcpjlbfojlaa.DA
open Go.RowKit Go.Proofs.YtenbcpjlbfojlaaW.PrintWords Go.Proofs.YtenbcpjlbfojlaaW.PrintLast Go.Proofs.YtenbcpjlbfojlaaW.PrintMore Go.Proofs.Ytenbcpjlbfojlaa.PD
set_option linter.unusedVariables false
set_option linter.unusedSimpArgs false
theorem Mi.new {w : World} {base : Nat} (hb : base ≤ w.heap.size) : Mi base w.heap.size (fun _ => []) (fun _ => .slice none 0 0) (w.alloc (.cells #[.slice none 0 0, .slice none 0 0, .slice none 0 0, .slice none 0 0] 43)) :=
  ⟨blk_new _ _, fun k hk => Kd.R_nil _ _ _ _ _, fun k k' _ _ _ j hj => by simp [Value.ownBlock] at hj, fun k _ => by simp [Value.ownBlock], hb⟩
/-- The rows at the start. -/
def first (k : Nat) : Nat → List Int := fun j => if j < k then [0] else []
theorem first_zero : first 0 = fun _ => [] := by funext j; unfold first; rw [if_neg (by omega)]
theorem first_succ {k : Nat} : upd (first k) k [0] = first (k + 1) := by
  funext j
  unfold upd first
  by_cases h : j = k
  · rw [if_pos h, if_pos (by omega)]
  · rw [if_neg h]
    by_cases h2 : j < k
    · rw [if_pos h2, if_pos (by omega)]
    · rw [if_neg h2, if_neg (by omega)]
theorem first_four (k : Nat) (h : k < 4) : first 4 k = might [] k := by
  unfold first
  rw [if_pos h]
  rfl
theorem sAt_takes {xs : List S31} {j m : Nat} (h : j < m) : sAt (xs.take m) j = sAt xs j := by
  unfold sAt
  rw [List.getD_eq_getElem?_getD, List.getD_eq_getElem?_getD, List.getElem?_take_of_lt h]
theorem rd_take {xs : List Int} {i : Nat} (h : i < xs.length) : xs.take (i + 1) = xs.take i ++ [rd xs (i : Int)] := by
  unfold rd
  rw [List.take_add_one, Int.toNat_natCast, List.getD_eq_getElem?_getD, List.getElem?_eq_getElem h]
  rfl
theorem waiting_none {w0 w : World} {B N : Nat} {d : Dv} {KS : List Nat} (h : Dj w0 B N d KS w) (hd : d.waits = []) : Calls Try.prog 16 #[.pointer (some ⟨B, 0, none⟩)] w fun e w' => ∃ A c, e = .returned (.slice A 0 c) ∧ Below w.heap.size w w' := by
  refine (waiting_dj h (by rw [hd]; decide)).mono ?_
  rintro e w' ⟨v, he, hr, hb⟩
  rw [hd] at hr
  obtain ⟨A, c, rfl⟩ := Kd.R_slice hr
  exact ⟨A, c, he, hb⟩
theorem same_two {w : World} {A0 A1 : Option Addr} {c0 c1 : Nat} {x y : Int} (ha : Kd.C kb w A0 256 (like y)) (hc0 : 256 ≤ c0) (hb : Kd.C kb w A1 256 (like x)) (hc1 : 256 ≤ c1) :
    Calls Try.prog 14 #[.slice A0 256 c0, .slice A1 256 c1] w fun e w' => e = .returned (.bool (decide (y = x))) ∧ Below w.heap.size w w' := by
  have hl := like_len x
  have hl2 := like_len y
  have h9 := same14 (A0 := A0) (A1 := A1) (c0 := c0) (c1 := c1) (a := like y) (b := like x) (w := w) (by rw [hl2]; exact ha) (by rw [hl2]; exact hc0) (by rw [hl]; exact hb) (by rw [hl]; exact hc1) (by rw [hl2]; decide)
  rw [hl, hl2] at h9
  exact h9.mono fun e w' ⟨h1, h2⟩ => ⟨by rw [h1]; congr 2; exact decide_eq_decide.2 ⟨fun h => like_inj h, fun h => by rw [h]⟩, h2⟩
set_option maxHeartbeats 16000000 in
set_option maxRecDepth 100000 in
theorem crashes_law (A : Option Addr) (n c : Nat) (l : List S31) (keep torn parts : Int) (hkp : 0 ≤ keep ∧ keep ≤ 18446744073709551615) (w : World) (hC : Kd.C k31 w A n l) (hnc : n ≤ c) (hc : c ≤ 9223372036854775807) (hs : Steps l) :
    Calls Try.prog 4 #[.slice A n c, .int .u64 keep, .agg #[.int .i64 torn, .int .i64 parts]] w fun e w' => e = .returned (.bool true) ∧ Below w.heap.size w w' := by
  obtain ⟨N, hN⟩ : ∃ N, N = min n 60 := ⟨_, rfl⟩
  have R8 := Aside0.mk (fun W => (show Calls Try.prog 8 #[.slice A n c] W fun e w' => e = .returned (.slice A N c) ∧ w' = W from hN ▸ short_calls A n c hnc hc W))
  have R7 := Aside0.mk (fun (W : World) (hb : Below w.heap.size w W) => show Calls Try.prog 7 #[.int .i64 4] W fun e w' => ∃ B, e = .returned (.tuple #[.pointer (some ⟨B, 0, none⟩), .int .i64 0]) ∧ Dj w B 4 (Dv.new 4) [] w' from (new_dj (w0 := w) (w := W) 4 (by decide) (by decide) hb).mono fun e w' ⟨B, h1, h2, _⟩ => ⟨B, h1, h2⟩)
  have hln : l.length = n := hC.1
  have hN2 : N ≤ 60 ∧ N ≤ n := by omega
  have HC := Aside0.mk hC
  have HS := Aside0.mk hs
  have HN := Aside0.mk (And.intro hN2 hln)
  have HKP := Aside0.mk hkp
  have HB0 := Aside0.mk ((Below.refl w.heap.size w).alloc (Nat.le_refl _) (.cells #[.int .i64 torn, .int .i64 parts] 42))
  clear hC hs hN2 hln hN hkp
  go_enter Try.func4, Try.ntmps4
  go_wp2
  go_quiet (fail)
  go_wp2_with (go_at_call 7; refine (R7.out _ (pw_below_drewN HB0.out _)).mono ?_; rintro e w1 ⟨B, rfl, h⟩; have H1 := Aside0.mk h; clear h)
  have HJ0 := Aside0.mk (show Jm w B w1.heap.size (Dv.new 4) (fun _ => []) (fun _ => .slice none 0 0) (w1.heap.size :: []) (w1.alloc (.cells #[.slice none 0 0, .slice none 0 0, .slice none 0 0, .slice none 0 0] 43)) from ⟨H1.out.more _, Mi.new H1.out.bel.size, List.mem_cons_self, fun k _ j hj => by simp [Value.ownBlock] at hj⟩)
  generalize hMB : w1.heap.size = MB at HJ0 ⊢
  clear hMB H1 R7 HB0
  rw [← first_zero] at HJ0
  go_loopg [35] 4 (fun gk v35 w' => ∃ k : Nat, v35 = .int .i64 (k : Int) ∧ k + gk = 4 ∧ Aside0 (∃ vs KS, Jm w B MB (Dv.new 4) (first k) vs KS w'))
  case atStart => exact ⟨0, rfl, by omega, ⟨_, _, HJ0.out⟩⟩
  case round =>
    clear HJ0
    obtain ⟨k, rfl, hkg, HJ⟩ := hrel
    obtain ⟨vs, KS, hj⟩ := HJ.out
    by_cases hk4 : k < 4
    · have hk0 : (0 : Int) ≤ (k : Int) := by omega
      have hk1 : (k : Int) < 4 := by omega
      have hk2 : decide ((k : Int) < 4) = true := decide_eq_true hk1
      obtain ⟨KS2, hj2, _, hbx⟩ := hj.put hk4 (R_one (w := wr) (x := 0) hj.dj.bel.size) (grown_alloc _ _) (.inr ⟨_, rfl, Nat.le_refl _⟩) (by decide)
      rw [first_succ] at hj2
      have hz := (blk_cell hbx k).trans (four vs hk4)
      have hzf := blk_frozen hbx k
      have HJ2 := Aside0.mk hj2
      clear hj hj2 hbx HJ
      go_wp2
      go_roundg (gk - 1)
      case measure => omega
      case rel => exact ⟨k + 1, by go_num, by omega, ⟨_, _, HJ2.out⟩⟩
    · obtain rfl : k = 4 := by omega
      have HJ1 := Aside0.mk (show ∃ (d : Dv) (ms : Nat → List Int) (vs : Nat → Value) (KS : List Nat), Jm w B MB d ms vs KS wr ∧ d.blocks = (Dv.new 4).blocks ∧ d.waits = (l.take 0).map wrOf ∧ d.trace.length ≤ 0 ∧ ∀ k, k < 4 → ms k = might (l.take 0) k from ⟨_, _, vs, KS, hj, rfl, rfl, Nat.le_refl _, fun k hk => first_four k hk⟩)
      clear HJ hj
      go_wp2_with (go_at_call 8; refine (R8.out _).mono ?_; rintro e w2 ⟨rfl, rfl⟩)
      go_loopg [46] N (fun gk v46 w' => ∃ i : Nat, v46 = .int .i64 (i : Int) ∧ i + gk = N ∧ Aside0 (∃ (d : Dv) (ms : Nat → List Int) (vs : Nat → Value) (KS : List Nat), Jm w B MB d ms vs KS w' ∧ d.blocks = (Dv.new 4).blocks ∧ d.waits = (l.take i).map wrOf ∧ d.trace.length ≤ i ∧ ∀ k, k < 4 → ms k = might (l.take i) k))
      case atStart => exact ⟨0, rfl, by omega, ⟨HJ1.out⟩⟩
      case round =>
        clear HJ1
        obtain ⟨i, rfl, hig, HR⟩ := hrel
        obtain ⟨d, ms, vs, KS, hj, hdb, hdw, hdt, hms⟩ := HR.out
        clear HR
        have hN200 := HN.out.1.1
        by_cases hlt : i < N
        · have hin : i < n := by have := HN.out.1.2; omega
          obtain ⟨ad, rfl, hx0, hx1, hx2, hx3, hx4⟩ := at_S (Kd.C_below HC.out hj.dj.bel) i hin
          obtain ⟨_, hwn, _, ⟨s30, s31⟩, _⟩ := HS.out.at (i := i) (by rw [HN.out.2]; exact hin)
          have HTK := Aside0.mk (sAt_take (xs := l) (k := i) (by have := HN.out.2; omega))
          have hf1 : (sAt l i).f1 = (sAt l i).f1 := rfl
          obtain ⟨⟨sk, sn, sa, sx, sp⟩, hst⟩ : ∃ s, s = sAt l i := ⟨_, rfl⟩
          rw [← hst] at hx0 hx1 hx2 hx3 hx4 hwn s30 s31 HTK
          simp only at hx0 hx1 hx2 hx3 hx4 hwn s30 s31
          clear hst hf1
          have hlt2 : decide ((i : Int) < (N : Int)) = true := decide_eq_true (by omega)
          have hi0 : (0 : Int) ≤ (i : Int) := by omega
          have hi1 : (i : Int) < (N : Int) := by omega
          have hi2 : (i : Int) ≤ 60 := by omega
          have HJ := Aside0.mk (hj.more (.cells #[.int .u8 sk, .int .i64 sn, .int .i64 sa, .int .u8 sx, .int .u64 sp] 31))
          have HSB := Aside0.mk (blk_new wr (.cells #[.int .u8 sk, .int .i64 sn, .int .i64 sa, .int .u8 sx, .int .u64 sp] 31))
          have HWL := Aside0.mk (show d.waits.length ≤ 100000 ∧ d.trace.length < 100000 from ⟨by rw [hdw, List.length_map, List.length_take]; omega, by omega⟩)
          obtain ⟨q, hq⟩ : ∃ q : Nat, sn % 4 = (q : Int) := ⟨(sn % 4).toNat, by omega⟩
          have HQ := Aside0.mk (show q < 4 by omega)
          have hq4 : (q : Int) < 4 := by omega
          have hq0 : (0 : Int) ≤ (q : Int) := by omega
          have hand : bits .and .i64 sn 3 = (q : Int) := (and3 sn).trans hq
          have HML := Aside0.mk (show (ms q).length ≤ 100 from by rw [hms q HQ.out]; have := might_len (l.take i) q; rw [List.length_take] at this; omega)
          have HD := Aside0.mk (And.intro hdb (And.intro hdw (And.intro hdt (And.intro hms hq))))
          clear hj hdb hdw hdt hms hq
          go_upto_region 15 with fail
          generalize wr.alloc (.cells #[.int .u8 sk, .int .i64 sn, .int .i64 sa, .int .u8 sx, .int .u64 sp] 31) = wA at HJ HSB ⊢
          generalize wr.heap.size = SB at HJ HSB ⊢
          have HSK := Aside0.mk (show SB ∈ SB :: KS from List.mem_cons_self)
          generalize SB :: KS = KS1 at HJ HSK
          have hs1 : wA.cell? ⟨SB, 1, none⟩ = some (.int .i64 sn) := (blk_cell HSB.out 1).trans rfl
          have hs3 : wA.cell? ⟨SB, 3, none⟩ = some (.int .u8 sx) := (blk_cell HSB.out 3).trans rfl
          clear hx0 hx1 hx2 hx3 hx4 hwn
          refine start_ (n := 9) (S := fun w' => w'.cell? ⟨SB, 1, none⟩ = some (.int .i64 sn) ∧ w'.cell? ⟨SB, 3, none⟩ = some (.int .u8 sx)) (ds := [7]) #[false, false, false, false, false, false, false, false, false] (by kernel_rfl) rfl rfl ⟨hs1, hs3⟩ (fun hHeld => ?_)
          have HJD := Aside0.mk (HJ.out.below (below_drew1 (Below.refl _ _)))
          have HSBD := Aside0.mk (blk_drew HSB.out)
          clear HJ HSB
          have HJ := HJD
          have HSB := HSBD
          clear HJD HSBD
          generalize wA.drew = wD at hHeld HJ HSB ⊢
          refine pure_ (i := 0) (N := some 50) (v := ?_) (a' := ?_) #[true, false, false, false, false, false, false, false, false] rfl rfl (by kernel_rfl) (fun _ _ _ h => h) (Or.inl ⟨by rfl, ?_⟩) ?_ ?_
          rotate_left
          · intro w'
            go_simp
            with_reducible rfl
          rotate_left
          · simp only [Act.put, List.setIfInBounds_toArray, List.set_cons_zero, List.set_cons_succ, i64_w, i32_w]
            rfl
          refine pure_ (i := 1) (N := some 51) (v := ?_) (a' := ?_) #[true, true, false, false, false, false, false, false, false] rfl rfl (by kernel_rfl) (fun _ _ _ h => h) (Or.inl ⟨by rfl, ?_⟩) ?_ ?_
          rotate_left
          · intro w'
            go_simp
            with_reducible rfl
          rotate_left
          · simp only [Act.put, List.setIfInBounds_toArray, List.set_cons_zero, List.set_cons_succ, i64_w, i32_w]
            rfl
          refine pure_ (i := 4) (N := some 54) (v := ?_) (a' := ?_) #[true, true, false, false, true, false, false, false, false] rfl rfl (by kernel_rfl) (fun _ _ _ h => h) (Or.inl ⟨by rfl, ?_⟩) ?_ ?_
          rotate_left
          · intro w'
            go_simp
            with_reducible rfl
          rotate_left
          · simp only [Act.put, List.setIfInBounds_toArray, List.set_cons_zero, List.set_cons_succ, i64_w, i32_w]
            rfl
          refine take_ (i := 2) (N := some 52) (v := ?_) (a' := ?_) #[true, true, true, false, true, false, false, false, false] rfl rfl (by kernel_rfl) (fun _ _ _ h => h) (Or.inl ⟨by rfl, ?_⟩) hHeld ?_ ?_
          rotate_left
          · rintro w' ⟨s0, s1⟩
            go_simp
            with_reducible rfl
          rotate_left
          · simp only [Act.put, List.setIfInBounds_toArray, List.set_cons_zero, List.set_cons_succ, i64_w, i32_w]
            rfl
          refine pure_ (i := 3) (N := some 53) (v := ?_) (a' := ?_) #[true, true, true, true, true, false, false, false, false] rfl rfl (by kernel_rfl) (fun _ _ _ h => h) (Or.inl ⟨by rfl, ?_⟩) ?_ ?_
          rotate_left
          · intro w'
            go_simp
            with_reducible rfl
          rotate_left
          · simp only [Act.put, List.setIfInBounds_toArray, List.set_cons_zero, List.set_cons_succ, i64_w, i32_w]
            rfl
          refine take_ (i := 5) (N := some 55) (v := ?_) (a' := ?_) #[true, true, true, true, true, true, false, false, false] rfl rfl (by kernel_rfl) (fun _ _ _ h => h) (Or.inl ⟨by rfl, ?_⟩) hHeld ?_ ?_
          rotate_left
          · rintro w' ⟨s0, s1⟩
            go_simp
            with_reducible rfl
          rotate_left
          · simp only [Act.put, List.setIfInBounds_toArray, List.set_cons_zero, List.set_cons_succ, i64_w, i32_w]
            rfl
          refine one_ (i := 6) (N := some 56) #[true, true, true, true, true, true, true, false, false] rfl rfl (by kernel_rfl) (by decide) (fun K hK => ?_)
          refine goes_ Try.func12 (by kernel_rfl) rfl #[.int .u8 sx] (by rfl) rfl rfl (by (try simp only [List.map_toArray, List.map_cons, List.map_nil]); first | done | rfl) ?_
          refine (block_c sx _).mono ?_
          rintro e w6 ⟨A6, c6, rfl, hc6, hC6, hb6⟩
          have HJ6 := Aside0.mk (HJ.out.below hb6)
          have HSB6 := Aside0.mk (blk_below HSB.out hb6)
          have HC6 := Aside0.mk (And.intro hC6 hc6)
          clear hC6 hc6 hb6 HJ HSB
          refine ⟨_, rfl, ?_⟩
          refine hK.out _ _ ⟨((blk_cell HSB6.out 1).trans rfl), ((blk_cell HSB6.out 3).trans rfl)⟩ (fun hHeld => ?_)
          clear hK K
          refine norm_ (a' := ?_) ?_ ?_
          rotate_left
          · show Act.put _ (some 56) _ = _
            simp only [Act.put, List.setIfInBounds_toArray, List.set_cons_zero, List.set_cons_succ, i64_w, i32_w]
            rfl
          refine last_ (i := 7) (N := some 57) #[true, true, true, true, true, true, true, true, false] rfl rfl (by kernel_rfl) (by decide) (fun K hK => ?_)
          refine goes_ Try.func11 (by kernel_rfl) rfl #[.pointer (some ⟨B, 0, none⟩), .int .i64 (q : Int), .slice A6 256 c6] (by rfl) rfl rfl (by (try simp only [List.map_toArray, List.map_cons, List.map_nil]); first | done | rfl) ?_
          refine (write_n HJ6.out.dj (q := q) (x := sx) HQ.out HC6.out.1 HC6.out.2 HWL.out.1 HWL.out.2).mono ?_
          rintro e w7 ⟨rfl, hd7, hs7⟩
          have HJ7 := Aside0.mk (HJ6.out.stay hd7 hs7)
          have HSB7 := Aside0.mk (blk_stay HSB6.out hs7 HSK.out)
          clear hd7 hs7 HJ6 HSB6 HC6
          refine ⟨_, rfl, ?_⟩
          refine hK.out _ _ ?_
          clear hK K
          refine norm_ (a' := ?_) ?_ ?_
          rotate_left
          · show Act.put _ (some 57) _ = _
            simp only [Act.put, List.setIfInBounds_toArray, List.set_cons_zero, List.set_cons_succ, i64_w, i32_w]
            rfl
          refine pure_ (i := 8) (N := some 58) (v := ?_) (a' := ?_) #[true, true, true, true, true, true, true, true, true] rfl rfl (by kernel_rfl) (fun _ _ _ h => h) (Or.inl ⟨by rfl, ?_⟩) ?_ ?_
          rotate_left
          · intro w'
            go_simp
            with_reducible rfl
          rotate_left
          · simp only [Act.put, List.setIfInBounds_toArray, List.set_cons_zero, List.set_cons_succ, i64_w, i32_w]
            rfl
          refine done_ (by kernel_rfl) ?_
          clear hs1 hs3
          have hs1 : w7.cell? ⟨SB, 1, none⟩ = some (.int .i64 sn) := (blk_cell HSB7.out 1).trans rfl
          have hs3 : w7.cell? ⟨SB, 3, none⟩ = some (.int .u8 sx) := (blk_cell HSB7.out 3).trans rfl
          have hm : w7.cell? ⟨MB, q, none⟩ = some (vs q) := (blk_cell HJ7.out.mi.box q).trans (four vs HQ.out)
          go_upto_region 17 with fail
          refine start_ (n := 14) (S := fun w' => w'.cell? ⟨SB, 1, none⟩ = some (.int .i64 sn) ∧ w'.cell? ⟨SB, 3, none⟩ = some (.int .u8 sx) ∧ w'.cell? ⟨MB, q, none⟩ = some (vs q)) (ds := [13]) #[false, false, false, false, false, false, false, false, false, false, false, false, false, false] (by kernel_rfl) rfl rfl ⟨hs1, hs3, hm⟩ (fun hHeld => ?_)
          have HJD := Aside0.mk (HJ7.out.below (below_drew1 (Below.refl _ _)))
          have HSBD := Aside0.mk (blk_drew HSB7.out)
          clear HJ7 HSB7
          have HJ := HJD
          have HSB := HSBD
          clear HJD HSBD
          generalize w7.drew = wD at hHeld HJ HSB ⊢
          refine pure_ (i := 0) (N := some 59) (v := ?_) (a' := ?_) #[true, false, false, false, false, false, false, false, false, false, false, false, false, false] rfl rfl (by kernel_rfl) (fun _ _ _ h => h) (Or.inl ⟨by rfl, ?_⟩) ?_ ?_
          rotate_left
          · intro w'
            go_simp
            with_reducible rfl
          rotate_left
          · simp only [Act.put, List.setIfInBounds_toArray, List.set_cons_zero, List.set_cons_succ, i64_w, i32_w]
            rfl
          refine pure_ (i := 3) (N := some 62) (v := ?_) (a' := ?_) #[true, false, false, true, false, false, false, false, false, false, false, false, false, false] rfl rfl (by kernel_rfl) (fun _ _ _ h => h) (Or.inl ⟨by rfl, ?_⟩) ?_ ?_
          rotate_left
          · intro w'
            go_simp
            with_reducible rfl
          rotate_left
          · simp only [Act.put, List.setIfInBounds_toArray, List.set_cons_zero, List.set_cons_succ, i64_w, i32_w]
            rfl
          refine pure_ (i := 8) (N := some 67) (v := ?_) (a' := ?_) #[true, false, false, true, false, false, false, false, true, false, false, false, false, false] rfl rfl (by kernel_rfl) (fun _ _ _ h => h) (Or.inl ⟨by rfl, ?_⟩) ?_ ?_
          rotate_left
          · intro w'
            go_simp
            with_reducible rfl
          rotate_left
          · simp only [Act.put, List.setIfInBounds_toArray, List.set_cons_zero, List.set_cons_succ, i64_w, i32_w]
            rfl
          refine take_ (i := 1) (N := some 60) (v := ?_) (a' := ?_) #[true, true, false, true, false, false, false, false, true, false, false, false, false, false] rfl rfl (by kernel_rfl) (fun _ _ _ h => h) (Or.inl ⟨by rfl, ?_⟩) hHeld ?_ ?_
          rotate_left
          · rintro w' ⟨s0, s1, s2⟩
            go_simp
            with_reducible rfl
          rotate_left
          · simp only [Act.put, List.setIfInBounds_toArray, List.set_cons_zero, List.set_cons_succ, i64_w, i32_w]
            rfl
          refine pure_ (i := 2) (N := some 61) (v := ?_) (a' := ?_) #[true, true, true, true, false, false, false, false, true, false, false, false, false, false] rfl rfl (by kernel_rfl) (fun _ _ _ h => h) (Or.inl ⟨by rfl, ?_⟩) ?_ ?_
          rotate_left
          · intro w'
            go_simp
            with_reducible rfl
          rotate_left
          · simp only [Act.put, List.setIfInBounds_toArray, List.set_cons_zero, List.set_cons_succ, i64_w, i32_w]
            rfl
          refine take_ (i := 4) (N := some 63) (v := ?_) (a' := ?_) #[true, true, true, true, true, false, false, false, true, false, false, false, false, false] rfl rfl (by kernel_rfl) (fun _ _ _ h => h) (Or.inl ⟨by rfl, ?_⟩) hHeld ?_ ?_
          rotate_left
          · rintro w' ⟨s0, s1, s2⟩
            go_simp
            with_reducible rfl
          rotate_left
          · simp only [Act.put, List.setIfInBounds_toArray, List.set_cons_zero, List.set_cons_succ, i64_w, i32_w]
            rfl
          refine pure_ (i := 5) (N := some 64) (v := ?_) (a' := ?_) #[true, true, true, true, true, true, false, false, true, false, false, false, false, false] rfl rfl (by kernel_rfl) (fun _ _ _ h => h) (Or.inl ⟨by rfl, ?_⟩) ?_ ?_
          rotate_left
          · intro w'
            go_simp
            with_reducible rfl
          rotate_left
          · simp only [Act.put, List.setIfInBounds_toArray, List.set_cons_zero, List.set_cons_succ, i64_w, i32_w]
            rfl
          refine pure_ (i := 6) (N := some 65) (v := ?_) (a' := ?_) #[true, true, true, true, true, true, true, false, true, false, false, false, false, false] rfl rfl (by kernel_rfl) (fun _ _ _ h => h) (Or.inl ⟨by rfl, ?_⟩) ?_ ?_
          rotate_left
          · intro w'
            go_simp
            with_reducible rfl
          rotate_left
          · simp only [Act.put, List.setIfInBounds_toArray, List.set_cons_zero, List.set_cons_succ, i64_w, i32_w]
            rfl
          refine take_ (i := 7) (N := some 66) (v := ?_) (a' := ?_) #[true, true, true, true, true, true, true, true, true, false, false, false, false, false] rfl rfl (by kernel_rfl) (fun _ _ _ h => h) (Or.inl ⟨by rfl, ?_⟩) hHeld ?_ ?_
          rotate_left
          · rintro w' ⟨s0, s1, s2⟩
            go_simp
            with_reducible rfl
          rotate_left
          · simp only [Act.put, List.setIfInBounds_toArray, List.set_cons_zero, List.set_cons_succ, i64_w, i32_w]
            rfl
          refine take_ (i := 9) (N := some 68) (v := ?_) (a' := ?_) #[true, true, true, true, true, true, true, true, true, true, false, false, false, false] rfl rfl (by kernel_rfl) (fun _ _ _ h => h) (Or.inl ⟨by rfl, ?_⟩) hHeld ?_ ?_
          rotate_left
          · rintro w' ⟨s0, s1, s2⟩
            go_simp
            with_reducible rfl
          rotate_left
          · simp only [Act.put, List.setIfInBounds_toArray, List.set_cons_zero, List.set_cons_succ, i64_w, i32_w]
            rfl
          refine one_ (i := 10) (N := some 69) #[true, true, true, true, true, true, true, true, true, true, true, false, false, false] rfl rfl (by kernel_rfl) (by decide) (fun K hK => ?_)
          refine value_ (w1 := ?_) (v := ?_) (by rfl) rfl ?_ ?_
          rotate_left 2
          · go_simp
            constructor
            · rfl
            · rfl
          refine hK.out _ _ ⟨((blk_cell (blk_alloc HSB.out (.cells #[.int .u8 sx] 5)) 1).trans rfl), ((blk_cell (blk_alloc HSB.out (.cells #[.int .u8 sx] 5)) 3).trans rfl), ((blk_cell (blk_alloc HJ.out.mi.box (.cells #[.int .u8 sx] 5)) q).trans (four vs HQ.out))⟩ (fun hHeld => ?_)
          clear hK K
          refine norm_ (a' := ?_) ?_ ?_
          rotate_left
          · show Act.put _ (some 69) _ = _
            simp only [Act.put, List.setIfInBounds_toArray, List.set_cons_zero, List.set_cons_succ, i64_w, i32_w]
            rfl
          refine one_ (i := 11) (N := some 70) #[true, true, true, true, true, true, true, true, true, true, true, true, false, false] rfl rfl (by kernel_rfl) (by decide) (fun K hK => ?_)
          refine Kd.R_append_step kb (w0 := w) w.heap.size (by rfl) (.tmp 66) (.tmp 69) 35 5 (.int .u8 0) 1 rfl Try.underlying35 info5 rfl (by decide) (by decide) (vs q) (ms q) sx [.int .u8 sx] (fun j => (vs q).ownBlock = some j ∨ wD.heap.size ≤ j) (fun _ => False) rfl rfl rfl (fun k hk => hk.elim) (fun k hk => .inr hk) (Kd.R_mono (HJ.out.mi.row q HQ.out) (fun k hk => .inl hk)) HJ.out.dj.bel HJ.out.dj.bel.size (by have := HML.out; omega) ?_
          intro v4 w4 ho4 hb4 hg4 hat4
          obtain ⟨A4, c4, rfl⟩ := Kd.R_slice ho4
          obtain ⟨KS2, hj2, hks2, hbx⟩ := HJ.out.put HQ.out ho4 hg4 hat4 (by simp)
          have hcz : w4.cell? ⟨MB, q, none⟩ = some (vs q) := (blk_cell hbx q).trans (four vs HQ.out)
          have hfz : w4.frozen? ⟨MB, q, none⟩ = false := blk_frozen hbx q
          have hbs := blk_grown HSB.out hg4 (Kd.R_ne (HJ.out.mi.row q HQ.out) HSB.out (by decide))
          have HP := Aside0.mk hj2
          have HSB4 := Aside0.mk hbs
          clear hbs ho4 hb4 hg4 hat4 hbx hj2 hks2
          obtain ⟨m4, hm4⟩ : ∃ m4, m4 = ms q ++ [sx] := ⟨_, rfl⟩
          rw [← hm4] at HP ⊢
          have HM4 := Aside0.mk hm4
          clear hm4
          revert HP
          generalize m4.length = n4
          intro HP
          refine hK.out _ _ ⟨((blk_cell HSB4.out 1).trans rfl), ((blk_cell HSB4.out 3).trans rfl), hcz⟩ (fun hHeld => ?_)
          clear hK K
          refine norm_ (a' := ?_) ?_ ?_
          rotate_left
          · show Act.put _ (some 70) _ = _
            simp only [Act.put, List.setIfInBounds_toArray, List.set_cons_zero, List.set_cons_succ, i64_w, i32_w]
            rfl
          refine pure_ (i := 12) (N := some 71) (v := ?_) (a' := ?_) #[true, true, true, true, true, true, true, true, true, true, true, true, true, false] rfl rfl (by kernel_rfl) (fun _ _ _ h => h) (Or.inl ⟨by rfl, ?_⟩) ?_ ?_
          rotate_left
          · intro w'
            go_simp
            with_reducible rfl
          rotate_left
          · simp only [Act.put, List.setIfInBounds_toArray, List.set_cons_zero, List.set_cons_succ, i64_w, i32_w]
            rfl
          refine last_ (i := 13) (N := none) #[true, true, true, true, true, true, true, true, true, true, true, true, true, true] rfl rfl (by kernel_rfl) (by decide) (fun K hK => ?_)
          refine Go.Proofs.YtenbcpjlbfojlaaW.PrintLast.skip_ (w1 := ?_) (by rfl) rfl ?_ ?_
          rotate_left
          · go_simp
            rfl
          refine hK.out _ _ ?_
          clear hK K
          refine done_ (by kernel_rfl) ?_
          go_wp2
          go_roundg (gk - 1)
          case measure => omega
          case rel =>
            obtain ⟨h1, h2, h3, h4, h5⟩ := HD.out
            refine ⟨i + 1, by go_num, by omega, ⟨(d.write 4 (q : Int) (like sx)).1, upd ms q m4, _, KS2, HP.out, ?_, ?_, ?_, ?_⟩⟩
            · rw [write_ok HQ.out (like_len sx)]; exact h1
            · rw [write_ok HQ.out (like_len sx), HTK.out, List.map_append, h2]; simp only [List.map_cons, List.map_nil, wrOf]; rw [h5]
            · rw [write_ok HQ.out (like_len sx)]; simp; omega
            · intro k hk
              rw [HTK.out, might_snoc]
              simp only
              by_cases hkq : k = q
              · rw [hkq, upd_on, if_pos h5, HM4.out, h4 q HQ.out]
              · rw [upd_off hkq, if_neg (by omega), h4 k hk]
        · obtain rfl : i = N := by omega
          have hge : decide ((i : Int) < (i : Int)) = false := decide_eq_false (by omega)
          have HJ := Aside0.mk hj
          have HWL := Aside0.mk (show d.waits.length ≤ 100000 from by rw [hdw, List.length_map, List.length_take]; omega)
          have HG := Aside0.mk (fun (k : Nat) (hk : k < 4) (ht : ∀ j : Nat, (j : Int) = torn → j < i → (sAt l j).f1 % 4 ≠ (k : Int)) => show ∃ y, got (d.crash keep torn parts) (k : Int) = like y ∧ y ∈ ms k ∧ (keep = 0 → y = 0) from by
            rw [hms k hk]
            refine got_crashed (l.take i) d hdb hdw keep torn parts k hk (fun j hj hjl => ?_)
            rw [List.length_take] at hjl
            rw [sAt_takes (by omega)]
            exact ht j hj (by omega))
          have HML := Aside0.mk (fun (k : Nat) (hk : k < 4) => show 0 < (ms k).length ∧ (ms k).length ≤ 100 from by rw [hms k hk]; have := might_len (l.take i) k; have := might_pos (l.take i) k; rw [List.length_take] at *; omega)
          clear hj hdb hdw hdt hms
          go_wp2_with (go_at_call 10; (with_reducible refine Calls.mono (crash_dj HJ.out.dj keep torn parts HKP.out HWL.out) ?_); rintro e w8 ⟨rfl, hd8, hs8⟩; have HJ8 := Aside0.mk (HJ.out.stay hd8 hs8); clear hd8 hs8)
          have HD2 := Aside0.mk (show (d.crash keep torn parts).waits = [] from rfl)
          generalize d.crash keep torn parts = d2 at HJ8 HG HD2
          clear HJ HWL
          go_loopg [78] 4 (fun gk v78 w' => ∃ k : Nat, v78 = .int .i64 (k : Int) ∧ k + gk = 4 ∧ Aside0 (∃ vs KS, Jm w B MB d2 ms vs KS w'))
          case atStart => exact ⟨0, rfl, by omega, ⟨_, _, HJ8.out⟩⟩
          case round =>
            clear HJ8
            obtain ⟨k, rfl, hkg, HR⟩ := hrel
            obtain ⟨vs, KS, hj⟩ := HR.out
            clear HR
            have HJ := Aside0.mk hj
            have hbelow := hj.dj.bel
            clear hj
            obtain ⟨gk0, hgk0⟩ : ∃ g, g = gk := ⟨_, rfl⟩
            by_cases hk4 : k < 4
            · have hk0 : (0 : Int) ≤ (k : Int) := by omega
              have hk1 : (k : Int) < 4 := by omega
              have hk2 : decide ((k : Int) < 4) = true := decide_eq_true hk1
              have HK4 := Aside0.mk hk4
              by_cases ht0 : torn < 0
              · have hb1 : decide (torn ≥ 0) = false := decide_eq_false (by omega)
                have hb1' : decide (0 ≤ torn) = false := decide_eq_false (by omega)
                obtain ⟨y, hy1, hy2, hy3⟩ := HG.out k hk4 (fun j hj _ => by omega)
                clear ht0 hbelow
                obtain ⟨Ak, ck, hvk⟩ := Kd.R_slice (HJ.out.mi.row k hk4)
                have HY := Aside0.mk hy2
                have HY3 := Aside0.mk hy3
                have RR := Aside0.mk (read_told HJ.out.dj hk4 hy1 (by rw [HD2.out]; decide))
                have hMl := HML.out k hk4
                obtain ⟨M, hM⟩ : ∃ M, M = (ms k).length := ⟨_, rfl⟩
                rw [← hM] at hvk hMl
                have HM := Aside0.mk hM
                have hM1 : (0 : Int) ≤ (M : Int) := by omega
                have hM2 : (M : Int) ≤ 100 := by omega
                have hvkw := fun (W : World) (h : W.heap[MB]? = some (.cells #[vs 0, vs 1, vs 2, vs 3] 43 (0, 0))) => (blk_cell h k).trans ((four vs HK4.out).trans (congrArg some hvk))
                have HVK := Aside0.mk hvk
                clear hy1 hy2 hy3 hM hk4 hvk
                go_wp2_with (go_at_call 13; (with_reducible refine Calls.mono RR.out ?_); rintro e w2 ⟨a2, c2, rfl, hc2, hC2, hb2, hf2, hl2⟩; have H2 := Aside0.mk (HJ.out.below hb2); have hz := hvkw _ H2.out.mi.box; have HC2 := Aside0.mk hC2; have HC2l := Aside0.mk hc2; clear hC2 hc2 hb2 hf2 hl2)
                clear hz hvkw HJ RR
                go_loopg [18, 109] M (fun gk v18 v109 w' => ∃ j : Nat, v18 = .bool (decide (y ∈ (ms k).take j)) ∧ v109 = .int .i64 (j : Int) ∧ j + gk = M ∧ Aside0 (Jm w B MB d2 ms vs KS w' ∧ Kd.C kb w' (some a2) 256 (like y)))
                case atStart => exact ⟨0, by simp, rfl, by omega, ⟨H2.out, HC2.out⟩⟩
                case round =>
                  clear H2 HC2
                  obtain ⟨j9, rfl, rfl, hjg, HB⟩ := hrel
                  by_cases hlt : j9 < M
                  · have hj0 : (0 : Int) ≤ (j9 : Int) := by omega
                    have hj1 : (j9 : Int) < (M : Int) := by omega
                    have hj2 : decide ((j9 : Int) < (M : Int)) = true := decide_eq_true hj1
                    obtain ⟨ax, rfl, hx9⟩ := Kd.at_int (Kd.R_reads' (HVK.out ▸ HB.out.1.mi.row k HK4.out)).2.2 (j9 : Int) hj0 (by have := HM.out; omega)
                    rw [Int.toNat_natCast] at hx9
                    have HTJ := Aside0.mk (rd_take (xs := ms k) (i := j9) (by have := HM.out; omega))
                    generalize rd (ms k) (j9 : Int) = x at hx9 HTJ
                    by_cases hin : y ∈ (ms k).take j9
                    · have hb9 : decide (y ∈ (ms k).take j9) = true := decide_eq_true hin
                      have HIN := Aside0.mk hin
                      clear hin
                      go_wp2
                      go_roundg (gk - 1)
                      case measure => omega
                      case rel => exact ⟨j9 + 1, by rw [HTJ.out, decide_eq_true (List.mem_append.2 (.inl HIN.out))], by go_num, by omega, HB⟩
                    · have hb9 : decide (y ∈ (ms k).take j9) = false := decide_eq_false hin
                      have HIN := Aside0.mk hin
                      clear hin
                      go_wp2_with (first
                        | (go_at_call 12; (with_reducible refine Calls.mono (block_c x _) ?_); rintro e w3 ⟨A3, c3, rfl, hc3, hC3, hb3⟩; have HB3 := Aside0.mk (And.intro (HB.out.1.below hb3) (Kd.C_below HB.out.2 hb3)); have RS := Aside0.mk (same_two (Kd.C_below HB.out.2 hb3) HC2l.out hC3 hc3); clear hC3 hc3 hb3)
                        | (go_at_call 14; (with_reducible refine Calls.mono RS.out ?_); rintro e w4 ⟨rfl, hb4⟩; have HB4 := Aside0.mk (And.intro (HB3.out.1.below hb4) (Kd.C_below HB3.out.2 hb4)); clear hb4))
                      go_roundg (gk - 1)
                      case measure => omega
                      case rel =>
                        refine ⟨j9 + 1, ?_, by go_num, by omega, HB4⟩
                        rw [HTJ.out]
                        congr 1
                        exact decide_eq_decide.2 ⟨fun h => List.mem_append.2 (.inr (List.mem_singleton.2 h)), fun h => by rcases List.mem_append.1 h with h | h; exact absurd h HIN.out; exact List.mem_singleton.1 h⟩
                  · obtain rfl : j9 = M := by omega
                    have hge2 : decide ((j9 : Int) < (j9 : Int)) = false := decide_eq_false (by omega)
                    have hb9 : decide (y ∈ (ms k).take j9) = true := decide_eq_true (by rw [HM.out, List.take_length]; exact HY.out)
                    by_cases hkp : keep = 0
                    · have hb7 : (keep == 0) = true := beq_iff_eq.mpr hkp
                      have hy0 := HY3.out hkp
                      subst hy0
                      clear hkp
                      go_wp2_with (first
                        | (go_at_call 12; (with_reducible refine Calls.mono (block_c 0 _) ?_); rintro e w3 ⟨A3, c3, rfl, hc3, hC3, hb3⟩; have HB3 := Aside0.mk (HB.out.1.below hb3); have RS := Aside0.mk (same_like (Kd.C_below HB.out.2 hb3) HC2l.out hC3 hc3); clear hC3 hc3 hb3)
                        | (go_at_call 14; (with_reducible refine Calls.mono RS.out ?_); rintro e w4 ⟨rfl, hb4⟩; have HB4 := Aside0.mk (HB3.out.below hb4); clear hb4))
                      go_roundg (gk0 - 1)
                      case measure => omega
                      case rel => exact ⟨k + 1, by go_num, by omega, ⟨_, _, HB4.out⟩⟩
                    · have hb7 : (keep == 0) = false := beq_eq_false_iff_ne.mpr hkp
                      clear hkp
                      go_wp2
                      go_roundg (gk0 - 1)
                      case measure => omega
                      case rel => exact ⟨k + 1, by go_num, by omega, ⟨_, _, HB.out.1⟩⟩
              · have hb1 : decide (torn ≥ 0) = true := decide_eq_true (by omega)
                have hb1' : decide (0 ≤ torn) = true := decide_eq_true (by omega)
                by_cases ht1 : (i : Int) ≤ torn
                · have hb2 : decide (torn < (i : Int)) = false := decide_eq_false (by omega)
                  obtain ⟨y, hy1, hy2, hy3⟩ := HG.out k hk4 (fun j hj _ => by omega)
                  clear ht0 ht1 hbelow
                  obtain ⟨Ak, ck, hvk⟩ := Kd.R_slice (HJ.out.mi.row k hk4)
                  have HY := Aside0.mk hy2
                  have HY3 := Aside0.mk hy3
                  have RR := Aside0.mk (read_told HJ.out.dj hk4 hy1 (by rw [HD2.out]; decide))
                  have hMl := HML.out k hk4
                  obtain ⟨M, hM⟩ : ∃ M, M = (ms k).length := ⟨_, rfl⟩
                  rw [← hM] at hvk hMl
                  have HM := Aside0.mk hM
                  have hM1 : (0 : Int) ≤ (M : Int) := by omega
                  have hM2 : (M : Int) ≤ 100 := by omega
                  have hvkw := fun (W : World) (h : W.heap[MB]? = some (.cells #[vs 0, vs 1, vs 2, vs 3] 43 (0, 0))) => (blk_cell h k).trans ((four vs HK4.out).trans (congrArg some hvk))
                  have HVK := Aside0.mk hvk
                  clear hy1 hy2 hy3 hM hk4 hvk
                  go_wp2_with (go_at_call 13; (with_reducible refine Calls.mono RR.out ?_); rintro e w2 ⟨a2, c2, rfl, hc2, hC2, hb2, hf2, hl2⟩; have H2 := Aside0.mk (HJ.out.below hb2); have hz := hvkw _ H2.out.mi.box; have HC2 := Aside0.mk hC2; have HC2l := Aside0.mk hc2; clear hC2 hc2 hb2 hf2 hl2)
                  clear hz hvkw HJ RR
                  go_loopg [18, 109] M (fun gk v18 v109 w' => ∃ j : Nat, v18 = .bool (decide (y ∈ (ms k).take j)) ∧ v109 = .int .i64 (j : Int) ∧ j + gk = M ∧ Aside0 (Jm w B MB d2 ms vs KS w' ∧ Kd.C kb w' (some a2) 256 (like y)))
                  case atStart => exact ⟨0, by simp, rfl, by omega, ⟨H2.out, HC2.out⟩⟩
                  case round =>
                    clear H2 HC2
                    obtain ⟨j9, rfl, rfl, hjg, HB⟩ := hrel
                    by_cases hlt : j9 < M
                    · have hj0 : (0 : Int) ≤ (j9 : Int) := by omega
                      have hj1 : (j9 : Int) < (M : Int) := by omega
                      have hj2 : decide ((j9 : Int) < (M : Int)) = true := decide_eq_true hj1
                      obtain ⟨ax, rfl, hx9⟩ := Kd.at_int (Kd.R_reads' (HVK.out ▸ HB.out.1.mi.row k HK4.out)).2.2 (j9 : Int) hj0 (by have := HM.out; omega)
                      rw [Int.toNat_natCast] at hx9
                      have HTJ := Aside0.mk (rd_take (xs := ms k) (i := j9) (by have := HM.out; omega))
                      generalize rd (ms k) (j9 : Int) = x at hx9 HTJ
                      by_cases hin : y ∈ (ms k).take j9
                      · have hb9 : decide (y ∈ (ms k).take j9) = true := decide_eq_true hin
                        have HIN := Aside0.mk hin
                        clear hin
                        go_wp2
                        go_roundg (gk - 1)
                        case measure => omega
                        case rel => exact ⟨j9 + 1, by rw [HTJ.out, decide_eq_true (List.mem_append.2 (.inl HIN.out))], by go_num, by omega, HB⟩
                      · have hb9 : decide (y ∈ (ms k).take j9) = false := decide_eq_false hin
                        have HIN := Aside0.mk hin
                        clear hin
                        go_wp2_with (first
                          | (go_at_call 12; (with_reducible refine Calls.mono (block_c x _) ?_); rintro e w3 ⟨A3, c3, rfl, hc3, hC3, hb3⟩; have HB3 := Aside0.mk (And.intro (HB.out.1.below hb3) (Kd.C_below HB.out.2 hb3)); have RS := Aside0.mk (same_two (Kd.C_below HB.out.2 hb3) HC2l.out hC3 hc3); clear hC3 hc3 hb3)
                          | (go_at_call 14; (with_reducible refine Calls.mono RS.out ?_); rintro e w4 ⟨rfl, hb4⟩; have HB4 := Aside0.mk (And.intro (HB3.out.1.below hb4) (Kd.C_below HB3.out.2 hb4)); clear hb4))
                        go_roundg (gk - 1)
                        case measure => omega
                        case rel =>
                          refine ⟨j9 + 1, ?_, by go_num, by omega, HB4⟩
                          rw [HTJ.out]
                          congr 1
                          exact decide_eq_decide.2 ⟨fun h => List.mem_append.2 (.inr (List.mem_singleton.2 h)), fun h => by rcases List.mem_append.1 h with h | h; exact absurd h HIN.out; exact List.mem_singleton.1 h⟩
                    · obtain rfl : j9 = M := by omega
                      have hge2 : decide ((j9 : Int) < (j9 : Int)) = false := decide_eq_false (by omega)
                      have hb9 : decide (y ∈ (ms k).take j9) = true := decide_eq_true (by rw [HM.out, List.take_length]; exact HY.out)
                      by_cases hkp : keep = 0
                      · have hb7 : (keep == 0) = true := beq_iff_eq.mpr hkp
                        have hy0 := HY3.out hkp
                        subst hy0
                        clear hkp
                        go_wp2_with (first
                          | (go_at_call 12; (with_reducible refine Calls.mono (block_c 0 _) ?_); rintro e w3 ⟨A3, c3, rfl, hc3, hC3, hb3⟩; have HB3 := Aside0.mk (HB.out.1.below hb3); have RS := Aside0.mk (same_like (Kd.C_below HB.out.2 hb3) HC2l.out hC3 hc3); clear hC3 hc3 hb3)
                          | (go_at_call 14; (with_reducible refine Calls.mono RS.out ?_); rintro e w4 ⟨rfl, hb4⟩; have HB4 := Aside0.mk (HB3.out.below hb4); clear hb4))
                        go_roundg (gk0 - 1)
                        case measure => omega
                        case rel => exact ⟨k + 1, by go_num, by omega, ⟨_, _, HB4.out⟩⟩
                      · have hb7 : (keep == 0) = false := beq_eq_false_iff_ne.mpr hkp
                        clear hkp
                        go_wp2
                        go_roundg (gk0 - 1)
                        case measure => omega
                        case rel => exact ⟨k + 1, by go_num, by omega, ⟨_, _, HB.out.1⟩⟩
                · have hb2 : decide (torn < (i : Int)) = true := decide_eq_true (by omega)
                  obtain ⟨j, hjt⟩ : ∃ j : Nat, torn = (j : Int) := ⟨torn.toNat, by omega⟩
                  have hjn : j < n := by have := HN.out.1.2; omega
                  obtain ⟨ad, rfl, _, hx1, _, _, _⟩ := at_S (Kd.C_below HC.out hbelow) j hjn
                  have hji : j < i := by omega
                  have hj0 : (0 : Int) ≤ (j : Int) := by omega
                  have hj1 : (j : Int) < (i : Int) := by omega
                  have HGJ := Aside0.mk (fun (h : (sAt l j).f1 % 4 ≠ (k : Int)) => HG.out k hk4 (fun j' hj' _ => by
                    have : j' = j := by omega
                    rw [this]
                    exact h))
                  generalize (sAt l j).f1 = sn at hx1 HGJ
                  obtain ⟨q, hq⟩ : ∃ q : Nat, sn % 4 = (q : Int) := ⟨(sn % 4).toNat, by omega⟩
                  have hand : bits .and .i64 sn 3 = (q : Int) := (and3 sn).trans hq
                  by_cases hqk : q = k
                  · have hb3 : ((q : Int) == (k : Int)) = true := beq_iff_eq.mpr (by omega)
                    have hb3' : (q == k) = true := beq_iff_eq.mpr hqk
                    clear ht0 ht1 hbelow hq hji
                    subst hjt
                    go_wp2
                    go_roundg (gk - 1)
                    case measure => omega
                    case rel => exact ⟨k + 1, by go_num, by omega, ⟨_, _, HJ.out⟩⟩
                  · have hb3 : ((q : Int) == (k : Int)) = false := beq_eq_false_iff_ne.mpr (by omega)
                    have hb3' : (q == k) = false := beq_eq_false_iff_ne.mpr hqk
                    obtain ⟨y, hy1, hy2, hy3⟩ := HGJ.out (by omega)
                    clear ht0 ht1 hbelow hq hji HGJ hqk
                    subst hjt
                    obtain ⟨Ak, ck, hvk⟩ := Kd.R_slice (HJ.out.mi.row k hk4)
                    have HY := Aside0.mk hy2
                    have HY3 := Aside0.mk hy3
                    have RR := Aside0.mk (read_told HJ.out.dj hk4 hy1 (by rw [HD2.out]; decide))
                    have hMl := HML.out k hk4
                    obtain ⟨M, hM⟩ : ∃ M, M = (ms k).length := ⟨_, rfl⟩
                    rw [← hM] at hvk hMl
                    have HM := Aside0.mk hM
                    have hM1 : (0 : Int) ≤ (M : Int) := by omega
                    have hM2 : (M : Int) ≤ 100 := by omega
                    have hvkw := fun (W : World) (h : W.heap[MB]? = some (.cells #[vs 0, vs 1, vs 2, vs 3] 43 (0, 0))) => (blk_cell h k).trans ((four vs HK4.out).trans (congrArg some hvk))
                    have HVK := Aside0.mk hvk
                    clear hy1 hy2 hy3 hM hk4 hvk
                    go_wp2_with (go_at_call 13; (with_reducible refine Calls.mono RR.out ?_); rintro e w2 ⟨a2, c2, rfl, hc2, hC2, hb2, hf2, hl2⟩; have H2 := Aside0.mk (HJ.out.below hb2); have hz := hvkw _ H2.out.mi.box; have HC2 := Aside0.mk hC2; have HC2l := Aside0.mk hc2; clear hC2 hc2 hb2 hf2 hl2)
                    clear hz hvkw HJ RR
                    go_loopg [18, 109] M (fun gk v18 v109 w' => ∃ j : Nat, v18 = .bool (decide (y ∈ (ms k).take j)) ∧ v109 = .int .i64 (j : Int) ∧ j + gk = M ∧ Aside0 (Jm w B MB d2 ms vs KS w' ∧ Kd.C kb w' (some a2) 256 (like y)))
                    case atStart => exact ⟨0, by simp, rfl, by omega, ⟨H2.out, HC2.out⟩⟩
                    case round =>
                      clear H2 HC2
                      obtain ⟨j9, rfl, rfl, hjg, HB⟩ := hrel
                      by_cases hlt : j9 < M
                      · have hj0 : (0 : Int) ≤ (j9 : Int) := by omega
                        have hj1 : (j9 : Int) < (M : Int) := by omega
                        have hj2 : decide ((j9 : Int) < (M : Int)) = true := decide_eq_true hj1
                        obtain ⟨ax, rfl, hx9⟩ := Kd.at_int (Kd.R_reads' (HVK.out ▸ HB.out.1.mi.row k HK4.out)).2.2 (j9 : Int) hj0 (by have := HM.out; omega)
                        rw [Int.toNat_natCast] at hx9
                        have HTJ := Aside0.mk (rd_take (xs := ms k) (i := j9) (by have := HM.out; omega))
                        generalize rd (ms k) (j9 : Int) = x at hx9 HTJ
                        by_cases hin : y ∈ (ms k).take j9
                        · have hb9 : decide (y ∈ (ms k).take j9) = true := decide_eq_true hin
                          have HIN := Aside0.mk hin
                          clear hin
                          go_wp2
                          go_roundg (gk - 1)
                          case measure => omega
                          case rel => exact ⟨j9 + 1, by rw [HTJ.out, decide_eq_true (List.mem_append.2 (.inl HIN.out))], by go_num, by omega, HB⟩
                        · have hb9 : decide (y ∈ (ms k).take j9) = false := decide_eq_false hin
                          have HIN := Aside0.mk hin
                          clear hin
                          go_wp2_with (first
                            | (go_at_call 12; (with_reducible refine Calls.mono (block_c x _) ?_); rintro e w3 ⟨A3, c3, rfl, hc3, hC3, hb3⟩; have HB3 := Aside0.mk (And.intro (HB.out.1.below hb3) (Kd.C_below HB.out.2 hb3)); have RS := Aside0.mk (same_two (Kd.C_below HB.out.2 hb3) HC2l.out hC3 hc3); clear hC3 hc3 hb3)
                            | (go_at_call 14; (with_reducible refine Calls.mono RS.out ?_); rintro e w4 ⟨rfl, hb4⟩; have HB4 := Aside0.mk (And.intro (HB3.out.1.below hb4) (Kd.C_below HB3.out.2 hb4)); clear hb4))
                          go_roundg (gk - 1)
                          case measure => omega
                          case rel =>
                            refine ⟨j9 + 1, ?_, by go_num, by omega, HB4⟩
                            rw [HTJ.out]
                            congr 1
                            exact decide_eq_decide.2 ⟨fun h => List.mem_append.2 (.inr (List.mem_singleton.2 h)), fun h => by rcases List.mem_append.1 h with h | h; exact absurd h HIN.out; exact List.mem_singleton.1 h⟩
                      · obtain rfl : j9 = M := by omega
                        have hge2 : decide ((j9 : Int) < (j9 : Int)) = false := decide_eq_false (by omega)
                        have hb9 : decide (y ∈ (ms k).take j9) = true := decide_eq_true (by rw [HM.out, List.take_length]; exact HY.out)
                        by_cases hkp : keep = 0
                        · have hb7 : (keep == 0) = true := beq_iff_eq.mpr hkp
                          have hy0 := HY3.out hkp
                          subst hy0
                          clear hkp
                          go_wp2_with (first
                            | (go_at_call 12; (with_reducible refine Calls.mono (block_c 0 _) ?_); rintro e w3 ⟨A3, c3, rfl, hc3, hC3, hb3⟩; have HB3 := Aside0.mk (HB.out.1.below hb3); have RS := Aside0.mk (same_like (Kd.C_below HB.out.2 hb3) HC2l.out hC3 hc3); clear hC3 hc3 hb3)
                            | (go_at_call 14; (with_reducible refine Calls.mono RS.out ?_); rintro e w4 ⟨rfl, hb4⟩; have HB4 := Aside0.mk (HB3.out.below hb4); clear hb4))
                          go_roundg (gk0 - 1)
                          case measure => omega
                          case rel => exact ⟨k + 1, by go_num, by omega, ⟨_, _, HB4.out⟩⟩
                        · have hb7 : (keep == 0) = false := beq_eq_false_iff_ne.mpr hkp
                          clear hkp
                          go_wp2
                          go_roundg (gk0 - 1)
                          case measure => omega
                          case rel => exact ⟨k + 1, by go_num, by omega, ⟨_, _, HB.out.1⟩⟩
            · obtain rfl : k = 4 := by omega
              clear hbelow
              go_wp2_with (first
                | (go_at_call 16; refine (waiting_none HJ.out.dj HD2.out).mono ?_; rintro e w8 ⟨A8, c8, rfl, hb8⟩; have HB8 := Aside0.mk (below_step HJ.out.dj.bel hb8); clear hb8)
                | (go_at_call 15; refine (alive_calls _).mono ?_; rintro e w9 ⟨rfl, hb⟩; have HB9 := Aside0.mk (below_step HB8.out hb); clear hb))
              go_ret
              exact ⟨rfl, HB9.out⟩
end Go.Proofs.Ytenbcpjlbfojlaa.DA
