/- Two stores to which the same was done: the walk. -/
import Derived.Test.YtenbcpjlbfojlaaEL
namespace Go.Proofs.Ytenbcpjlbfojlaa.DA
open Go.RowKit Go.Proofs.YtenbcpjlbfojlaaW.PrintWords Go.Proofs.YtenbcpjlbfojlaaW.PrintLast Go.Proofs.YtenbcpjlbfojlaaW.PrintMore Go.Proofs.Ytenbcpjlbfojlaa.PD
set_option linter.unusedVariables false
set_option linter.unusedSimpArgs false
set_option maxHeartbeats 16000000 in
set_option maxRecDepth 100000 in
theorem same_main (A : Option Addr) (len c : Nat) (l : List S31) (xk xn xa xx xp : Int) (w : World) (hC : Kd.C k31 w A len l) (hnc : len ≤ c) (hc : c ≤ 9223372036854775807) (hs : Steps l) :
    Calls Try.prog 6 #[.slice A len c, .agg #[.int .u8 xk, .int .i64 xn, .int .i64 xa, .int .u8 xx, .int .u64 xp]] w fun e w' => e = .returned (.bool true) ∧ Below w.heap.size w w' := by
  obtain ⟨M, hM⟩ : ∃ M, M = min len 60 := ⟨_, rfl⟩
  have R8 := Aside0.mk (fun W => (show Calls Try.prog 8 #[.slice A len c] W fun e w' => e = .returned (.slice A M c) ∧ w' = W from hM ▸ short_calls A len c hnc hc W))
  have hln : l.length = len := hC.1
  have HN := Aside0.mk (show (M ≤ 60 ∧ M ≤ len) ∧ l.length = len from ⟨by omega, hln⟩)
  have HC := Aside0.mk hC
  have HS := Aside0.mk hs
  clear hC hs hM hln
  go_enter Try.func6, Try.ntmps6
  go_wp2
  have a1 := below_alloc (Below.refl w.heap.size w) (.cells #[.int .u8 xk, .int .i64 xn, .int .i64 xa, .int .u8 xx, .int .u64 xp] 31)
  have b1 := blk_new w (.cells #[.int .u8 xk, .int .i64 xn, .int .i64 xa, .int .u8 xx, .int .u64 xp] 31)
  have s1 : (w.alloc (.cells #[.int .u8 xk, .int .i64 xn, .int .i64 xa, .int .u8 xx, .int .u64 xp] 31)).heap.size = w.heap.size + 1 := by simp
  generalize w.alloc (.cells #[.int .u8 xk, .int .i64 xn, .int .i64 xa, .int .u8 xx, .int .u64 xp] 31) = wX at a1 b1 s1 ⊢
  have a2 := below_alloc (Below.refl wX.heap.size wX) (.cells #[.slice none 0 0, .slice none 0 0, .slice none 0 0, .slice none 0 0] 62)
  have b2 := blk_new wX (.cells #[.slice none 0 0, .slice none 0 0, .slice none 0 0, .slice none 0 0] 62)
  have s2 : (wX.alloc (.cells #[.slice none 0 0, .slice none 0 0, .slice none 0 0, .slice none 0 0] 62)).heap.size = wX.heap.size + 1 := by simp
  generalize wX.alloc (.cells #[.slice none 0 0, .slice none 0 0, .slice none 0 0, .slice none 0 0] 62) = wE at a2 b2 s2 ⊢
  have a3 := below_alloc (Below.refl wE.heap.size wE) (.cells #[.pointer none, .pointer (some ⟨w.heap.size + 1, 0, none⟩)] 23)
  have b3 := blk_new wE (.cells #[.pointer none, .pointer (some ⟨w.heap.size + 1, 0, none⟩)] 23)
  generalize wE.alloc (.cells #[.pointer none, .pointer (some ⟨w.heap.size + 1, 0, none⟩)] 23) = wA at a3 b3 ⊢
  rw [s1] at b2
  rw [s2, s1] at b3
  have hb23 := below_step a2 a3
  have HXA := Aside0.mk (blk_below b1 hb23)
  have HEA := Aside0.mk (blk_below b2 a3)
  have HLA := Aside0.mk b3
  have HBA := Aside0.mk (below_step a1 hb23)
  clear a1 a2 a3 b1 b2 b3 s1 s2 hb23
  generalize hXB : w.heap.size = XB at HXA HEA HLA ⊢
  generalize hEB : XB + 1 = EB at HEA HLA ⊢
  generalize hLB : EB + 1 = LB at HLA ⊢
  clear hXB hEB hLB
  go_loopg [28] 2 (fun gk v28 w' => ∃ i : Nat, v28 = .int .i64 (i : Int) ∧ i + gk = 2 ∧ Aside0 (Below wA.heap.size wA w'))
  case atStart => exact ⟨0, rfl, rfl, ⟨Below.refl _ _⟩⟩
  case round =>
    obtain ⟨i, rfl, hig, HR⟩ := hrel
    have HXO := Aside0.mk (blk_below HXA.out HR.out)
    by_cases hlt : i < 2
    · obtain ⟨p, hx, HP⟩ : ∃ p, wr.cell? ⟨LB, i, none⟩ = some (.pointer p) ∧ Aside0 (Hol p wr) := by
        have hl := blk_below HLA.out HR.out
        have he := blk_below HEA.out HR.out
        rcases (show i = 0 ∨ i = 1 by omega) with rfl | rfl
        · exact ⟨none, (blk_cell hl 0).trans rfl, ⟨.inl rfl⟩⟩
        · exact ⟨some ⟨EB, 0, none⟩, (blk_cell hl 1).trans rfl, ⟨.inr ⟨EB, rfl, he⟩⟩⟩
      have h0 : (0 : Int) ≤ (i : Int) := by omega
      have h1 : (i : Int) < 2 := by omega
      have h2 : decide ((i : Int) < 2) = true := decide_eq_true h1
      have hc1 : wr.cell? ⟨XB, 1, none⟩ = some (.int .i64 xn) := (blk_cell HXO.out 1).trans rfl
      obtain ⟨gk0, hgk0⟩ : ∃ g, g = gk := ⟨_, rfl⟩
      go_upto_region 7 with (first
        | (go_at_call 13; (with_reducible refine Calls.mono (hol_read HP.out xn) ?_); rintro e wB ⟨rfl, hb⟩; have HP1 := Aside0.mk (HP.out.below hb); have HXO1 := Aside0.mk (blk_below HXO.out hb); have HBB := Aside0.mk (below_step HR.out hb); have hd1 : wB.cell? ⟨XB, 1, none⟩ = some (.int .i64 xn) := (blk_cell HXO1.out 1).trans rfl; have hd2 : wB.cell? ⟨XB, 2, none⟩ = some (.int .i64 xa) := (blk_cell HXO1.out 2).trans rfl; have hd4 : wB.cell? ⟨XB, 4, none⟩ = some (.int .u64 xp) := (blk_cell HXO1.out 4).trans rfl; clear hb)
        | (go_at_call 23; (with_reducible refine Calls.mono (hol_put HP1.out) ?_); rintro e w2 ⟨rfl, rfl⟩)
        | (go_at_call 10; (with_reducible refine Calls.mono (hol_crash HP1.out xp xn xa) ?_); rintro e w2 ⟨rfl, rfl⟩)
        | fail)
      clear HP HXO HR
      have HP := HP1
      have HXO := HXO1
      have HBR := HBB
      clear HP1 HXO1 HBB hd1 hd2 hd4 hc1 hx
      have hz0 : wrap64 0 = 0 := by unfold wrap64; rfl
      have hz1 : ((0 : Nat) : Int) = 0 := rfl
      refine start_ (n := 64) (S := fun w' => w'.cell? ⟨XB, 1, none⟩ = some (.int .i64 xn) ∧ w'.cell? ⟨XB, 2, none⟩ = some (.int .i64 xa)) (ds := []) #[false, false, false, false, false, false, false, false, false, false, false, false, false, false, false, false, false, false, false, false, false, false, false, false, false, false, false, false, false, false, false, false, false, false, false, false, false, false, false, false, false, false, false, false, false, false, false, false, false, false, false, false, false, false, false, false, false, false, false, false, false, false, false, false] (by kernel_rfl) rfl rfl ⟨((blk_cell HXO.out 1).trans rfl), ((blk_cell HXO.out 2).trans rfl)⟩ (fun hHeld => ?_)
      have HP0 := Aside0.mk (HP.out.below (below_drew1 (Below.refl _ _)))
      have HXO0 := Aside0.mk (blk_drew HXO.out)
      have HBR0 := Aside0.mk (below_drew1 HBR.out)
      clear HP HXO HBR
      generalize wB.drew = wD at hHeld HP0 HXO0 HBR0 ⊢
      refine pure_ (i := 0) (N := some 52) (v := ?_) (a' := ?_) #[true, false, false, false, false, false, false, false, false, false, false, false, false, false, false, false, false, false, false, false, false, false, false, false, false, false, false, false, false, false, false, false, false, false, false, false, false, false, false, false, false, false, false, false, false, false, false, false, false, false, false, false, false, false, false, false, false, false, false, false, false, false, false, false] rfl rfl (by kernel_rfl) (fun _ _ _ h => h) (Or.inl ⟨by rfl, ?_⟩) ?_ ?_
      rotate_left
      · intro w'
        go_simp
        with_reducible rfl
      rotate_left
      · simp only [Act.put, List.setIfInBounds_toArray, List.set_cons_zero, List.set_cons_succ, i64_w, i32_w, hz0, hz1]
        rfl
      refine pure_ (i := 1) (N := some 53) (v := ?_) (a' := ?_) #[true, true, false, false, false, false, false, false, false, false, false, false, false, false, false, false, false, false, false, false, false, false, false, false, false, false, false, false, false, false, false, false, false, false, false, false, false, false, false, false, false, false, false, false, false, false, false, false, false, false, false, false, false, false, false, false, false, false, false, false, false, false, false, false] rfl rfl (by kernel_rfl) (fun _ _ _ h => h) (Or.inl ⟨by rfl, ?_⟩) ?_ ?_
      rotate_left
      · intro w'
        go_simp
        with_reducible rfl
      rotate_left
      · simp only [Act.put, List.setIfInBounds_toArray, List.set_cons_zero, List.set_cons_succ, i64_w, i32_w, hz0, hz1]
        rfl
      refine pure_ (i := 2) (N := some 54) (v := ?_) (a' := ?_) #[true, true, true, false, false, false, false, false, false, false, false, false, false, false, false, false, false, false, false, false, false, false, false, false, false, false, false, false, false, false, false, false, false, false, false, false, false, false, false, false, false, false, false, false, false, false, false, false, false, false, false, false, false, false, false, false, false, false, false, false, false, false, false, false] rfl rfl (by kernel_rfl) (fun _ _ _ h => h) (Or.inl ⟨by rfl, ?_⟩) ?_ ?_
      rotate_left
      · intro w'
        go_simp
        with_reducible rfl
      rotate_left
      · simp only [Act.put, List.setIfInBounds_toArray, List.set_cons_zero, List.set_cons_succ, i64_w, i32_w, hz0, hz1]
        rfl
      refine pure_ (i := 3) (N := some 55) (v := ?_) (a' := ?_) #[true, true, true, true, false, false, false, false, false, false, false, false, false, false, false, false, false, false, false, false, false, false, false, false, false, false, false, false, false, false, false, false, false, false, false, false, false, false, false, false, false, false, false, false, false, false, false, false, false, false, false, false, false, false, false, false, false, false, false, false, false, false, false, false] rfl rfl (by kernel_rfl) (fun _ _ _ h => h) (Or.inl ⟨by rfl, ?_⟩) ?_ ?_
      rotate_left
      · intro w'
        go_simp
        with_reducible rfl
      rotate_left
      · simp only [Act.put, List.setIfInBounds_toArray, List.set_cons_zero, List.set_cons_succ, i64_w, i32_w, hz0, hz1]
        rfl
      refine pure_ (i := 4) (N := some 56) (v := ?_) (a' := ?_) #[true, true, true, true, true, false, false, false, false, false, false, false, false, false, false, false, false, false, false, false, false, false, false, false, false, false, false, false, false, false, false, false, false, false, false, false, false, false, false, false, false, false, false, false, false, false, false, false, false, false, false, false, false, false, false, false, false, false, false, false, false, false, false, false] rfl rfl (by kernel_rfl) (fun _ _ _ h => h) (Or.inl ⟨by rfl, ?_⟩) ?_ ?_
      rotate_left
      · intro w'
        go_simp
        with_reducible rfl
      rotate_left
      · simp only [Act.put, List.setIfInBounds_toArray, List.set_cons_zero, List.set_cons_succ, i64_w, i32_w, hz0, hz1]
        rfl
      refine pure_ (i := 5) (N := some 57) (v := ?_) (a' := ?_) #[true, true, true, true, true, true, false, false, false, false, false, false, false, false, false, false, false, false, false, false, false, false, false, false, false, false, false, false, false, false, false, false, false, false, false, false, false, false, false, false, false, false, false, false, false, false, false, false, false, false, false, false, false, false, false, false, false, false, false, false, false, false, false, false] rfl rfl (by kernel_rfl) (fun _ _ _ h => h) (Or.inl ⟨by rfl, ?_⟩) ?_ ?_
      rotate_left
      · intro w'
        go_simp
        with_reducible rfl
      rotate_left
      · simp only [Act.put, List.setIfInBounds_toArray, List.set_cons_zero, List.set_cons_succ, i64_w, i32_w, hz0, hz1]
        rfl
      refine pure_ (i := 6) (N := some 58) (v := ?_) (a' := ?_) #[true, true, true, true, true, true, true, false, false, false, false, false, false, false, false, false, false, false, false, false, false, false, false, false, false, false, false, false, false, false, false, false, false, false, false, false, false, false, false, false, false, false, false, false, false, false, false, false, false, false, false, false, false, false, false, false, false, false, false, false, false, false, false, false] rfl rfl (by kernel_rfl) (fun _ _ _ h => h) (Or.inl ⟨by rfl, ?_⟩) ?_ ?_
      rotate_left
      · intro w'
        go_simp
        with_reducible rfl
      rotate_left
      · simp only [Act.put, List.setIfInBounds_toArray, List.set_cons_zero, List.set_cons_succ, i64_w, i32_w, hz0, hz1]
        rfl
      refine pure_ (i := 7) (N := some 59) (v := ?_) (a' := ?_) #[true, true, true, true, true, true, true, true, false, false, false, false, false, false, false, false, false, false, false, false, false, false, false, false, false, false, false, false, false, false, false, false, false, false, false, false, false, false, false, false, false, false, false, false, false, false, false, false, false, false, false, false, false, false, false, false, false, false, false, false, false, false, false, false] rfl rfl (by kernel_rfl) (fun _ _ _ h => h) (Or.inl ⟨by rfl, ?_⟩) ?_ ?_
      rotate_left
      · intro w'
        go_simp
        with_reducible rfl
      rotate_left
      · simp only [Act.put, List.setIfInBounds_toArray, List.set_cons_zero, List.set_cons_succ, i64_w, i32_w, hz0, hz1]
        rfl
      refine pure_ (i := 8) (N := some 60) (v := ?_) (a' := ?_) #[true, true, true, true, true, true, true, true, true, false, false, false, false, false, false, false, false, false, false, false, false, false, false, false, false, false, false, false, false, false, false, false, false, false, false, false, false, false, false, false, false, false, false, false, false, false, false, false, false, false, false, false, false, false, false, false, false, false, false, false, false, false, false, false] rfl rfl (by kernel_rfl) (fun _ _ _ h => h) (Or.inl ⟨by rfl, ?_⟩) ?_ ?_
      rotate_left
      · intro w'
        go_simp
        with_reducible rfl
      rotate_left
      · simp only [Act.put, List.setIfInBounds_toArray, List.set_cons_zero, List.set_cons_succ, i64_w, i32_w, hz0, hz1]
        rfl
      refine pure_ (i := 9) (N := some 61) (v := ?_) (a' := ?_) #[true, true, true, true, true, true, true, true, true, true, false, false, false, false, false, false, false, false, false, false, false, false, false, false, false, false, false, false, false, false, false, false, false, false, false, false, false, false, false, false, false, false, false, false, false, false, false, false, false, false, false, false, false, false, false, false, false, false, false, false, false, false, false, false] rfl rfl (by kernel_rfl) (fun _ _ _ h => h) (Or.inl ⟨by rfl, ?_⟩) ?_ ?_
      rotate_left
      · intro w'
        go_simp
        with_reducible rfl
      rotate_left
      · simp only [Act.put, List.setIfInBounds_toArray, List.set_cons_zero, List.set_cons_succ, i64_w, i32_w, hz0, hz1]
        rfl
      refine pure_ (i := 10) (N := some 62) (v := ?_) (a' := ?_) #[true, true, true, true, true, true, true, true, true, true, true, false, false, false, false, false, false, false, false, false, false, false, false, false, false, false, false, false, false, false, false, false, false, false, false, false, false, false, false, false, false, false, false, false, false, false, false, false, false, false, false, false, false, false, false, false, false, false, false, false, false, false, false, false] rfl rfl (by kernel_rfl) (fun _ _ _ h => h) (Or.inl ⟨by rfl, ?_⟩) ?_ ?_
      rotate_left
      · intro w'
        go_simp
        with_reducible rfl
      rotate_left
      · simp only [Act.put, List.setIfInBounds_toArray, List.set_cons_zero, List.set_cons_succ, i64_w, i32_w, hz0, hz1]
        rfl
      refine pure_ (i := 11) (N := some 63) (v := ?_) (a' := ?_) #[true, true, true, true, true, true, true, true, true, true, true, true, false, false, false, false, false, false, false, false, false, false, false, false, false, false, false, false, false, false, false, false, false, false, false, false, false, false, false, false, false, false, false, false, false, false, false, false, false, false, false, false, false, false, false, false, false, false, false, false, false, false, false, false] rfl rfl (by kernel_rfl) (fun _ _ _ h => h) (Or.inl ⟨by rfl, ?_⟩) ?_ ?_
      rotate_left
      · intro w'
        go_simp
        with_reducible rfl
      rotate_left
      · simp only [Act.put, List.setIfInBounds_toArray, List.set_cons_zero, List.set_cons_succ, i64_w, i32_w, hz0, hz1]
        rfl
      refine pure_ (i := 12) (N := some 64) (v := ?_) (a' := ?_) #[true, true, true, true, true, true, true, true, true, true, true, true, true, false, false, false, false, false, false, false, false, false, false, false, false, false, false, false, false, false, false, false, false, false, false, false, false, false, false, false, false, false, false, false, false, false, false, false, false, false, false, false, false, false, false, false, false, false, false, false, false, false, false, false] rfl rfl (by kernel_rfl) (fun _ _ _ h => h) (Or.inl ⟨by rfl, ?_⟩) ?_ ?_
      rotate_left
      · intro w'
        go_simp
        with_reducible rfl
      rotate_left
      · simp only [Act.put, List.setIfInBounds_toArray, List.set_cons_zero, List.set_cons_succ, i64_w, i32_w, hz0, hz1]
        rfl
      refine pure_ (i := 13) (N := some 65) (v := ?_) (a' := ?_) #[true, true, true, true, true, true, true, true, true, true, true, true, true, true, false, false, false, false, false, false, false, false, false, false, false, false, false, false, false, false, false, false, false, false, false, false, false, false, false, false, false, false, false, false, false, false, false, false, false, false, false, false, false, false, false, false, false, false, false, false, false, false, false, false] rfl rfl (by kernel_rfl) (fun _ _ _ h => h) (Or.inl ⟨by rfl, ?_⟩) ?_ ?_
      rotate_left
      · intro w'
        go_simp
        with_reducible rfl
      rotate_left
      · simp only [Act.put, List.setIfInBounds_toArray, List.set_cons_zero, List.set_cons_succ, i64_w, i32_w, hz0, hz1]
        rfl
      refine pure_ (i := 14) (N := some 66) (v := ?_) (a' := ?_) #[true, true, true, true, true, true, true, true, true, true, true, true, true, true, true, false, false, false, false, false, false, false, false, false, false, false, false, false, false, false, false, false, false, false, false, false, false, false, false, false, false, false, false, false, false, false, false, false, false, false, false, false, false, false, false, false, false, false, false, false, false, false, false, false] rfl rfl (by kernel_rfl) (fun _ _ _ h => h) (Or.inl ⟨by rfl, ?_⟩) ?_ ?_
      rotate_left
      · intro w'
        go_simp
        with_reducible rfl
      rotate_left
      · simp only [Act.put, List.setIfInBounds_toArray, List.set_cons_zero, List.set_cons_succ, i64_w, i32_w, hz0, hz1]
        rfl
      refine pure_ (i := 15) (N := some 67) (v := ?_) (a' := ?_) #[true, true, true, true, true, true, true, true, true, true, true, true, true, true, true, true, false, false, false, false, false, false, false, false, false, false, false, false, false, false, false, false, false, false, false, false, false, false, false, false, false, false, false, false, false, false, false, false, false, false, false, false, false, false, false, false, false, false, false, false, false, false, false, false] rfl rfl (by kernel_rfl) (fun _ _ _ h => h) (Or.inl ⟨by rfl, ?_⟩) ?_ ?_
      rotate_left
      · intro w'
        go_simp
        with_reducible rfl
      rotate_left
      · simp only [Act.put, List.setIfInBounds_toArray, List.set_cons_zero, List.set_cons_succ, i64_w, i32_w, hz0, hz1]
        rfl
      as_aux_lemma =>
        refine pure_ (i := 16) (N := some 68) (v := ?_) (a' := ?_) #[true, true, true, true, true, true, true, true, true, true, true, true, true, true, true, true, true, false, false, false, false, false, false, false, false, false, false, false, false, false, false, false, false, false, false, false, false, false, false, false, false, false, false, false, false, false, false, false, false, false, false, false, false, false, false, false, false, false, false, false, false, false, false, false] rfl rfl (by kernel_rfl) (fun _ _ _ h => h) (Or.inl ⟨by rfl, ?_⟩) ?_ ?_
        rotate_left
        · intro w'
          go_simp
          with_reducible rfl
        rotate_left
        · simp only [Act.put, List.setIfInBounds_toArray, List.set_cons_zero, List.set_cons_succ, i64_w, i32_w, hz0, hz1]
          rfl
        refine pure_ (i := 17) (N := some 69) (v := ?_) (a' := ?_) #[true, true, true, true, true, true, true, true, true, true, true, true, true, true, true, true, true, true, false, false, false, false, false, false, false, false, false, false, false, false, false, false, false, false, false, false, false, false, false, false, false, false, false, false, false, false, false, false, false, false, false, false, false, false, false, false, false, false, false, false, false, false, false, false] rfl rfl (by kernel_rfl) (fun _ _ _ h => h) (Or.inl ⟨by rfl, ?_⟩) ?_ ?_
        rotate_left
        · intro w'
          go_simp
          with_reducible rfl
        rotate_left
        · simp only [Act.put, List.setIfInBounds_toArray, List.set_cons_zero, List.set_cons_succ, i64_w, i32_w, hz0, hz1]
          rfl
        refine take_ (i := 18) (N := some 70) (v := ?_) (a' := ?_) #[true, true, true, true, true, true, true, true, true, true, true, true, true, true, true, true, true, true, true, false, false, false, false, false, false, false, false, false, false, false, false, false, false, false, false, false, false, false, false, false, false, false, false, false, false, false, false, false, false, false, false, false, false, false, false, false, false, false, false, false, false, false, false, false] rfl rfl (by kernel_rfl) (fun _ _ _ h => h) (Or.inl ⟨by rfl, ?_⟩) hHeld ?_ ?_
        rotate_left
        · rintro w' ⟨s0, s1⟩
          go_simp
          with_reducible rfl
        rotate_left
        · simp only [Act.put, List.setIfInBounds_toArray, List.set_cons_zero, List.set_cons_succ, i64_w, i32_w, hz0, hz1]
          rfl
        refine one_ (i := 19) (N := some 71) #[true, true, true, true, true, true, true, true, true, true, true, true, true, true, true, true, true, true, true, true, false, false, false, false, false, false, false, false, false, false, false, false, false, false, false, false, false, false, false, false, false, false, false, false, false, false, false, false, false, false, false, false, false, false, false, false, false, false, false, false, false, false, false, false] rfl rfl (by kernel_rfl) (by decide) (fun K hK => ?_)
        refine goes_ Try.func12 (by kernel_rfl) rfl #[.int .u8 1] (by rfl) rfl rfl (by (try simp only [List.map_toArray, List.map_cons, List.map_nil]); first | done | rfl) ?_
        refine (block_calls 1 _).mono ?_
        rintro e w101 ⟨vb, rfl, _, hb⟩
        have HP1 := Aside0.mk (HP0.out.below hb)
        have HXO1 := Aside0.mk (blk_below HXO0.out hb)
        have HBR1 := Aside0.mk (below_step HBR0.out hb)
        clear hb
        refine ⟨_, rfl, ?_⟩
        refine hK.out _ _ ⟨((blk_cell HXO1.out 1).trans rfl), ((blk_cell HXO1.out 2).trans rfl)⟩ (fun hHeld => ?_)
        clear hK K
        refine norm_ (a' := ?_) ?_ ?_
        rotate_left
        · show Act.put _ (some 71) _ = _
          simp only [Act.put, List.setIfInBounds_toArray, List.set_cons_zero, List.set_cons_succ, i64_w, i32_w, hz0, hz1]
          rfl
        refine one_ (i := 20) (N := some 72) #[true, true, true, true, true, true, true, true, true, true, true, true, true, true, true, true, true, true, true, true, true, false, false, false, false, false, false, false, false, false, false, false, false, false, false, false, false, false, false, false, false, false, false, false, false, false, false, false, false, false, false, false, false, false, false, false, false, false, false, false, false, false, false, false] rfl rfl (by kernel_rfl) (by decide) (fun K hK => ?_)
        refine goes_ Try.func11 (by kernel_rfl) rfl #[.pointer p, .int .i64 xn, vb] (by rfl) rfl rfl (by (try simp only [List.map_toArray, List.map_cons, List.map_nil]); first | done | rfl) ?_
        refine (hol_write HP1.out xn vb).mono ?_
        rintro e w102 ⟨rfl, rfl⟩
        have HP2 := HP1
        have HXO2 := HXO1
        have HBR2 := HBR1
        refine ⟨_, rfl, ?_⟩
        refine hK.out _ _ ⟨((blk_cell HXO2.out 1).trans rfl), ((blk_cell HXO2.out 2).trans rfl)⟩ (fun hHeld => ?_)
        clear hK K
        refine norm_ (a' := ?_) ?_ ?_
        rotate_left
        · show Act.put _ (some 72) _ = _
          simp only [Act.put, List.setIfInBounds_toArray, List.set_cons_zero, List.set_cons_succ, i64_w, i32_w, hz0, hz1]
          rfl
        refine pure_ (i := 21) (N := some 73) (v := ?_) (a' := ?_) #[true, true, true, true, true, true, true, true, true, true, true, true, true, true, true, true, true, true, true, true, true, true, false, false, false, false, false, false, false, false, false, false, false, false, false, false, false, false, false, false, false, false, false, false, false, false, false, false, false, false, false, false, false, false, false, false, false, false, false, false, false, false, false, false] rfl rfl (by kernel_rfl) (fun _ _ _ h => h) (Or.inl ⟨by rfl, ?_⟩) ?_ ?_
        rotate_left
        · intro w'
          go_simp
          with_reducible rfl
        rotate_left
        · simp only [Act.put, List.setIfInBounds_toArray, List.set_cons_zero, List.set_cons_succ, i64_w, i32_w, hz0, hz1]
          rfl
        refine pure_ (i := 22) (N := some 74) (v := ?_) (a' := ?_) #[true, true, true, true, true, true, true, true, true, true, true, true, true, true, true, true, true, true, true, true, true, true, true, false, false, false, false, false, false, false, false, false, false, false, false, false, false, false, false, false, false, false, false, false, false, false, false, false, false, false, false, false, false, false, false, false, false, false, false, false, false, false, false, false] rfl rfl (by kernel_rfl) (fun _ _ _ h => h) (Or.inl ⟨by rfl, ?_⟩) ?_ ?_
        rotate_left
        · intro w'
          go_simp
          with_reducible rfl
        rotate_left
        · simp only [Act.put, List.setIfInBounds_toArray, List.set_cons_zero, List.set_cons_succ, i64_w, i32_w, hz0, hz1]
          rfl
        refine pure_ (i := 23) (N := some 75) (v := ?_) (a' := ?_) #[true, true, true, true, true, true, true, true, true, true, true, true, true, true, true, true, true, true, true, true, true, true, true, true, false, false, false, false, false, false, false, false, false, false, false, false, false, false, false, false, false, false, false, false, false, false, false, false, false, false, false, false, false, false, false, false, false, false, false, false, false, false, false, false] rfl rfl (by kernel_rfl) (fun _ _ _ h => h) (Or.inl ⟨by rfl, ?_⟩) ?_ ?_
        rotate_left
        · intro w'
          go_simp
          with_reducible rfl
        rotate_left
        · simp only [Act.put, List.setIfInBounds_toArray, List.set_cons_zero, List.set_cons_succ, i64_w, i32_w, hz0, hz1]
          rfl
        refine pure_ (i := 24) (N := some 76) (v := ?_) (a' := ?_) #[true, true, true, true, true, true, true, true, true, true, true, true, true, true, true, true, true, true, true, true, true, true, true, true, true, false, false, false, false, false, false, false, false, false, false, false, false, false, false, false, false, false, false, false, false, false, false, false, false, false, false, false, false, false, false, false, false, false, false, false, false, false, false, false] rfl rfl (by kernel_rfl) (fun _ _ _ h => h) (Or.inl ⟨by rfl, ?_⟩) ?_ ?_
        rotate_left
        · intro w'
          go_simp
          with_reducible rfl
        rotate_left
        · simp only [Act.put, List.setIfInBounds_toArray, List.set_cons_zero, List.set_cons_succ, i64_w, i32_w, hz0, hz1]
          rfl
        refine pure_ (i := 25) (N := some 77) (v := ?_) (a' := ?_) #[true, true, true, true, true, true, true, true, true, true, true, true, true, true, true, true, true, true, true, true, true, true, true, true, true, true, false, false, false, false, false, false, false, false, false, false, false, false, false, false, false, false, false, false, false, false, false, false, false, false, false, false, false, false, false, false, false, false, false, false, false, false, false, false] rfl rfl (by kernel_rfl) (fun _ _ _ h => h) (Or.inl ⟨by rfl, ?_⟩) ?_ ?_
        rotate_left
        · intro w'
          go_simp
          with_reducible rfl
        rotate_left
        · simp only [Act.put, List.setIfInBounds_toArray, List.set_cons_zero, List.set_cons_succ, i64_w, i32_w, hz0, hz1]
          rfl
        refine pure_ (i := 27) (N := some 79) (v := ?_) (a' := ?_) #[true, true, true, true, true, true, true, true, true, true, true, true, true, true, true, true, true, true, true, true, true, true, true, true, true, true, false, true, false, false, false, false, false, false, false, false, false, false, false, false, false, false, false, false, false, false, false, false, false, false, false, false, false, false, false, false, false, false, false, false, false, false, false, false] rfl rfl (by kernel_rfl) (fun _ _ _ h => h) (Or.inl ⟨by rfl, ?_⟩) ?_ ?_
        rotate_left
        · intro w'
          go_simp
          with_reducible rfl
        rotate_left
        · simp only [Act.put, List.setIfInBounds_toArray, List.set_cons_zero, List.set_cons_succ, i64_w, i32_w, hz0, hz1]
          rfl
        refine take_ (i := 26) (N := some 78) (v := ?_) (a' := ?_) #[true, true, true, true, true, true, true, true, true, true, true, true, true, true, true, true, true, true, true, true, true, true, true, true, true, true, true, true, false, false, false, false, false, false, false, false, false, false, false, false, false, false, false, false, false, false, false, false, false, false, false, false, false, false, false, false, false, false, false, false, false, false, false, false] rfl rfl (by kernel_rfl) (fun _ _ _ h => h) (Or.inl ⟨by rfl, ?_⟩) hHeld ?_ ?_
        rotate_left
        · rintro w' ⟨s0, s1⟩
          go_simp
          with_reducible rfl
        rotate_left
        · simp only [Act.put, List.setIfInBounds_toArray, List.set_cons_zero, List.set_cons_succ, i64_w, i32_w, hz0, hz1]
          rfl
        as_aux_lemma =>
          refine take_ (i := 28) (N := some 80) (v := ?_) (a' := ?_) #[true, true, true, true, true, true, true, true, true, true, true, true, true, true, true, true, true, true, true, true, true, true, true, true, true, true, true, true, true, false, false, false, false, false, false, false, false, false, false, false, false, false, false, false, false, false, false, false, false, false, false, false, false, false, false, false, false, false, false, false, false, false, false, false] rfl rfl (by kernel_rfl) (fun _ _ _ h => h) (Or.inl ⟨by rfl, ?_⟩) hHeld ?_ ?_
          rotate_left
          · rintro w' ⟨s0, s1⟩
            go_simp
            with_reducible rfl
          rotate_left
          · simp only [Act.put, List.setIfInBounds_toArray, List.set_cons_zero, List.set_cons_succ, i64_w, i32_w, hz0, hz1]
            rfl
          refine one_ (i := 29) (N := some 81) #[true, true, true, true, true, true, true, true, true, true, true, true, true, true, true, true, true, true, true, true, true, true, true, true, true, true, true, true, true, true, false, false, false, false, false, false, false, false, false, false, false, false, false, false, false, false, false, false, false, false, false, false, false, false, false, false, false, false, false, false, false, false, false, false] rfl rfl (by kernel_rfl) (by decide) (fun K hK => ?_)
          refine goes_ Try.func24 (by kernel_rfl) rfl #[.pointer p, .int .i64 xn, .int .i64 xa, .slice none 0 0] (by rfl) rfl rfl (by (try simp only [List.map_toArray, List.map_cons, List.map_nil]); first | done | rfl) ?_
          refine (hol_tamper HP2.out xn xa (.slice none 0 0)).mono ?_
          rintro e w103 ⟨rfl, rfl⟩
          have HP3 := HP2
          have HXO3 := HXO2
          have HBR3 := HBR2
          refine ⟨_, rfl, ?_⟩
          refine hK.out _ _ ⟨((blk_cell HXO3.out 1).trans rfl), ((blk_cell HXO3.out 2).trans rfl)⟩ (fun hHeld => ?_)
          clear hK K
          refine norm_ (a' := ?_) ?_ ?_
          rotate_left
          · show Act.put _ (some 81) _ = _
            simp only [Act.put, List.setIfInBounds_toArray, List.set_cons_zero, List.set_cons_succ, i64_w, i32_w, hz0, hz1]
            rfl
          refine pure_ (i := 30) (N := some 82) (v := ?_) (a' := ?_) #[true, true, true, true, true, true, true, true, true, true, true, true, true, true, true, true, true, true, true, true, true, true, true, true, true, true, true, true, true, true, true, false, false, false, false, false, false, false, false, false, false, false, false, false, false, false, false, false, false, false, false, false, false, false, false, false, false, false, false, false, false, false, false, false] rfl rfl (by kernel_rfl) (fun _ _ _ h => h) (Or.inl ⟨by rfl, ?_⟩) ?_ ?_
          rotate_left
          · intro w'
            go_simp
            with_reducible rfl
          rotate_left
          · simp only [Act.put, List.setIfInBounds_toArray, List.set_cons_zero, List.set_cons_succ, i64_w, i32_w, hz0, hz1]
            rfl
          refine pure_ (i := 31) (N := some 83) (v := ?_) (a' := ?_) #[true, true, true, true, true, true, true, true, true, true, true, true, true, true, true, true, true, true, true, true, true, true, true, true, true, true, true, true, true, true, true, true, false, false, false, false, false, false, false, false, false, false, false, false, false, false, false, false, false, false, false, false, false, false, false, false, false, false, false, false, false, false, false, false] rfl rfl (by kernel_rfl) (fun _ _ _ h => h) (Or.inl ⟨by rfl, ?_⟩) ?_ ?_
          rotate_left
          · intro w'
            go_simp
            with_reducible rfl
          rotate_left
          · simp only [Act.put, List.setIfInBounds_toArray, List.set_cons_zero, List.set_cons_succ, i64_w, i32_w, hz0, hz1]
            rfl
          refine pure_ (i := 32) (N := some 84) (v := ?_) (a' := ?_) #[true, true, true, true, true, true, true, true, true, true, true, true, true, true, true, true, true, true, true, true, true, true, true, true, true, true, true, true, true, true, true, true, true, false, false, false, false, false, false, false, false, false, false, false, false, false, false, false, false, false, false, false, false, false, false, false, false, false, false, false, false, false, false, false] rfl rfl (by kernel_rfl) (fun _ _ _ h => h) (Or.inl ⟨by rfl, ?_⟩) ?_ ?_
          rotate_left
          · intro w'
            go_simp
            with_reducible rfl
          rotate_left
          · simp only [Act.put, List.setIfInBounds_toArray, List.set_cons_zero, List.set_cons_succ, i64_w, i32_w, hz0, hz1]
            rfl
          refine pure_ (i := 33) (N := some 85) (v := ?_) (a' := ?_) #[true, true, true, true, true, true, true, true, true, true, true, true, true, true, true, true, true, true, true, true, true, true, true, true, true, true, true, true, true, true, true, true, true, true, false, false, false, false, false, false, false, false, false, false, false, false, false, false, false, false, false, false, false, false, false, false, false, false, false, false, false, false, false, false] rfl rfl (by kernel_rfl) (fun _ _ _ h => h) (Or.inl ⟨by rfl, ?_⟩) ?_ ?_
          rotate_left
          · intro w'
            go_simp
            with_reducible rfl
          rotate_left
          · simp only [Act.put, List.setIfInBounds_toArray, List.set_cons_zero, List.set_cons_succ, i64_w, i32_w, hz0, hz1]
            rfl
          refine pure_ (i := 34) (N := some 86) (v := ?_) (a' := ?_) #[true, true, true, true, true, true, true, true, true, true, true, true, true, true, true, true, true, true, true, true, true, true, true, true, true, true, true, true, true, true, true, true, true, true, true, false, false, false, false, false, false, false, false, false, false, false, false, false, false, false, false, false, false, false, false, false, false, false, false, false, false, false, false, false] rfl rfl (by kernel_rfl) (fun _ _ _ h => h) (Or.inl ⟨by rfl, ?_⟩) ?_ ?_
          rotate_left
          · intro w'
            go_simp
            with_reducible rfl
          rotate_left
          · simp only [Act.put, List.setIfInBounds_toArray, List.set_cons_zero, List.set_cons_succ, i64_w, i32_w, hz0, hz1]
            rfl
          refine take_ (i := 35) (N := some 87) (v := ?_) (a' := ?_) #[true, true, true, true, true, true, true, true, true, true, true, true, true, true, true, true, true, true, true, true, true, true, true, true, true, true, true, true, true, true, true, true, true, true, true, true, false, false, false, false, false, false, false, false, false, false, false, false, false, false, false, false, false, false, false, false, false, false, false, false, false, false, false, false] rfl rfl (by kernel_rfl) (fun _ _ _ h => h) (Or.inl ⟨by rfl, ?_⟩) hHeld ?_ ?_
          rotate_left
          · rintro w' ⟨s0, s1⟩
            go_simp
            with_reducible rfl
          rotate_left
          · simp only [Act.put, List.setIfInBounds_toArray, List.set_cons_zero, List.set_cons_succ, i64_w, i32_w, hz0, hz1]
            rfl
          as_aux_lemma =>
            refine one_ (i := 36) (N := some 88) #[true, true, true, true, true, true, true, true, true, true, true, true, true, true, true, true, true, true, true, true, true, true, true, true, true, true, true, true, true, true, true, true, true, true, true, true, true, false, false, false, false, false, false, false, false, false, false, false, false, false, false, false, false, false, false, false, false, false, false, false, false, false, false, false] rfl rfl (by kernel_rfl) (by decide) (fun K hK => ?_)
            refine goes_ Try.func25 (by kernel_rfl) rfl #[.pointer p, .int .i64 xa] (by rfl) rfl rfl (by (try simp only [List.map_toArray, List.map_cons, List.map_nil]); first | done | rfl) ?_
            refine (hol_restore HP3.out xa).mono ?_
            rintro e w104 ⟨rfl, rfl⟩
            have HP4 := HP3
            have HXO4 := HXO3
            have HBR4 := HBR3
            refine ⟨_, rfl, ?_⟩
            refine hK.out _ _ ⟨((blk_cell HXO4.out 1).trans rfl), ((blk_cell HXO4.out 2).trans rfl)⟩ (fun hHeld => ?_)
            clear hK K
            refine norm_ (a' := ?_) ?_ ?_
            rotate_left
            · show Act.put _ (some 88) _ = _
              simp only [Act.put, List.setIfInBounds_toArray, List.set_cons_zero, List.set_cons_succ, i64_w, i32_w, hz0, hz1]
              rfl
            refine pure_ (i := 37) (N := some 89) (v := ?_) (a' := ?_) #[true, true, true, true, true, true, true, true, true, true, true, true, true, true, true, true, true, true, true, true, true, true, true, true, true, true, true, true, true, true, true, true, true, true, true, true, true, true, false, false, false, false, false, false, false, false, false, false, false, false, false, false, false, false, false, false, false, false, false, false, false, false, false, false] rfl rfl (by kernel_rfl) (fun _ _ _ h => h) (Or.inl ⟨by rfl, ?_⟩) ?_ ?_
            rotate_left
            · intro w'
              go_simp
              with_reducible rfl
            rotate_left
            · simp only [Act.put, List.setIfInBounds_toArray, List.set_cons_zero, List.set_cons_succ, i64_w, i32_w, hz0, hz1]
              rfl
            refine pure_ (i := 38) (N := some 90) (v := ?_) (a' := ?_) #[true, true, true, true, true, true, true, true, true, true, true, true, true, true, true, true, true, true, true, true, true, true, true, true, true, true, true, true, true, true, true, true, true, true, true, true, true, true, true, false, false, false, false, false, false, false, false, false, false, false, false, false, false, false, false, false, false, false, false, false, false, false, false, false] rfl rfl (by kernel_rfl) (fun _ _ _ h => h) (Or.inl ⟨by rfl, ?_⟩) ?_ ?_
            rotate_left
            · intro w'
              go_simp
              with_reducible rfl
            rotate_left
            · simp only [Act.put, List.setIfInBounds_toArray, List.set_cons_zero, List.set_cons_succ, i64_w, i32_w, hz0, hz1]
              rfl
            refine pure_ (i := 39) (N := some 91) (v := ?_) (a' := ?_) #[true, true, true, true, true, true, true, true, true, true, true, true, true, true, true, true, true, true, true, true, true, true, true, true, true, true, true, true, true, true, true, true, true, true, true, true, true, true, true, true, false, false, false, false, false, false, false, false, false, false, false, false, false, false, false, false, false, false, false, false, false, false, false, false] rfl rfl (by kernel_rfl) (fun _ _ _ h => h) (Or.inl ⟨by rfl, ?_⟩) ?_ ?_
            rotate_left
            · intro w'
              go_simp
              with_reducible rfl
            rotate_left
            · simp only [Act.put, List.setIfInBounds_toArray, List.set_cons_zero, List.set_cons_succ, i64_w, i32_w, hz0, hz1]
              rfl
            refine pure_ (i := 40) (N := some 92) (v := ?_) (a' := ?_) #[true, true, true, true, true, true, true, true, true, true, true, true, true, true, true, true, true, true, true, true, true, true, true, true, true, true, true, true, true, true, true, true, true, true, true, true, true, true, true, true, true, false, false, false, false, false, false, false, false, false, false, false, false, false, false, false, false, false, false, false, false, false, false, false] rfl rfl (by kernel_rfl) (fun _ _ _ h => h) (Or.inl ⟨by rfl, ?_⟩) ?_ ?_
            rotate_left
            · intro w'
              go_simp
              with_reducible rfl
            rotate_left
            · simp only [Act.put, List.setIfInBounds_toArray, List.set_cons_zero, List.set_cons_succ, i64_w, i32_w, hz0, hz1]
              rfl
            refine pure_ (i := 42) (N := some 94) (v := ?_) (a' := ?_) #[true, true, true, true, true, true, true, true, true, true, true, true, true, true, true, true, true, true, true, true, true, true, true, true, true, true, true, true, true, true, true, true, true, true, true, true, true, true, true, true, true, false, true, false, false, false, false, false, false, false, false, false, false, false, false, false, false, false, false, false, false, false, false, false] rfl rfl (by kernel_rfl) (fun _ _ _ h => h) (Or.inl ⟨by rfl, ?_⟩) ?_ ?_
            rotate_left
            · intro w'
              go_simp
              with_reducible rfl
            rotate_left
            · simp only [Act.put, List.setIfInBounds_toArray, List.set_cons_zero, List.set_cons_succ, i64_w, i32_w, hz0, hz1]
              rfl
            refine pure_ (i := 45) (N := some 97) (v := ?_) (a' := ?_) #[true, true, true, true, true, true, true, true, true, true, true, true, true, true, true, true, true, true, true, true, true, true, true, true, true, true, true, true, true, true, true, true, true, true, true, true, true, true, true, true, true, false, true, false, false, true, false, false, false, false, false, false, false, false, false, false, false, false, false, false, false, false, false, false] rfl rfl (by kernel_rfl) (fun _ _ _ h => h) (Or.inl ⟨by rfl, ?_⟩) ?_ ?_
            rotate_left
            · intro w'
              go_simp
              with_reducible rfl
            rotate_left
            · simp only [Act.put, List.setIfInBounds_toArray, List.set_cons_zero, List.set_cons_succ, i64_w, i32_w, hz0, hz1]
              rfl
            refine pure_ (i := 49) (N := some 101) (v := ?_) (a' := ?_) #[true, true, true, true, true, true, true, true, true, true, true, true, true, true, true, true, true, true, true, true, true, true, true, true, true, true, true, true, true, true, true, true, true, true, true, true, true, true, true, true, true, false, true, false, false, true, false, false, false, true, false, false, false, false, false, false, false, false, false, false, false, false, false, false] rfl rfl (by kernel_rfl) (fun _ _ _ h => h) (Or.inl ⟨by rfl, ?_⟩) ?_ ?_
            rotate_left
            · intro w'
              go_simp
              with_reducible rfl
            rotate_left
            · simp only [Act.put, List.setIfInBounds_toArray, List.set_cons_zero, List.set_cons_succ, i64_w, i32_w, hz0, hz1]
              rfl
            refine pure_ (i := 53) (N := some 105) (v := ?_) (a' := ?_) #[true, true, true, true, true, true, true, true, true, true, true, true, true, true, true, true, true, true, true, true, true, true, true, true, true, true, true, true, true, true, true, true, true, true, true, true, true, true, true, true, true, false, true, false, false, true, false, false, false, true, false, false, false, true, false, false, false, false, false, false, false, false, false, false] rfl rfl (by kernel_rfl) (fun _ _ _ h => h) (Or.inl ⟨by rfl, ?_⟩) ?_ ?_
            rotate_left
            · intro w'
              go_simp
              with_reducible rfl
            rotate_left
            · simp only [Act.put, List.setIfInBounds_toArray, List.set_cons_zero, List.set_cons_succ, i64_w, i32_w, hz0, hz1]
              rfl
            refine one_ (i := 41) (N := some 93) #[true, true, true, true, true, true, true, true, true, true, true, true, true, true, true, true, true, true, true, true, true, true, true, true, true, true, true, true, true, true, true, true, true, true, true, true, true, true, true, true, true, true, true, false, false, true, false, false, false, true, false, false, false, true, false, false, false, false, false, false, false, false, false, false] rfl rfl (by kernel_rfl) (by decide) (fun K hK => ?_)
            refine goes_ Try.func9 (by kernel_rfl) rfl #[.pointer p] (by rfl) rfl rfl (by (try simp only [List.map_toArray, List.map_cons, List.map_nil]); first | done | rfl) ?_
            refine (hol_flush HP4.out).mono ?_
            rintro e w105 ⟨rfl, rfl⟩
            have HP5 := HP4
            have HXO5 := HXO4
            have HBR5 := HBR4
            refine ⟨_, rfl, ?_⟩
            refine hK.out _ _ ⟨((blk_cell HXO5.out 1).trans rfl), ((blk_cell HXO5.out 2).trans rfl)⟩ (fun hHeld => ?_)
            clear hK K
            refine norm_ (a' := ?_) ?_ ?_
            rotate_left
            · show Act.put _ (some 93) _ = _
              simp only [Act.put, List.setIfInBounds_toArray, List.set_cons_zero, List.set_cons_succ, i64_w, i32_w, hz0, hz1]
              rfl
            refine one_ (i := 43) (N := some 95) #[true, true, true, true, true, true, true, true, true, true, true, true, true, true, true, true, true, true, true, true, true, true, true, true, true, true, true, true, true, true, true, true, true, true, true, true, true, true, true, true, true, true, true, true, false, true, false, false, false, true, false, false, false, true, false, false, false, false, false, false, false, false, false, false] rfl rfl (by kernel_rfl) (by decide) (fun K hK => ?_)
            refine goes_ Try.func19 (by kernel_rfl) rfl #[.pointer p] (by rfl) rfl rfl (by (try simp only [List.map_toArray, List.map_cons, List.map_nil]); first | done | rfl) ?_
            refine (hol_len HP5.out).mono ?_
            rintro e w106 ⟨rfl, rfl⟩
            have HP6 := HP5
            have HXO6 := HXO5
            have HBR6 := HBR5
            refine ⟨_, rfl, ?_⟩
            refine hK.out _ _ ⟨((blk_cell HXO6.out 1).trans rfl), ((blk_cell HXO6.out 2).trans rfl)⟩ (fun hHeld => ?_)
            clear hK K
            refine norm_ (a' := ?_) ?_ ?_
            rotate_left
            · show Act.put _ (some 95) _ = _
              simp only [Act.put, List.setIfInBounds_toArray, List.set_cons_zero, List.set_cons_succ, i64_w, i32_w, hz0, hz1]
              rfl
            as_aux_lemma =>
              refine pure_ (i := 44) (N := some 96) (v := ?_) (a' := ?_) #[true, true, true, true, true, true, true, true, true, true, true, true, true, true, true, true, true, true, true, true, true, true, true, true, true, true, true, true, true, true, true, true, true, true, true, true, true, true, true, true, true, true, true, true, true, true, false, false, false, true, false, false, false, true, false, false, false, false, false, false, false, false, false, false] rfl rfl (by kernel_rfl) (fun _ _ _ h => h) (Or.inl ⟨by rfl, ?_⟩) ?_ ?_
              rotate_left
              · intro w'
                go_simp
                with_reducible rfl
              rotate_left
              · simp only [Act.put, List.setIfInBounds_toArray, List.set_cons_zero, List.set_cons_succ, i64_w, i32_w, hz0, hz1]
                rfl
              refine one_ (i := 46) (N := some 98) #[true, true, true, true, true, true, true, true, true, true, true, true, true, true, true, true, true, true, true, true, true, true, true, true, true, true, true, true, true, true, true, true, true, true, true, true, true, true, true, true, true, true, true, true, true, true, true, false, false, true, false, false, false, true, false, false, false, false, false, false, false, false, false, false] rfl rfl (by kernel_rfl) (by decide) (fun K hK => ?_)
              refine goes_ Try.func16 (by kernel_rfl) rfl #[.pointer p] (by rfl) rfl rfl (by (try simp only [List.map_toArray, List.map_cons, List.map_nil]); first | done | rfl) ?_
              refine (hol_waiting HP6.out).mono ?_
              rintro e w107 ⟨rfl, rfl⟩
              have HP7 := HP6
              have HXO7 := HXO6
              have HBR7 := HBR6
              refine ⟨_, rfl, ?_⟩
              refine hK.out _ _ ⟨((blk_cell HXO7.out 1).trans rfl), ((blk_cell HXO7.out 2).trans rfl)⟩ (fun hHeld => ?_)
              clear hK K
              refine norm_ (a' := ?_) ?_ ?_
              rotate_left
              · show Act.put _ (some 98) _ = _
                simp only [Act.put, List.setIfInBounds_toArray, List.set_cons_zero, List.set_cons_succ, i64_w, i32_w, hz0, hz1]
                rfl
              refine pure_ (i := 47) (N := some 99) (v := ?_) (a' := ?_) #[true, true, true, true, true, true, true, true, true, true, true, true, true, true, true, true, true, true, true, true, true, true, true, true, true, true, true, true, true, true, true, true, true, true, true, true, true, true, true, true, true, true, true, true, true, true, true, true, false, true, false, false, false, true, false, false, false, false, false, false, false, false, false, false] rfl rfl (by kernel_rfl) (fun _ _ _ h => h) (Or.inl ⟨by rfl, ?_⟩) ?_ ?_
              rotate_left
              · intro w'
                go_simp
                with_reducible rfl
              rotate_left
              · simp only [Act.put, List.setIfInBounds_toArray, List.set_cons_zero, List.set_cons_succ, i64_w, i32_w, hz0, hz1]
                rfl
              refine pure_ (i := 48) (N := some 100) (v := ?_) (a' := ?_) #[true, true, true, true, true, true, true, true, true, true, true, true, true, true, true, true, true, true, true, true, true, true, true, true, true, true, true, true, true, true, true, true, true, true, true, true, true, true, true, true, true, true, true, true, true, true, true, true, true, true, false, false, false, true, false, false, false, false, false, false, false, false, false, false] rfl rfl (by kernel_rfl) (fun _ _ _ h => h) (Or.inl ⟨by rfl, ?_⟩) ?_ ?_
              rotate_left
              · intro w'
                go_simp
                with_reducible rfl
              rotate_left
              · simp only [Act.put, List.setIfInBounds_toArray, List.set_cons_zero, List.set_cons_succ, i64_w, i32_w, hz0, hz1]
                rfl
              refine one_ (i := 50) (N := some 102) #[true, true, true, true, true, true, true, true, true, true, true, true, true, true, true, true, true, true, true, true, true, true, true, true, true, true, true, true, true, true, true, true, true, true, true, true, true, true, true, true, true, true, true, true, true, true, true, true, true, true, true, false, false, true, false, false, false, false, false, false, false, false, false, false] rfl rfl (by kernel_rfl) (by decide) (fun K hK => ?_)
              refine goes_ Try.func20 (by kernel_rfl) rfl #[.pointer p] (by rfl) rfl rfl (by (try simp only [List.map_toArray, List.map_cons, List.map_nil]); first | done | rfl) ?_
              refine (hol_bytes HP7.out).mono ?_
              rintro e w108 ⟨rfl, rfl⟩
              have HP8 := HP7
              have HXO8 := HXO7
              have HBR8 := HBR7
              refine ⟨_, rfl, ?_⟩
              refine hK.out _ _ ⟨((blk_cell HXO8.out 1).trans rfl), ((blk_cell HXO8.out 2).trans rfl)⟩ (fun hHeld => ?_)
              clear hK K
              refine norm_ (a' := ?_) ?_ ?_
              rotate_left
              · show Act.put _ (some 102) _ = _
                simp only [Act.put, List.setIfInBounds_toArray, List.set_cons_zero, List.set_cons_succ, i64_w, i32_w, hz0, hz1]
                rfl
              refine pure_ (i := 51) (N := some 103) (v := ?_) (a' := ?_) #[true, true, true, true, true, true, true, true, true, true, true, true, true, true, true, true, true, true, true, true, true, true, true, true, true, true, true, true, true, true, true, true, true, true, true, true, true, true, true, true, true, true, true, true, true, true, true, true, true, true, true, true, false, true, false, false, false, false, false, false, false, false, false, false] rfl rfl (by kernel_rfl) (fun _ _ _ h => h) (Or.inl ⟨by rfl, ?_⟩) ?_ ?_
              rotate_left
              · intro w'
                go_simp
                with_reducible rfl
              rotate_left
              · simp only [Act.put, List.setIfInBounds_toArray, List.set_cons_zero, List.set_cons_succ, i64_w, i32_w, hz0, hz1]
                rfl
              as_aux_lemma =>
                refine pure_ (i := 52) (N := some 104) (v := ?_) (a' := ?_) #[true, true, true, true, true, true, true, true, true, true, true, true, true, true, true, true, true, true, true, true, true, true, true, true, true, true, true, true, true, true, true, true, true, true, true, true, true, true, true, true, true, true, true, true, true, true, true, true, true, true, true, true, true, true, false, false, false, false, false, false, false, false, false, false] rfl rfl (by kernel_rfl) (fun _ _ _ h => h) (Or.inl ⟨by rfl, ?_⟩) ?_ ?_
                rotate_left
                · intro w'
                  go_simp
                  with_reducible rfl
                rotate_left
                · simp only [Act.put, List.setIfInBounds_toArray, List.set_cons_zero, List.set_cons_succ, i64_w, i32_w, hz0, hz1]
                  rfl
                refine one_ (i := 54) (N := some 106) #[true, true, true, true, true, true, true, true, true, true, true, true, true, true, true, true, true, true, true, true, true, true, true, true, true, true, true, true, true, true, true, true, true, true, true, true, true, true, true, true, true, true, true, true, true, true, true, true, true, true, true, true, true, true, true, false, false, false, false, false, false, false, false, false] rfl rfl (by kernel_rfl) (by decide) (fun K hK => ?_)
                refine goes_ Try.func22 (by kernel_rfl) rfl #[.pointer p] (by rfl) rfl rfl (by (try simp only [List.map_toArray, List.map_cons, List.map_nil]); first | done | rfl) ?_
                refine (hol_trace HP8.out).mono ?_
                rintro e w109 ⟨rfl, rfl⟩
                have HP9 := HP8
                have HXO9 := HXO8
                have HBR9 := HBR8
                refine ⟨_, rfl, ?_⟩
                refine hK.out _ _ ⟨((blk_cell HXO9.out 1).trans rfl), ((blk_cell HXO9.out 2).trans rfl)⟩ (fun hHeld => ?_)
                clear hK K
                refine norm_ (a' := ?_) ?_ ?_
                rotate_left
                · show Act.put _ (some 106) _ = _
                  simp only [Act.put, List.setIfInBounds_toArray, List.set_cons_zero, List.set_cons_succ, i64_w, i32_w, hz0, hz1]
                  rfl
                refine pure_ (i := 55) (N := some 107) (v := ?_) (a' := ?_) #[true, true, true, true, true, true, true, true, true, true, true, true, true, true, true, true, true, true, true, true, true, true, true, true, true, true, true, true, true, true, true, true, true, true, true, true, true, true, true, true, true, true, true, true, true, true, true, true, true, true, true, true, true, true, true, true, false, false, false, false, false, false, false, false] rfl rfl (by kernel_rfl) (fun _ _ _ h => h) (Or.inl ⟨by rfl, ?_⟩) ?_ ?_
                rotate_left
                · intro w'
                  go_simp
                  with_reducible rfl
                rotate_left
                · simp only [Act.put, List.setIfInBounds_toArray, List.set_cons_zero, List.set_cons_succ, i64_w, i32_w, hz0, hz1]
                  rfl
                refine pure_ (i := 56) (N := some 108) (v := ?_) (a' := ?_) #[true, true, true, true, true, true, true, true, true, true, true, true, true, true, true, true, true, true, true, true, true, true, true, true, true, true, true, true, true, true, true, true, true, true, true, true, true, true, true, true, true, true, true, true, true, true, true, true, true, true, true, true, true, true, true, true, true, false, false, false, false, false, false, false] rfl rfl (by kernel_rfl) (fun _ _ _ h => h) (Or.inl ⟨by rfl, ?_⟩) ?_ ?_
                rotate_left
                · intro w'
                  go_simp
                  with_reducible rfl
                rotate_left
                · simp only [Act.put, List.setIfInBounds_toArray, List.set_cons_zero, List.set_cons_succ, i64_w, i32_w, hz0, hz1]
                  rfl
                refine pure_ (i := 57) (N := some 109) (v := ?_) (a' := ?_) #[true, true, true, true, true, true, true, true, true, true, true, true, true, true, true, true, true, true, true, true, true, true, true, true, true, true, true, true, true, true, true, true, true, true, true, true, true, true, true, true, true, true, true, true, true, true, true, true, true, true, true, true, true, true, true, true, true, true, false, false, false, false, false, false] rfl rfl (by kernel_rfl) (fun _ _ _ h => h) (Or.inl ⟨by rfl, ?_⟩) ?_ ?_
                rotate_left
                · intro w'
                  go_simp
                  with_reducible rfl
                rotate_left
                · simp only [Act.put, List.setIfInBounds_toArray, List.set_cons_zero, List.set_cons_succ, i64_w, i32_w, hz0, hz1]
                  rfl
                refine pure_ (i := 58) (N := some 110) (v := ?_) (a' := ?_) #[true, true, true, true, true, true, true, true, true, true, true, true, true, true, true, true, true, true, true, true, true, true, true, true, true, true, true, true, true, true, true, true, true, true, true, true, true, true, true, true, true, true, true, true, true, true, true, true, true, true, true, true, true, true, true, true, true, true, true, false, false, false, false, false] rfl rfl (by kernel_rfl) (fun _ _ _ h => h) (Or.inl ⟨by rfl, ?_⟩) ?_ ?_
                rotate_left
                · intro w'
                  go_simp
                  with_reducible rfl
                rotate_left
                · simp only [Act.put, List.setIfInBounds_toArray, List.set_cons_zero, List.set_cons_succ, i64_w, i32_w, hz0, hz1]
                  rfl
                refine pure_ (i := 59) (N := some 111) (v := ?_) (a' := ?_) #[true, true, true, true, true, true, true, true, true, true, true, true, true, true, true, true, true, true, true, true, true, true, true, true, true, true, true, true, true, true, true, true, true, true, true, true, true, true, true, true, true, true, true, true, true, true, true, true, true, true, true, true, true, true, true, true, true, true, true, true, false, false, false, false] rfl rfl (by kernel_rfl) (fun _ _ _ h => h) (Or.inl ⟨by rfl, ?_⟩) ?_ ?_
                rotate_left
                · intro w'
                  go_simp
                  with_reducible rfl
                rotate_left
                · simp only [Act.put, List.setIfInBounds_toArray, List.set_cons_zero, List.set_cons_succ, i64_w, i32_w, hz0, hz1]
                  rfl
                refine pure_ (i := 60) (N := some 112) (v := ?_) (a' := ?_) #[true, true, true, true, true, true, true, true, true, true, true, true, true, true, true, true, true, true, true, true, true, true, true, true, true, true, true, true, true, true, true, true, true, true, true, true, true, true, true, true, true, true, true, true, true, true, true, true, true, true, true, true, true, true, true, true, true, true, true, true, true, false, false, false] rfl rfl (by kernel_rfl) (fun _ _ _ h => h) (Or.inl ⟨by rfl, ?_⟩) ?_ ?_
                rotate_left
                · intro w'
                  go_simp
                  with_reducible rfl
                rotate_left
                · simp only [Act.put, List.setIfInBounds_toArray, List.set_cons_zero, List.set_cons_succ, i64_w, i32_w, hz0, hz1]
                  rfl
                as_aux_lemma =>
                  refine one_ (i := 61) (N := some 113) #[true, true, true, true, true, true, true, true, true, true, true, true, true, true, true, true, true, true, true, true, true, true, true, true, true, true, true, true, true, true, true, true, true, true, true, true, true, true, true, true, true, true, true, true, true, true, true, true, true, true, true, true, true, true, true, true, true, true, true, true, true, true, false, false] rfl rfl (by kernel_rfl) (by decide) (fun K hK => ?_)
                  refine goes_ Try.func26 (by kernel_rfl) rfl #[.pointer p, .pointer none] (by rfl) rfl rfl (by (try simp only [List.map_toArray, List.map_cons, List.map_nil]); first | done | rfl) ?_
                  refine (hol_same HP9.out).mono ?_
                  rintro e w110 ⟨rfl, hb⟩
                  have HP10 := Aside0.mk (HP9.out.below hb)
                  have HXO10 := Aside0.mk (blk_below HXO9.out hb)
                  have HBR10 := Aside0.mk (below_step HBR9.out hb)
                  clear hb
                  refine ⟨_, rfl, ?_⟩
                  refine hK.out _ _ ⟨((blk_cell HXO10.out 1).trans rfl), ((blk_cell HXO10.out 2).trans rfl)⟩ (fun hHeld => ?_)
                  clear hK K
                  refine norm_ (a' := ?_) ?_ ?_
                  rotate_left
                  · show Act.put _ (some 113) _ = _
                    simp only [Act.put, List.setIfInBounds_toArray, List.set_cons_zero, List.set_cons_succ, i64_w, i32_w, hz0, hz1]
                    rfl
                  refine pure_ (i := 62) (N := some 114) (v := ?_) (a' := ?_) #[true, true, true, true, true, true, true, true, true, true, true, true, true, true, true, true, true, true, true, true, true, true, true, true, true, true, true, true, true, true, true, true, true, true, true, true, true, true, true, true, true, true, true, true, true, true, true, true, true, true, true, true, true, true, true, true, true, true, true, true, true, true, true, false] rfl rfl (by kernel_rfl) (fun _ _ _ h => h) (Or.inl ⟨by rfl, ?_⟩) ?_ ?_
                  rotate_left
                  · intro w'
                    go_simp
                    with_reducible rfl
                  rotate_left
                  · simp only [Act.put, List.setIfInBounds_toArray, List.set_cons_zero, List.set_cons_succ, i64_w, i32_w, hz0, hz1]
                    rfl
                  refine pure_ (i := 63) (N := some 115) (v := ?_) (a' := ?_) #[true, true, true, true, true, true, true, true, true, true, true, true, true, true, true, true, true, true, true, true, true, true, true, true, true, true, true, true, true, true, true, true, true, true, true, true, true, true, true, true, true, true, true, true, true, true, true, true, true, true, true, true, true, true, true, true, true, true, true, true, true, true, true, true] rfl rfl (by kernel_rfl) (fun _ _ _ h => h) (Or.inl ⟨by rfl, ?_⟩) ?_ ?_
                  rotate_left
                  · intro w'
                    go_simp
                    with_reducible rfl
                  rotate_left
                  · simp only [Act.put, List.setIfInBounds_toArray, List.set_cons_zero, List.set_cons_succ, i64_w, i32_w, hz0, hz1]
                    rfl
                  refine done_ (by kernel_rfl) ?_
                  clear hz0 hz1
                  go_wp2
                  go_roundg (gk0 - 1)
                  case measure => omega
                  case rel => exact ⟨i + 1, by go_num, by omega, HBR10⟩
    · obtain rfl : i = 2 := by omega
      as_aux_lemma =>
        have HW := Aside0.mk (below_step HBA.out HR.out)
        clear HR HXO HXA HEA HLA HBA
        have R7 := Aside0.mk (fun W => show Calls Try.prog 7 #[.int .i64 4] W _ from new_calls 4 (by decide) (by decide) W)
        have R17 := Aside0.mk (fun W => show Calls Try.prog 17 #[.int .i64 4] W _ from rnew_good 4 (by decide) (by decide) W)
        have hge : decide (((2 : Nat) : Int) < 2) = false := rfl
        go_wp2_with (first
          | (go_at_call 7; (with_reducible refine Calls.mono (R7.out wr) ?_); rintro e w1 ⟨B1, col1, vb1, vw1, vs1, vt1, rfl, hS, hc, hb⟩; have HS1 := Aside0.mk hS; have HC1 := Aside0.mk hc; have HB1 := Aside0.mk hb; clear hS hc hb)
          | (go_at_call 7; (with_reducible refine Calls.mono (R7.out w1) ?_); rintro e w2 ⟨B2, col2, vb2, vw2, vs2, vt2, rfl, hS, hc, hb⟩; have HS2 := Aside0.mk hS; have HC2 := Aside0.mk hc; have HB2 := Aside0.mk hb; clear hS hc hb))
        have z1 := blk_new w2 (.cells #[.int .i64 0, .slice none 0 0, .slice none 0 0, .slice none 0 0, .slice none 0 0] 50)
        have y1 := below_alloc (Below.refl w2.heap.size w2) (.cells #[.int .i64 0, .slice none 0 0, .slice none 0 0, .slice none 0 0, .slice none 0 0] 50)
        have s1 : (w2.alloc (.cells #[.int .i64 0, .slice none 0 0, .slice none 0 0, .slice none 0 0, .slice none 0 0] 50)).heap.size = w2.heap.size + 1 := by simp
        generalize w2.alloc (.cells #[.int .i64 0, .slice none 0 0, .slice none 0 0, .slice none 0 0, .slice none 0 0] 50) = wP at z1 y1 s1 ⊢
        have z2 := blk_new wP (.cells #[.int .i64 0, .slice none 0 0, .slice none 0 0, .slice none 0 0, .slice none 0 0] 50)
        have y2 := below_alloc (Below.refl wP.heap.size wP) (.cells #[.int .i64 0, .slice none 0 0, .slice none 0 0, .slice none 0 0, .slice none 0 0] 50)
        have s2 : (wP.alloc (.cells #[.int .i64 0, .slice none 0 0, .slice none 0 0, .slice none 0 0, .slice none 0 0] 50)).heap.size = wP.heap.size + 1 := by simp
        generalize wP.alloc (.cells #[.int .i64 0, .slice none 0 0, .slice none 0 0, .slice none 0 0, .slice none 0 0] 50) = wQ at z2 y2 s2 ⊢
        rw [s1] at z2
        obtain ⟨PB, hPB⟩ : ∃ k, k = w2.heap.size := ⟨_, rfl⟩
        obtain ⟨QB, hQB⟩ : ∃ k, k = w2.heap.size + 1 := ⟨_, rfl⟩
        have HP3 := Aside0.mk (show wQ.heap[PB]? = _ from hPB ▸ blk_below z1 y2)
        have HQ3 := Aside0.mk (show wQ.heap[QB]? = _ from hQB ▸ z2)
        have HB3 := Aside0.mk (show Below w2.heap.size w2 wQ from below_step y1 y2)
        have HZ := Aside0.mk (show PB = w2.heap.size ∧ QB = PB + 1 ∧ wQ.heap.size = PB + 2 from ⟨hPB, by omega, by omega⟩)
        rw [← hPB, show PB + 1 = QB from by omega]
        clear z1 z2 y1 y2 s1 s2 hPB hQB
        go_wp2_with (first
          | (go_at_call 17; (with_reducible refine Calls.mono (R17.out wQ) ?_); rintro e w4 ⟨ub, uw, us, ut, rfl, rb, rw_, rs, rt, hb⟩; obtain ⟨A1, c1, e1⟩ := Kd.R_slice rb; obtain ⟨A2, c2, e2⟩ := Kd.R_slice rw_; obtain ⟨A3, c3, e3⟩ := Kd.R_slice rs; obtain ⟨A4, c4, e4⟩ := Kd.R_slice rt; rw [List.length_replicate] at e1; rw [List.length_nil] at e2 e3 e4; subst e1 e2 e3 e4; have HR4 := Aside0.mk (And.intro rb (And.intro rw_ (And.intro rs rt))); have HB4 := Aside0.mk hb; have HP4 := Aside0.mk (blk_below HP3.out hb); have HQ4 := Aside0.mk (blk_below HQ3.out hb); have g0 : w4.cell? ⟨PB, 0, none⟩ = some (.int .i64 0) := (blk_cell HP4.out 0).trans rfl; have f0 : w4.frozen? ⟨PB, 0, none⟩ = false := blk_frozen HP4.out 0; have g1 : w4.cell? ⟨PB, 1, none⟩ = some (.slice none 0 0) := (blk_cell HP4.out 1).trans rfl; have f1 : w4.frozen? ⟨PB, 1, none⟩ = false := blk_frozen HP4.out 1; have g2 : w4.cell? ⟨PB, 2, none⟩ = some (.slice none 0 0) := (blk_cell HP4.out 2).trans rfl; have f2 : w4.frozen? ⟨PB, 2, none⟩ = false := blk_frozen HP4.out 2; have g3 : w4.cell? ⟨PB, 3, none⟩ = some (.slice none 0 0) := (blk_cell HP4.out 3).trans rfl; have f3 : w4.frozen? ⟨PB, 3, none⟩ = false := blk_frozen HP4.out 3; have g4 : w4.cell? ⟨PB, 4, none⟩ = some (.slice none 0 0) := (blk_cell HP4.out 4).trans rfl; have f4 : w4.frozen? ⟨PB, 4, none⟩ = false := blk_frozen HP4.out 4; clear rb rw_ rs rt hb))
        generalize hW5 : (((((w4.setCell ⟨PB, 0, none⟩ (.int .i64 4)).setCell ⟨PB, 1, none⟩ (.slice A1 (4 * 256) c1)).setCell ⟨PB, 2, none⟩ (.slice A2 0 c2)).setCell ⟨PB, 3, none⟩ (.slice A3 0 c3)).setCell ⟨PB, 4, none⟩ (.slice A4 0 c4)) = w5
        have F5 := Aside0.mk (filled HP4.out hW5)
        have HQ5 := Aside0.mk (blk_kept HQ4.out F5.out.2.1 (by have := HZ.out.2.1; omega))
        clear hW5 g0 g1 g2 g3 g4 f0 f1 f2 f3 f4 HP3 HP4 HQ3 HQ4
        go_wp2_with (go_at_call 17; (with_reducible refine Calls.mono (R17.out w5) ?_); rintro e w6 ⟨ub, uw, us, ut, rfl, rb, rw_, rs, rt, hb⟩; obtain ⟨A5, c5, e1⟩ := Kd.R_slice rb; obtain ⟨A6, c6, e2⟩ := Kd.R_slice rw_; obtain ⟨A7, c7, e3⟩ := Kd.R_slice rs; obtain ⟨A8, c8, e4⟩ := Kd.R_slice rt; rw [List.length_replicate] at e1; rw [List.length_nil] at e2 e3 e4; subst e1 e2 e3 e4; have HR6 := Aside0.mk (And.intro rb (And.intro rw_ (And.intro rs rt))); have HB6 := Aside0.mk hb; have HQ6 := Aside0.mk (blk_below HQ5.out hb); have g0 : w6.cell? ⟨QB, 0, none⟩ = some (.int .i64 0) := (blk_cell HQ6.out 0).trans rfl; have f0 : w6.frozen? ⟨QB, 0, none⟩ = false := blk_frozen HQ6.out 0; have g1 : w6.cell? ⟨QB, 1, none⟩ = some (.slice none 0 0) := (blk_cell HQ6.out 1).trans rfl; have f1 : w6.frozen? ⟨QB, 1, none⟩ = false := blk_frozen HQ6.out 1; have g2 : w6.cell? ⟨QB, 2, none⟩ = some (.slice none 0 0) := (blk_cell HQ6.out 2).trans rfl; have f2 : w6.frozen? ⟨QB, 2, none⟩ = false := blk_frozen HQ6.out 2; have g3 : w6.cell? ⟨QB, 3, none⟩ = some (.slice none 0 0) := (blk_cell HQ6.out 3).trans rfl; have f3 : w6.frozen? ⟨QB, 3, none⟩ = false := blk_frozen HQ6.out 3; have g4 : w6.cell? ⟨QB, 4, none⟩ = some (.slice none 0 0) := (blk_cell HQ6.out 4).trans rfl; have f4 : w6.frozen? ⟨QB, 4, none⟩ = false := blk_frozen HQ6.out 4; clear rb rw_ rs rt hb)
        generalize hW7 : (((((w6.setCell ⟨QB, 0, none⟩ (.int .i64 4)).setCell ⟨QB, 1, none⟩ (.slice A5 (4 * 256) c5)).setCell ⟨QB, 2, none⟩ (.slice A6 0 c6)).setCell ⟨QB, 3, none⟩ (.slice A7 0 c7)).setCell ⟨QB, 4, none⟩ (.slice A8 0 c8)) = w7
        have HM := Aside0.mk (made_both HW.out HS1.out HB1.out HS2.out HC2.out HB2.out HZ.out HB3.out HR4.out HB4.out F5.out HR6.out HB6.out (filled HQ6.out hW7))
        clear hW7 g0 g1 g2 g3 g4 f0 f1 f2 f3 f4 HQ5 HQ6 F5 HR4 HR6 HB6 HB4 HB3 HB2 HB1 HS1 HS2 HC1 HC2 HZ HW R7 R17
        go_wp2_with (go_at_call 8; refine (R8.out _).mono ?_; rintro e w8 ⟨rfl, rfl⟩)
        have HM2 := Aside0.mk (show ∃ d O1 O2, Two w B1 PB 4 d d O1 w8 ∧ Two w B2 QB 4 d d O2 w8 ∧ (∀ k, O1 k → ¬ O2 k) ∧ d.waits.length ≤ 0 ∧ d.trace.length ≤ 0 from by obtain ⟨O1, O2, a1, a2, a3⟩ := HM.out; exact ⟨_, O1, O2, a1, a2, a3, Nat.le_refl _, Nat.le_refl _⟩)
        clear HM
        go_loopg [142] M (fun gk v142 w' => ∃ i : Nat, v142 = .int .i64 (i : Int) ∧ i + gk = M ∧ Aside0 (∃ d O1 O2, Two w B1 PB 4 d d O1 w' ∧ Two w B2 QB 4 d d O2 w' ∧ (∀ k, O1 k → ¬ O2 k) ∧ d.waits.length ≤ i ∧ d.trace.length ≤ i))
        case atStart => exact ⟨0, rfl, by omega, HM2⟩
        case round =>
          clear HM2
          obtain ⟨i, rfl, hig2, HR⟩ := hrel
          obtain ⟨d, O1, O2, h1, h2, hdj, hdw, hdt⟩ := HR.out
          have hM60 := HN.out.1.1
          by_cases hlt3 : i < M
          · have hin : i < len := by have := HN.out.1.2; omega
            obtain ⟨ad, rfl, hx0, hx1, hx2, hx3, hx4⟩ := at_S (Kd.C_below HC.out h1.bel) i hin
            have HOK0 := HS.out.at (i := i) (by rw [HN.out.2]; exact hin)
            obtain ⟨⟨sk, sn, sa, sx, sp⟩, hst⟩ : ∃ s, s = sAt l i := ⟨_, rfl⟩
            rw [← hst] at hx0 hx1 hx2 hx3 hx4 HOK0
            simp only at hx0 hx1 hx2 hx3 hx4
            have HOK := Aside0.mk HOK0
            clear hst HOK0
            have hlt2 : decide ((i : Int) < (M : Int)) = true := decide_eq_true (by omega)
            have hi0 : (0 : Int) ≤ (i : Int) := by omega
            have hi1 : (i : Int) < (M : Int) := by omega
            have hi2 : (i : Int) ≤ 60 := by omega
            have HL := Aside0.mk (show d.waits.length ≤ 1000 ∧ d.trace.length ≤ 1000 by omega)
            have HST := Aside0.mk (step_sizes d 4 ⟨sk, sn, sa, sx, sp⟩)
            have hb := (Below.refl wr.heap.size wr).alloc (Nat.le_refl _) (.cells #[.int .u8 sk, .int .i64 sn, .int .i64 sa, .int .u8 sx, .int .u64 sp] 31)
            have HX1 := Aside0.mk (h1.below hb)
            have HX2 := Aside0.mk (h2.below hb)
            have HXO := Aside0.mk (blk_new wr (.cells #[.int .u8 sk, .int .i64 sn, .int .i64 sa, .int .u8 sx, .int .u64 sp] 31))
            have HNO := Aside0.mk (show ¬ O1 wr.heap.size from fun h9 => Nat.lt_irrefl _ (h1.lt _ h9))
            have HDJ := Aside0.mk hdj
            have HDI := Aside0.mk (And.intro hdw hdt)
            obtain ⟨gk0, hgk0⟩ : ∃ g, g = gk := ⟨_, rfl⟩
            clear h1 h2 hb hdj hdw hdt HR
            go_wp2_with (first
              | (go_at_call 18; (with_reducible refine Calls.mono (do_two sk sn sa sx sp HOK.out HX1.out HL.out.1 HL.out.2) ?_); rintro e w9 ⟨rfl, ha⟩; obtain ⟨P1, t1, t2, tj, tk⟩ := Two.other HX1.out HX2.out HDJ.out ha; have HT1 := Aside0.mk t1; have HT2 := Aside0.mk t2; have HTJ := Aside0.mk tj; have HXO9 := Aside0.mk (blk_kept HXO.out tk HNO.out); have g0 : w9.cell? ⟨wr.heap.size, 0, none⟩ = some (.int .u8 sk) := (blk_cell HXO9.out 0).trans rfl; have g1 : w9.cell? ⟨wr.heap.size, 1, none⟩ = some (.int .i64 sn) := (blk_cell HXO9.out 1).trans rfl; have g2 : w9.cell? ⟨wr.heap.size, 2, none⟩ = some (.int .i64 sa) := (blk_cell HXO9.out 2).trans rfl; have g3 : w9.cell? ⟨wr.heap.size, 3, none⟩ = some (.int .u8 sx) := (blk_cell HXO9.out 3).trans rfl; have g4 : w9.cell? ⟨wr.heap.size, 4, none⟩ = some (.int .u64 sp) := (blk_cell HXO9.out 4).trans rfl; clear ha t1 t2 tj tk)
              | (go_at_call 18; (with_reducible refine Calls.mono (do_two sk sn sa sx sp HOK.out HT2.out HL.out.1 HL.out.2) ?_); rintro e w10 ⟨rfl, ha⟩; obtain ⟨P2, t2, t1, tj, tk⟩ := Two.other HT2.out HT1.out (fun k h9 h8 => HTJ.out k h8 h9) ha; generalize d.step 4 ⟨sk, sn, sa, sx, sp⟩ = d2 at t1 t2 HST; have HU1 := Aside0.mk t1; have HU2 := Aside0.mk t2; have HUJ := Aside0.mk tj; have RB := Aside0.mk (two_bytesR t1); have RT := Aside0.mk (fun (W : World) (h : Two w B1 PB 4 d2 d2 P1 W) => two_traceR h (by have := HST.out.2; have := HL.out.2; omega)); obtain ⟨LB, hLB⟩ : ∃ n, n = d2.blocks.length := ⟨_, rfl⟩; obtain ⟨LT, hLT⟩ : ∃ n, n = d2.trace.length := ⟨_, rfl⟩; rw [← hLB] at RB; rw [← hLT] at RT; have hLB9 : LB ≤ 1000000 := (by have := t1.wd.of.1; omega); have hLT9 : LT ≤ 1000000 := (by have := HST.out.2; have := HL.out.2; omega); have HLL := Aside0.mk (And.intro hLB hLT); clear ha t1 t2 tj tk g0 g1 g2 g3 g4 hLB hLT)
              | (go_at_call 20; (with_reducible refine Calls.mono RB.out ?_); rintro e w11 ⟨A9, c9, rfl, hr, hb⟩; have HRA := Aside0.mk hr; have HSZ := Aside0.mk hb.size; have HB11 := Aside0.mk hb; have HV1 := Aside0.mk (HU1.out.below hb); clear hr hb)
              | (go_at_call 22; (with_reducible refine Calls.mono (RT.out _ HV1.out) ?_); rintro e w12 ⟨A10, c10, rfl, hr, hb⟩; have HRT := Aside0.mk hr; have HRA12 := Aside0.mk (Kd.R_below (Kd.R_mono (Kd.R_bound HRA.out) (ok' := fun k => k < w11.heap.size) (fun k hk => hk.2.2.1)) hb); have HB12 := Aside0.mk (below_step HB11.out hb); clear hr hb))
            have HU1' := Aside0.mk (And.intro HU1.out (And.intro HU2.out HUJ.out))
            clear HX1 HX2 HXO HNO HDJ HT1 HT2 HTJ HXO9 RB RT HV1 HB11 HRA
            go_loopg [162] LB (fun gk v162 w' => ∃ (j : Nat) (ys : List Int), v162 = .int .i64 (j : Int) ∧ j + gk = LB ∧ Aside0 (ys.length = LB ∧ Kd.R kb 5 w' w10.heap.size (fun k => k < w11.heap.size) (.slice A9 LB c9) ys ∧ Kd.R ki 3 w' w11.heap.size (fun _ => True) (.slice A10 LT c10) d2.trace ∧ Below w10.heap.size w10 w'))
            case atStart => exact ⟨0, d2.blocks, rfl, by omega, ⟨HLL.out.1.symm, HRA12.out, HRT.out, HB12.out⟩⟩
            case round =>
              obtain ⟨j, ys, rfl, hjg, HQ⟩ := hrel
              by_cases hj : j < LB
              · have hj0 : (0 : Int) ≤ (j : Int) := by omega
                have hj1 : (j : Int) < (LB : Int) := by omega
                have hj2 : decide ((j : Int) < (LB : Int)) = true := decide_eq_true hj1
                have hj3 : (j : Int) ≤ 1000000 := by omega
                obtain ⟨g, cap, e9, hg, _⟩ := Kd.R_form HQ.out.2.1 (by rw [HQ.out.1]; omega)
                injection e9 with e91 e92 e93
                subst e91
                obtain ⟨hy0, hf0⟩ := Kd.R_celln 0 HQ.out.2.1 (j : Int) hj0 hj1
                simp only [Int.toNat_natCast] at hy0 hf0
                obtain ⟨v, hv⟩ : ∃ v, v = rdOf 0 ys (j : Int) := ⟨_, rfl⟩
                rw [← hv] at hy0
                have HP9 := Aside0.mk (Kd.R_putg HQ.out.2.1 (j : Int) (IntKind.u8.wrap (v + 1))).1
                have HG := Aside0.mk (And.intro hg (((Kd.R_bound HQ.out.2.1).1 g rfl).1))
                clear hv e92 e93 hg
                go_wp2
                go_roundg (gk - 1)
                case measure => omega
                case rel =>
                  have h9 := HP9.out
                  simp only [Int.toNat_natCast] at h9
                  exact ⟨j + 1, ys.set j (IntKind.u8.wrap (v + 1)), by go_num, by omega, ⟨by rw [List.length_set]; exact HQ.out.1, h9, Kd.R_far (p := ⟨g, j, none⟩) (Kd.R_mono (Kd.R_bound HQ.out.2.2.1) (ok' := fun k => w11.heap.size ≤ k) (fun k hk => hk.2.1)) (fun k hk he => by have := HG.out.2; rw [he] at hk; exact absurd hk (Nat.not_le.2 this)) _ |> fun h => Kd.R_mono h (fun _ _ => trivial), HQ.out.2.2.2.setCell (p := ⟨g, j, none⟩) HG.out.1 _⟩⟩
              · obtain rfl : j = LB := by omega
                have hge2 : decide ((j : Int) < (j : Int)) = false := decide_eq_false (by omega)
                have HQ2 := Aside0.mk (And.intro HQ.out.2.2.1 HQ.out.2.2.2)
                clear HRT HRA12 HB12
                go_wp2
                go_loopg [174] LT (fun gk v174 w' => ∃ (k : Nat) (ys : List Int), v174 = .int .i64 (k : Int) ∧ k + gk = LT ∧ Aside0 (ys.length = LT ∧ Kd.R ki 3 w' w11.heap.size (fun _ => True) (.slice A10 LT c10) ys ∧ Below w10.heap.size w10 w' ∧ w10.heap.size ≤ w11.heap.size))
                case atStart => exact ⟨0, d2.trace, rfl, by omega, ⟨HLL.out.2.symm, HQ2.out.1, HQ2.out.2, HSZ.out⟩⟩
                case round =>
                  clear HQ HQ2
                  obtain ⟨k, zs, rfl, hkg, HQ⟩ := hrel
                  by_cases hk : k < LT
                  · have hj0 : (0 : Int) ≤ (k : Int) := by omega
                    have hj1 : (k : Int) < (LT : Int) := by omega
                    have hj2 : decide ((k : Int) < (LT : Int)) = true := decide_eq_true hj1
                    have hj3 : (k : Int) ≤ 1000000 := by omega
                    obtain ⟨g, cap, e9, hg, _⟩ := Kd.R_form HQ.out.2.1 (by rw [HQ.out.1]; omega)
                    injection e9 with e91 e92 e93
                    subst e91
                    obtain ⟨hy0, hf0⟩ := Kd.R_celln 0 HQ.out.2.1 (k : Int) hj0 hj1
                    simp only [Int.toNat_natCast] at hy0 hf0
                    obtain ⟨v, hv⟩ : ∃ v, v = rdOf 0 zs (k : Int) := ⟨_, rfl⟩
                    rw [← hv] at hy0
                    have HP9 := Aside0.mk (Kd.R_putg HQ.out.2.1 (k : Int) (wrap64 (v + 1))).1
                    have HG := Aside0.mk hg
                    clear hv e92 e93 hg
                    go_wp2
                    go_roundg (gk - 1)
                    case measure => omega
                    case rel =>
                      have h9 := HP9.out
                      simp only [Int.toNat_natCast] at h9
                      exact ⟨k + 1, zs.set k (wrap64 (v + 1)), by go_num, by omega, ⟨by rw [List.length_set]; exact HQ.out.1, h9, HQ.out.2.2.1.setCell (p := ⟨g, k, none⟩) (Nat.le_trans HQ.out.2.2.2 HG.out) _, HQ.out.2.2.2⟩⟩
                  · obtain rfl : k = LT := by omega
                    have hge3 : decide ((k : Int) < (k : Int)) = false := decide_eq_false (by omega)
                    go_wp2
                    go_roundg (gk0 - 1)
                    case measure => omega
                    case rel => exact ⟨i + 1, by go_num, by omega, ⟨d2, P1, P2, HU1'.out.1.below HQ.out.2.2.1, HU1'.out.2.1.below HQ.out.2.2.1, fun k h8 h9 => HU1'.out.2.2 k h9 h8, by have := HST.out.1; have := HDI.out.1; omega, by have := HST.out.2; have := HDI.out.2; omega⟩⟩
          · obtain rfl : i = M := by omega
            have hge : decide ((i : Int) < (i : Int)) = false := decide_eq_false (by omega)
            have H1 := Aside0.mk h1
            have H2 := Aside0.mk h2
            have HDJ := Aside0.mk hdj
            have HL := Aside0.mk (show d.waits.length ≤ 1000 ∧ d.trace.length ≤ 1000 by omega)
            have SA := Aside0.mk (fun (W : World) (h1 : Two w B1 PB 4 d d O1 W) (h2 : Two w B2 QB 4 d d O2 W) => tells_same d ▸ same_two h1 h2 (by have := HL.out.2; omega) (by have := HL.out.2; omega))
            have SB := Aside0.mk (fun (W : World) (h1 : Two w B1 PB 4 d d O1 W) (h2 : Two w B2 QB 4 d d O2 W) => tells_same d ▸ same_two h2 h1 (by have := HL.out.2; omega) (by have := HL.out.2; omega))
            clear h1 h2 hdj hdw hdt HR
            go_wp2_with (first
              | (go_at_call 26; (with_reducible refine Calls.mono (SA.out _ H1.out H2.out) ?_); rintro e w9 ⟨rfl, hb⟩; have HA1 := Aside0.mk (H1.out.below hb); have HA2 := Aside0.mk (H2.out.below hb); clear hb)
              | (go_at_call 26; (with_reducible refine Calls.mono (SB.out _ HA1.out HA2.out) ?_); rintro e w10 ⟨rfl, hb⟩; have HC1 := Aside0.mk (HA1.out.below hb); have HC2 := Aside0.mk (HA2.out.below hb); clear hb)
              | (go_at_call 9; (with_reducible refine Calls.mono (two_flush HC1.out (by have := HL.out.1; omega) (by have := HL.out.2; omega)) ?_); rintro e w11 ⟨rfl, ha⟩; obtain ⟨P1, t1, t2, tj, tk⟩ := Two.other HC1.out HC2.out HDJ.out ha; have HF1 := Aside0.mk t1; have HF2 := Aside0.mk t2; have SC := Aside0.mk (tells_apart d ▸ same_two t1 t2 (by have := HL.out.2; simp [Dv.flush]; omega) (by have := HL.out.2; omega)); have SN := Aside0.mk (fun (W : World) (h : Two w B1 PB 4 d.flush d P1 W) => same_none h (by have := HL.out.2; simp [Dv.flush]; omega)); clear ha t1 t2 tj tk)
              | (go_at_call 26; (with_reducible refine Calls.mono SC.out ?_); rintro e w12 ⟨rfl, hb⟩; have HG1 := Aside0.mk (HF1.out.below hb); clear hb)
              | (go_at_call 26; (with_reducible refine Calls.mono (SN.out _ HG1.out) ?_); rintro e w13 ⟨rfl, hb⟩; have HB13 := Aside0.mk (HG1.out.below hb).bel; clear hb)
              | (go_at_call 15; refine (alive_calls _).mono ?_; rintro e w14 ⟨rfl, hb⟩; have HB14 := Aside0.mk (below_step HB13.out hb); clear hb))
            go_ret
            exact ⟨rfl, HB14.out⟩
end Go.Proofs.Ytenbcpjlbfojlaa.DA
