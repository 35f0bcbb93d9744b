/- The program's Missing, the document's Missing, and the law SpanParts: what the code comes to, by hand (arrays are handed in). -/
import Derived.Test.YtffpfneiaknfeaaPZx2
import Derived.Test.YtffpfneiaknfeaaPZx3
namespace Go.Proofs.Ytffpfneiaknfeaa.SP
open Go.Proofs.Ytffpfneiaknfeaa.PZ Go.RowKit Go.Proofs.YtffpfneiaknfeaaW.PrintWords Go.Proofs.YtffpfneiaknfeaaW.PrintLast Go.Proofs.YtffpfneiaknfeaaW.PrintMore
theorem info3 : (Try.prog.info? 3).map (fun i => (i.zero, i.size, i.bytes)) = some (some (.int .i64 0), 1, 8) := by kernel_rfl
/-- What of one part is missing. -/
def miss1 (pg : List Int) (p : Int) : List Int := if rd pg p = 0 then [p] else []
theorem page_cell {w : World} {PB : Nat} {pg : List Int} (PK : w.heap[PB]? = some (.cells (pg.map (Value.int .u8)).toArray 32 (0, 0))) {i : Int} (h0 : 0 ≤ i) (h1 : i < pg.length) : w.cell? ⟨PB, i.toNat, none⟩ = some (.int .u8 (rd pg i)) := by
  refine (blk_cell PK i.toNat).trans ?_
  have hl : i.toNat < pg.length := by omega
  have : rd pg i = pg[i.toNat] := by unfold rd; rw [List.getD_eq_getElem?_getD, List.getElem?_eq_getElem hl]; rfl
  rw [this]
  simp [hl]
set_option maxHeartbeats 4000000 in
set_option maxRecDepth 100000 in
/-- The closure of Missing: it appends the page where it is not there. -/
theorem missing1 (p : S28) (pg : List Int) (hpg : pg.length = 32) (h0 : 0 ≤ p.f0) (h1 : p.f0 < 32) (B PB base : Nat) (v : Value) (l : List Int) (w0 w : World) (HB : Below base w0 w) (hbw : base ≤ w.heap.size) (hb : base ≤ B) (hne : PB ≠ B)
    (PK : w.heap[PB]? = some (.cells (pg.map (Value.int .u8)).toArray 32 (0, 0))) (BK : w.heap[B]? = some (.cells #[v] 36 (0, 0))) (HO : Kd.R (Kd.int .i64) 3 w base (fun k_ => k_ ≠ B) v l) (hl : l.length < 100000) :
    Calls Try.prog 22 #[.agg #[.int .i64 p.f0, .int .i64 p.f1, .int .i64 p.f2], .pointer (some ⟨PB, 0, none⟩), .pointer (some ⟨B, 0, none⟩)] w fun e w' => e = .returned (.tuple #[]) ∧ ∃ v', w'.heap[B]? = some (.cells #[v'] 36 (0, 0)) ∧ w'.heap[PB]? = some (.cells (pg.map (Value.int .u8)).toArray 32 (0, 0)) ∧ Kd.R (Kd.int .i64) 3 w' base (fun k_ => k_ ≠ B) v' (l ++ miss1 pg p.f0) ∧ Below base w0 w' := by
  have hcp : w.cell? ⟨PB, p.f0.toNat, none⟩ = some (.int .u8 (rd pg p.f0)) := page_cell PK h0 (by omega)
  have hcz : w.cell? ⟨B, 0, none⟩ = some v := (blk_cell BK 0).trans rfl
  have hfz := blk_frozen BK 0
  have hlt : B < w.heap.size := (Array.getElem?_eq_some_iff.1 BK).1
  have hlp : PB < w.heap.size := (Array.getElem?_eq_some_iff.1 PK).1
  obtain ⟨A, c, rfl⟩ := Kd.R_slice HO
  have HO1 := Kd.R_alloc HO (.cells #[.int .i64 p.f0, .int .i64 p.f1, .int .i64 p.f2] 28)
  have HB1 := HB.alloc hbw (.cells #[.int .i64 p.f0, .int .i64 p.f1, .int .i64 p.f2] 28)
  have BK1 := blk_alloc BK (.cells #[.int .i64 p.f0, .int .i64 p.f1, .int .i64 p.f2] 28)
  have PK1 := blk_alloc PK (.cells #[.int .i64 p.f0, .int .i64 p.f1, .int .i64 p.f2] 28)
  have BH := Aside0.mk BK1
  have PH := Aside0.mk PK1
  have HH := Aside0.mk HO1
  have HBH := Aside0.mk HB1
  have LP := Aside0.mk hpg
  clear BK BK1 HO HO1 HB HB1 PK PK1 hpg
  by_cases hz : rd pg p.f0 = 0
  · have hm : miss1 pg p.f0 = [p.f0] := if_pos hz
    rw [hm]
    rw [hz] at hcp
    clear hm hz
    go_enter Try.func22, Try.ntmps22
    go_wp2_with (at_builtin; refine Kd.R_append (Kd.int .i64) (w0 := w0) base rfl (.tmp 9) (.tmp 12) 36 3 (.int .i64 0) 8 rfl Try.underlying36 info3 rfl (by decide) (by omega) (.slice A l.length c) l p.f0 [.int .i64 p.f0] (fun k_ => k_ ≠ B) (fun _ => False) rfl (by first | (go_simp; done) | (go_simp; rfl)) ?aP (fun _ hk => hk.elim) ?aF ?aO ?aB ?aS ?aL ?_; (case aP => exact rfl); (case aF => (intro k hk; simp at hk; omega)); (case aO => exact HH.out); (case aB => exact HBH.out); (case aS => (simp; omega)); (case aL => omega); intro v1 w1 ho hb1 hg hat; obtain ⟨A1, c1, rfl⟩ := Kd.R_slice ho; rw [show (l ++ [p.f0]).length = l.length + 1 from by simp] at ho; have BK2 := blk_grown BH.out hg (Kd.R_ne HH.out BH.out (by decide)); have PK2 := blk_grown PH.out hg (Kd.R_ne HH.out PH.out (by decide)); have hcz1 : w1.cell? ⟨B, 0, none⟩ = some (.slice A l.length c) := (blk_cell BK2 0).trans rfl; have hfz1 := blk_frozen BK2 0; have BH2 := Aside0.mk BK2; have PH2 := Aside0.mk PK2; have HH2 := Aside0.mk ho; have HB2 := Aside0.mk hb1; clear ho hb1 hg hat BK2 PK2)
    go_end0
    refine ⟨rfl, _, blk_put (cs := #[.slice A l.length c]) BH2.out 0 _ rfl, blk_far PH2.out (p := ⟨B, 0, none⟩) hne _, Kd.R_far (p := ⟨B, 0, none⟩) HH2.out (fun _ hk => hk) _, ?_⟩
    exact HB2.out.setCell (p := ⟨B, 0, none⟩) hb _
  · have hm : miss1 pg p.f0 = [] := if_neg hz
    rw [hm, List.append_nil]
    have hzb : (rd pg p.f0 == 0) = false := beq_eq_false_iff_ne.mpr hz
    clear hm hz
    go_enter Try.func22, Try.ntmps22
    go_wp2
    go_end0
    exact ⟨rfl, _, BH.out, PH.out, HH.out, HBH.out⟩
/-- What is missing of some parts. -/
def missL (pg : List Int) : List S28 → List Int
  | [] => []
  | p :: ps => miss1 pg p.f0 ++ missL pg ps
set_option maxHeartbeats 4000000 in
set_option maxRecDepth 100000 in
theorem each22 (a0 a1 : Int) (hmay : mayF a0 a1 = 0) (pg : List Int) (hpg : pg.length = 32) (B PB base : Nat) (v : Value) (w0 w : World) (HB : Below base w0 w) (hbw : base ≤ w0.heap.size) (hb : base ≤ B) (hne : PB ≠ B)
    (PK : w.heap[PB]? = some (.cells (pg.map (Value.int .u8)).toArray 32 (0, 0))) (BK : w.heap[B]? = some (.cells #[v] 36 (0, 0))) (HO : Kd.R (Kd.int .i64) 3 w base (fun k_ => k_ ≠ B) v []) :
    Calls Try.prog 20 #[.int .i64 a0, .int .i64 a1, .func (.func 22) #[] #[.pointer (some ⟨PB, 0, none⟩), .pointer (some ⟨B, 0, none⟩)]] w fun e w' => e = .returned (.int .i64 0) ∧ ∃ v', w'.heap[B]? = some (.cells #[v'] 36 (0, 0)) ∧ Kd.R (Kd.int .i64) 3 w' base (fun k_ => k_ ≠ B) v' (missL pg (prts 40 a0 (a0 + a1))) ∧ Below base w0 w' := by
  obtain ⟨h0, h1, h2⟩ := may_ok hmay
  have BH := Aside0.mk BK
  have PH := Aside0.mk PK
  have HH := Aside0.mk HO
  have HBH := Aside0.mk HB
  have HM : ∀ w : World, Calls Try.prog 13 #[.int .i64 a0, .int .i64 a1] w fun e w' => e = .returned (.int .i64 0) ∧ w = w' := by
    have hmay0 := may_calls a0 a1
    rw [hmay] at hmay0
    exact hmay0
  have HMA := Aside0.mk HM
  have LP := Aside0.mk hpg
  clear BK PK HO HB hmay HM hpg
  go_enter Try.func20, Try.ntmps20
  go_wp2_with (go_at_call 13; refine (HMA.out _).mono ?_; rintro e w' ⟨rfl, rfl⟩)
  go_loopg [0] 40 (fun kq v0 w' => ∃ (a : Int) (v : Value) (l : List Int), v0 = .int .i64 a ∧ Aside0 (l ++ missL pg (prts kq a (a0 + a1)) = missL pg (prts 40 a0 (a0 + a1))) ∧ 0 ≤ a ∧ a ≤ a0 + a1 ∧ Aside0 (l.length + kq ≤ 40) ∧ Aside0 ((a0 + a1) / 256 - a / 256 < kq ∨ a = a0 + a1) ∧ Aside0 (w'.heap[B]? = some (.cells #[v] 36 (0, 0))) ∧ Aside0 (w'.heap[PB]? = some (.cells (pg.map (Value.int .u8)).toArray 32 (0, 0))) ∧ Aside0 (Kd.R (Kd.int .i64) 3 w' base (fun k_ => k_ ≠ B) v l) ∧ Aside0 (Below base w0 w'))
  case atStart => exact ⟨a0, v, [], rfl, ⟨by simp⟩, h0, by omega, ⟨by simp⟩, ⟨.inl (by omega)⟩, BH, PH, HH, HBH⟩
  case round =>
    clear BH PH HH HBH
    obtain ⟨a, v, l, rfl, HE, ha0, ha1, HL, HQ, BH, PH, HH, HBH⟩ := hrel
    by_cases hlt : a < a0 + a1
    · have hm1 : (miss1 pg (a / 256)).length ≤ 1 := by unfold miss1; split <;> simp
      rcases (Int.lt_or_le (a0 + a1 - a) (256 - a % 256)) with hm | hm
      · have hmn : mn (256 - a % 256) (a0 + a1 - a) = a0 + a1 - a := by unfold mn; split <;> omega
        obtain ⟨gk, rfl⟩ : ∃ m, gk = m + 1 := ⟨gk - 1, by have := HQ.out; omega⟩
        have HE2 : Aside0 ((l ++ miss1 pg (a / 256)) ++ missL pg (prts gk (a + (a0 + a1 - a)) (a0 + a1)) = missL pg (prts 40 a0 (a0 + a1))) := ⟨by
          have h9 := HE.out
          rw [prts, if_pos hlt, hmn] at h9
          rw [List.append_assoc]
          exact h9⟩
        clear HE hmn
        have hlw := HBH.out.size
        go_wp2_with (go_at_call 22; go_loud (refine (missing1 ⟨a / 256, a % 256, a0 + a1 - a⟩ pg LP.out (by show 0 ≤ a / 256; omega) (by show a / 256 < 32; omega) B PB base v l w0 _ HBH.out (by omega) hb hne PH.out BH.out HH.out (by have := HL.out; omega)).mono ?_); rintro e w1 ⟨rfl, v1, q1, q0, q2, q3⟩; have BH2 := Aside0.mk q1; have PH2 := Aside0.mk q0; have HH2 := Aside0.mk q2; have HBH2 := Aside0.mk q3; clear q1 q0 q2 q3)
        go_roundg gk
        case measure => omega
        case rel => exact ⟨a + (a0 + a1 - a), v1, l ++ miss1 pg (a / 256), rfl, HE2, by omega, by omega, ⟨by have := HL.out; rw [List.length_append]; omega⟩, ⟨by have := HQ.out; omega⟩, BH2, PH2, HH2, HBH2⟩
      · have hmn : mn (256 - a % 256) (a0 + a1 - a) = 256 - a % 256 := by unfold mn; split <;> omega
        obtain ⟨gk, rfl⟩ : ∃ m, gk = m + 1 := ⟨gk - 1, by have := HQ.out; omega⟩
        have HE2 : Aside0 ((l ++ miss1 pg (a / 256)) ++ missL pg (prts gk (a + (256 - a % 256)) (a0 + a1)) = missL pg (prts 40 a0 (a0 + a1))) := ⟨by
          have h9 := HE.out
          rw [prts, if_pos hlt, hmn] at h9
          rw [List.append_assoc]
          exact h9⟩
        clear HE hmn
        have hlw := HBH.out.size
        go_wp2_with (go_at_call 22; go_loud (refine (missing1 ⟨a / 256, a % 256, 256 - a % 256⟩ pg LP.out (by show 0 ≤ a / 256; omega) (by show a / 256 < 32; omega) B PB base v l w0 _ HBH.out (by omega) hb hne PH.out BH.out HH.out (by have := HL.out; omega)).mono ?_); rintro e w1 ⟨rfl, v1, q1, q0, q2, q3⟩; have BH2 := Aside0.mk q1; have PH2 := Aside0.mk q0; have HH2 := Aside0.mk q2; have HBH2 := Aside0.mk q3; clear q1 q0 q2 q3)
        go_roundg gk
        case measure => omega
        case rel => exact ⟨a + (256 - a % 256), v1, l ++ miss1 pg (a / 256), rfl, HE2, by omega, by omega, ⟨by have := HL.out; rw [List.length_append]; omega⟩, ⟨by have := HQ.out; omega⟩, BH2, PH2, HH2, HBH2⟩
    · have hend : prts gk a (a0 + a1) = [] := by cases gk with | zero => rfl | succ k => rw [prts, if_neg hlt]
      have HE2 := HE.out
      rw [hend, missL, List.append_nil] at HE2
      subst HE2
      clear HE hend
      go_wp2
      go_ret
      exact ⟨rfl, v, BH.out, HH.out, HBH.out⟩
/-- What the program tells that is missing. -/
def missF (pg : List Int) (a0 a1 : Int) : List Int := if mayF a0 a1 = 0 then missL pg (prts 40 a0 (a0 + a1)) else []
set_option maxHeartbeats 4000000 in
set_option maxRecDepth 100000 in
theorem missing_calls (a0 a1 : Int) (pg : List Int) (hpg : pg.length = 32) (w : World) :
    Calls Try.prog 10 #[.agg (pg.map (Value.int .u8)).toArray, .int .i64 a0, .int .i64 a1] w fun e w' => ∃ v0_ : Value, e = .returned v0_ ∧ Kd.R (Kd.int .i64) 3 w' w.heap.size (fun _ => True) v0_ (missF pg a0 a1) ∧ Below w.heap.size w w' := by
  unfold missF
  have hB : ∀ o1 o2 : Obj, ((w.alloc o1).alloc o2).heap[w.heap.size + 1]? = some o2 := fun o1 o2 => by
    have := blk_new (w.alloc o1) o2
    rwa [show (w.alloc o1).heap.size = w.heap.size + 1 from by simp] at this
  by_cases hm : mayF a0 a1 = 0
  · rw [if_pos hm]
    have HE := fun w1 B PB v (b1 : Below w.heap.size w w1) b2 b3 b4 b5 b6 => each22 a0 a1 hm pg hpg B PB w.heap.size v w w1 b1 (Nat.le_refl _) b2 b3 b4 b5 b6
    have HEA := Aside0.mk HE
    have HBB := Aside0.mk hB
    clear HE hm hpg hB
    go_enter Try.func10, Try.ntmps10
    go_wp2_with (go_at_call 20; refine (HEA.out _ (w.heap.size + 1) w.heap.size (.slice none 0 0) (((Below.refl _ _).alloc (Nat.le_refl _) _).alloc (by simp) _) (by omega) (by omega) (blk_alloc (blk_new _ _) _) (HBB.out _ _) (Kd.R_nil _ _ _ _ _)).mono ?_; rintro e w1 ⟨rfl, v1, q1, q2, q3⟩; obtain ⟨A1, c1, rfl⟩ := Kd.R_slice q2; have hcz : w1.cell? ⟨w.heap.size + 1, 0, none⟩ = some (.slice A1 (missL pg (prts 40 a0 (a0 + a1))).length c1) := (blk_cell q1 0).trans rfl; have QQ := Aside0.mk q2; have QB := Aside0.mk q3; clear q1 q2 q3)
    go_ret
    exact ⟨_, rfl, Kd.R_mono QQ.out (fun _ _ => trivial), QB.out⟩
  · rw [if_neg hm]
    have HEA := Aside0.mk (fun f w1 => each_no a0 a1 hm f w1)
    have hcz : ((w.alloc (.cells (pg.map (Value.int .u8)).toArray 32)).alloc (.cells #[.slice none 0 0] 36)).cell? ⟨w.heap.size + 1, 0, none⟩ = some (.slice none 0 0) := (blk_cell (hB _ _) 0).trans rfl
    clear hm hB hpg
    go_enter Try.func10, Try.ntmps10
    go_wp2_with (go_at_call 20; refine (HEA.out _ _).mono ?_; rintro e w1 ⟨rfl, rfl⟩)
    go_ret
    exact ⟨_, rfl, Kd.R_nil _ _ _ _ _, ((Below.refl _ _).alloc (Nat.le_refl _) _).alloc (by simp) _⟩
/-- What the document tells that is missing. -/
def missR (pg : List Int) : List S52 → List Int
  | [] => []
  | p :: ps => miss1 pg p.f0 ++ missR pg ps
theorem missR_drop (pg : List Int) : ∀ (l : List S52) (i : Nat), i < l.length → missR pg (l.drop i) = miss1 pg (l.getD i z52).f0 ++ missR pg (l.drop (i + 1))
  | [], _, h => absurd h (by simp)
  | _ :: _, 0, _ => rfl
  | _ :: ps, i + 1, h => missR_drop pg ps i (by simpa using h)
set_option maxHeartbeats 4000000 in
set_option maxRecDepth 100000 in
theorem refmissing_calls (k : Nat) (a0 a1 : Int) (l : List S52) (e0 : Int) (hp : carlingref26_Parts.f k a0 a1 = some (l, e0)) (hpage : ∀ i : Nat, i < l.length → 0 ≤ (l.getD i z52).f0 ∧ (l.getD i z52).f0 < 32) (hl : l.length ≤ 1000) (pg : List Int) (hpg : pg.length = 32) (w : World) :
    Calls Try.prog 11 #[.agg (pg.map (Value.int .u8)).toArray, .int .i64 a0, .int .i64 a1] w fun e w' => ∃ v0_ : Value, e = .returned v0_ ∧ Kd.R (Kd.int .i64) 3 w' w.heap.size (fun _ => True) v0_ (missR pg l) ∧ Below w.heap.size w w' := by
  have HPA := Aside0.mk (fun W => carlingref26_Parts.calls k a0 a1 l e0 W hp)
  have HPG := Aside0.mk hpage
  have LP := Aside0.mk hpg
  clear hp hpage hpg
  go_enter Try.func11, Try.ntmps11
  go_wp2_with (go_at_call 9; refine (HPA.out _).mono ?_; rintro e w1 ⟨v, rfl, ho, hb⟩; obtain ⟨A, c, rfl⟩ := Kd.R_slice ho; have HC1 := Aside0.mk (Kd.R_reads' ho).2.2; have PK1 := Aside0.mk (blk_below (blk_new w (.cells (pg.map (Value.int .u8)).toArray 32)) hb); have HB1 := Aside0.mk (below_step ((Below.refl w.heap.size w).alloc (Nat.le_refl _) (.cells (pg.map (Value.int .u8)).toArray 32)) hb); clear ho hb)
  go_loopg [7, 10] l.length (fun kq v7 v10 w' => ∃ (i : Nat) (out : List Int), v10 = .int .i64 (i : Int) ∧ Aside0 (i + kq = l.length) ∧ Aside0 (out ++ missR pg (l.drop i) = missR pg l) ∧ Aside0 (out.length ≤ i) ∧ Aside0 (Kd.R (Kd.int .i64) 3 w' w1.heap.size (fun _ => True) v7 out) ∧ Aside0 (Below w1.heap.size w1 w'))
  case atStart => exact ⟨0, [], rfl, ⟨by omega⟩, ⟨rfl⟩, ⟨by simp⟩, ⟨Kd.R_nil _ _ _ _ _⟩, ⟨Below.refl _ _⟩⟩
  case round =>
    obtain ⟨i, out, rfl, HI, HE, HL, HO, HB⟩ := hrel
    by_cases hlt : (i : Int) < (l.length : Int)
    · have hil : i < l.length := by omega
      have hi0 : decide ((i : Int) < (l.length : Int)) = true := decide_eq_true hlt
      have hia : 0 ≤ (i : Int) := by omega
      obtain ⟨g1, g2⟩ := HPG.out i hil
      have hd := missR_drop pg l i hil
      obtain ⟨ad0, e0, hx0, _, _⟩ := at_T52 (Kd.C_below HC1.out HB.out) (i : Int) hia hlt
      cases e0
      have hq : rd_T52 l (i : Int) = l.getD i z52 := rfl
      rw [hq] at hx0
      obtain ⟨q, hq2⟩ : ∃ q, q = (l.getD i z52).f0 := ⟨_, rfl⟩
      rw [← hq2] at g1 g2 hd hx0
      simp only [Int.toNat_natCast] at hx0
      clear hq hq2
      have hcp : wr.cell? ⟨w.heap.size, q.toNat, none⟩ = some (.int .u8 (rd pg q)) := page_cell (blk_below PK1.out HB.out) g1 (by have := LP.out; omega)
      have HD := Aside0.mk hd
      clear hd
      obtain ⟨gk, rfl⟩ : ∃ m, gk = m + 1 := ⟨gk - 1, by have := HI.out; omega⟩
      obtain ⟨Ao, ao, rfl⟩ := Kd.R_slice HO.out
      by_cases hz : rd pg q = 0
      · have hm : miss1 pg q = [q] := if_pos hz
        rw [hm] at HD
        rw [hz] at hcp
        clear hm hz
        go_wp2_with (at_builtin; refine Kd.R_append (Kd.int .i64) (w0 := w1) w1.heap.size rfl (.tmp 31) (.tmp 37) 36 3 (.int .i64 0) 8 rfl Try.underlying36 info3 rfl (by decide) (by omega) (.slice Ao out.length ao) out q [.int .i64 q] (fun _ => True) (fun _ => False) rfl (by first | (go_simp; done) | (go_simp; rfl)) ?aP (fun _ hk => hk.elim) ?aF ?aO ?aB ?aS ?aL ?_; (case aP => exact rfl); (case aF => exact fun _ _ => trivial); (case aO => exact HO.out); (case aB => exact HB.out); (case aS => exact below_size HB.out); (case aL => (have := HL.out; omega)); intro v4 w4 ho4 hb4 hg4 hat4; have HO4 := Aside0.mk ho4; have HB4 := Aside0.mk hb4; clear ho4 hb4 hg4 hat4)
        go_roundg gk
        case measure => omega
        case rel => exact ⟨i + 1, out ++ [q], by first | rfl | simp, ⟨by have := HI.out; omega⟩, ⟨by rw [List.append_assoc, ← HD.out]; exact HE.out⟩, ⟨by have := HL.out; simp; omega⟩, HO4, HB4⟩
      · have hm : miss1 pg q = [] := if_neg hz
        rw [hm, List.nil_append] at HD
        have hzb : (rd pg q == 0) = false := beq_eq_false_iff_ne.mpr hz
        clear hm hz
        go_wp2
        go_roundg gk
        case measure => omega
        case rel => exact ⟨i + 1, out, by first | rfl | simp, ⟨by have := HI.out; omega⟩, ⟨by rw [← HD.out]; exact HE.out⟩, ⟨by have := HL.out; omega⟩, HO, HB⟩
    · have hi0 : decide ((i : Int) < (l.length : Int)) = false := decide_eq_false hlt
      have hend : out = missR pg l := by
        have := HE.out
        rw [List.drop_eq_nil_of_le (by omega)] at this
        simpa [missR] using this
      subst hend
      go_wp2
      go_ret
      exact ⟨_, rfl, Kd.R_lower HO.out (below_size HB1.out), below_step HB1.out HB.out⟩
end Go.Proofs.Ytffpfneiaknfeaa.SP
