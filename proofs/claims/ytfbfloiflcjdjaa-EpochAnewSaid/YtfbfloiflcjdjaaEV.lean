/- A meter that begins anew shares no use with the elder one: the walk. -/
import Derived.Test.YtfbfloiflcjdjaaES
namespace Go.Proofs.Ytfbfloiflcjdjaa.EO
open Go.RowKit Go.Maps Go.Proofs.YtfbfloiflcjdjaaW.PrintWords Go.Proofs.YtfbfloiflcjdjaaW.PrintLast Go.Proofs.YtfbfloiflcjdjaaW.PrintMore Go.Proofs.Ytfbfloiflcjdjaa.PE Go.Proofs.Ytfbfloiflcjdjaa.EM Go.Proofs.Ytfbfloiflcjdjaa.EN
set_option linter.unusedVariables false
set_option linter.unusedSimpArgs false
theorem nil18 (w : World) : Calls Try.prog 18 #[.pointer none] w fun e w' => e = .returned (.tuple #[.int .u32 0, .int .i64 2]) ∧ w = w' := by
  go_enter Try.func18, Try.ntmps18
  go_wp2
  go_ret2
  exact ⟨rfl, rfl⟩
theorem nil19 (b : Int) (w : World) : Calls Try.prog 19 #[.pointer none, .int .i64 b] w fun e w' => e = .returned (.int .i64 2) ∧ w = w' := by
  go_enter Try.func19, Try.ntmps19
  go_wp2
  go_ret
  exact ⟨rfl, rfl⟩
theorem nil20 (w : World) : Calls Try.prog 20 #[.pointer none] w fun e w' => e = .returned (.int .i64 2) ∧ w = w' := by
  go_enter Try.func20, Try.ntmps20
  go_wp2
  go_ret
  exact ⟨rfl, rfl⟩
theorem nil15 (w : World) : Calls Try.prog 15 #[.pointer none] w fun e w' => e = .returned (.int .u32 0) ∧ w = w' := by
  go_enter Try.func15, Try.ntmps15
  go_wp2
  go_ret
  exact ⟨rfl, rfl⟩
theorem nil16 (w : World) : Calls Try.prog 16 #[.pointer none] w fun e w' => e = .returned (.int .u32 0) ∧ w = w' := by
  go_enter Try.func16, Try.ntmps16
  go_wp2
  go_ret
  exact ⟨rfl, rfl⟩
theorem nil17 (w : World) : Calls Try.prog 17 #[.pointer none] w fun e w' => e = .returned (.int .u32 0) ∧ w = w' := by
  go_enter Try.func17, Try.ntmps17
  go_wp2
  go_ret
  exact ⟨rfl, rfl⟩
theorem nil10 (w : World) : Calls Try.prog 10 #[.pointer none] w fun e w' => e = .returned (.slice none 0 0) ∧ w = w' := by
  go_enter Try.func10, Try.ntmps10
  go_wp2
  go_ret
  exact ⟨rfl, rfl⟩
section
variable {w0 w w' : World} {B kb : Nat} {o : Obj} {m m' : Meter}
theorem play_ms2 (h : Ms w0 B m w) (k b : Int) (hk : 0 ≤ k ∧ k ≤ 255) (hb0 : (Lit.int .i64 b).wf = true) (hm : 0 ≤ m.last ∧ m.last ≤ 4294967295) (hul : m.uses.length ≤ 1000000) (hbl : m.bl.length ≤ 1000000) :
    Calls Try.prog 9 #[.pointer (some ⟨B, 0, none⟩), .agg #[.int .u8 k, .int .i64 b]] w fun e w' => e = .returned (.tuple #[.int .u32 (Meter.step m k b).2.1, .int .i64 (Meter.step m k b).2.2]) ∧ Ms w0 B (Meter.step m k b).1 w' :=
  play_gen (fun m w => Ms w0 B m w) (fun _ _ _ h hb => h.below hb) (fun _ _ h hl => reserve_ms h hl) (fun _ _ _ h h1 h2 h3 => use_ms h _ h1 h2 h3) (fun _ _ h => done_ms h) h k b hk hb0 hm hul hbl
/-- A meter stands apart from the block kb. -/
def Mn (base B kb : Nat) (m : Meter) (w : World) : Prop := ∃ S vu mv, Mt base B m S w vu mv ∧ ¬ S kb
theorem Mn.of {base : Nat} (h : ∃ S vu mv, Mt base B m S w vu mv) {o : Obj} : Mn base B w.heap.size m (w.alloc o) := by
  obtain ⟨S, vu, mv, hm⟩ := h
  exact ⟨_, vu, mv, (Mt.restrict hm).below ((Below.refl _ _).alloc (Nat.le_refl _) _), fun hk => by have := hk.2; omega⟩
theorem Mn.below {base : Nat} (h : Mn base B kb m w) (hb : Below w.heap.size w w') : Mn base B kb m w' := by
  obtain ⟨S, vu, mv, hm, hn⟩ := h
  exact ⟨S, vu, mv, hm.below hb, hn⟩
theorem Mn.grown {base : Nat} (h : Mn base B kb m w) (hg : w.grownBy w' (some kb)) : Mn base B kb m w' := by
  obtain ⟨S, vu, mv, hm, hn⟩ := h
  exact ⟨S, vu, mv, hm.kept (kept_grown (S := fun k => k = kb) (Kept.refl _ _) hg rfl) (fun k hk h9 => hn (h9 ▸ hk)), hn⟩
theorem used_mn {base : Nat} (h : Mn base B kb m w) (hl : m.uses.length ≤ 1000000) : Calls Try.prog 10 #[.pointer (some ⟨B, 0, none⟩)] w fun e w' => ∃ v, e = .returned v ∧ Kd.R kU 37 w' w.heap.size (fun _ => True) v m.uses ∧ Below w.heap.size w w' := by
  obtain ⟨S, vu, mv, hm, _⟩ := h
  exact used_calls w hm hl
end
theorem apart_uses {l0 : Int} {m k : Meter} (hm : Inv l0 m) (hk : Inv m.last k) {u : Use} (hu : u ∈ k.uses) : u ∉ m.uses := fun h => by
  have h1 := (hm.es u h).2
  have h2 := (hk.es u hu).1
  omega
set_option maxHeartbeats 16000000 in
set_option maxRecDepth 100000 in
theorem anew_law (last : Int) (hl : 0 ≤ last ∧ last ≤ 4294967295) (A : Option Addr) (n c : Nat) (l : List S29) (A2 : Option Addr) (n2 c2 : Nat) (l2 : List S29) (w : World)
    (hC : Kd.C k29 w A n l) (hnc : n ≤ c) (hc : c ≤ 9223372036854775807) (hs : Steps l) (hC2 : Kd.C k29 w A2 n2 l2) (hnc2 : n2 ≤ c2) (hc2 : c2 ≤ 9223372036854775807) (hs2 : Steps l2) :
    Calls Try.prog 5 #[.int .u32 last, .slice A n c, .slice A2 n2 c2] w fun e w' => e = .returned (.bool true) ∧ Below w.heap.size w w' := by
  obtain ⟨N, hN⟩ : ∃ N, N = min n 200 := ⟨_, rfl⟩
  obtain ⟨N2, hN2⟩ : ∃ N2, N2 = min n2 200 := ⟨_, rfl⟩
  have R8 := Aside0.mk (fun W => (show Calls Try.prog 8 #[.slice A n c] W fun e w' => e = .returned (.slice A N c) ∧ w' = W from hN ▸ short_calls A n c hnc hc W))
  have R82 := Aside0.mk (fun W => (show Calls Try.prog 8 #[.slice A2 n2 c2] W fun e w' => e = .returned (.slice A2 N2 c2) ∧ w' = W from hN2 ▸ short_calls A2 n2 c2 hnc2 hc2 W))
  have hln : l.length = n := hC.1
  have hln2 : l2.length = n2 := hC2.1
  have hNN : N ≤ 200 ∧ N ≤ n := by omega
  have hNN2 : N2 ≤ 200 ∧ N2 ≤ n2 := by omega
  have HC := Aside0.mk hC
  have HC2 := Aside0.mk hC2
  have HS := Aside0.mk hs
  have HS2 := Aside0.mk hs2
  have hl0 := hl.1
  have hl1 := hl.2
  have HN := Aside0.mk (And.intro hNN hln)
  have HN2 := Aside0.mk (And.intro hNN2 hln2)
  have hmm := @run_makeMap Try.prog
  clear hC hs hl hNN hln hN hC2 hs2 hNN2 hln2 hN2
  go_enter Try.func5, Try.ntmps5
  go_wp2_with (first
    | (go_at_call 18; refine (nil18 _).mono ?_; rintro e w1 ⟨rfl, rfl⟩)
    | (go_at_call 19; refine (nil19 _ _).mono ?_; rintro e w1 ⟨rfl, rfl⟩)
    | (go_at_call 20; refine (nil20 _).mono ?_; rintro e w1 ⟨rfl, rfl⟩)
    | (go_at_call 15; refine (nil15 _).mono ?_; rintro e w1 ⟨rfl, rfl⟩)
    | (go_at_call 16; refine (nil16 _).mono ?_; rintro e w1 ⟨rfl, rfl⟩)
    | (go_at_call 17; refine (nil17 _).mono ?_; rintro e w1 ⟨rfl, rfl⟩)
    | (go_at_call 10; refine (nil10 _).mono ?_; rintro e w1 ⟨rfl, rfl⟩)
    | (go_at_call 7; refine (new_calls last _).mono ?_; rintro e w1 ⟨vu, mv, rfl, hM, hb⟩; have H1 := Aside0.mk (Ms.new (w0 := w) (Below.refl _ _) hM hb); clear hM hb)
    | (go_at_call 8; refine (R8.out _).mono ?_; rintro e w2 ⟨rfl, hw3⟩; obtain rfl := hw3.symm))
  generalize hBB : w.heap.size = B at H1 ⊢
  have HBB := Aside0.mk hBB
  clear hBB
  go_loopg [64] N (fun gk v64 w' => ∃ (i : Nat) (m : Meter), v64 = .int .i64 (i : Int) ∧ i + gk = N ∧ Aside0 (Ms w B m w' ∧ Inv last m ∧ UW m ∧ m.uses.length ≤ i ∧ m.bl.length ≤ i))
  case atStart => exact ⟨0, Meter.new last, rfl, by omega, H1.out, Inv.new hl0 hl1, fun u hu => absurd hu (by simp [Meter.new]), by simp [Meter.new], by simp [Meter.new]⟩
  case round =>
    clear H1
    obtain ⟨i, m, rfl, hig, HR⟩ := hrel
    have hN200 := HN.out.1.1
    by_cases hlt : i < N
    · have hin : i < n := by have := HN.out.1.2; omega
      obtain ⟨ad, rfl, hk0, hk1⟩ := at_S (Kd.C_below HC.out HR.out.1.bel) i hin
      obtain ⟨⟨hs1, hs2⟩, hs3⟩ := HS.out.at (i := i) (by rw [HN.out.2]; exact hin)
      generalize (sAt l i).f0 = k at hk0 hs1 hs2
      generalize (sAt l i).f1 = b at hk1 hs3
      have hlt2 : decide ((i : Int) < (N : Int)) = true := decide_eq_true (by omega)
      have hi0 : (0 : Int) ≤ (i : Int) := by omega
      have hi1 : (i : Int) < (N : Int) := by omega
      have hi2 : (i : Int) ≤ 200 := by omega
      have hlm : 0 ≤ m.last ∧ m.last ≤ 4294967295 := ⟨Int.le_trans HR.out.2.1.l00 HR.out.2.1.lo, HR.out.2.1.hi⟩
      have hul : m.uses.length ≤ 1000000 := by have := HR.out.2.2.2.1; omega
      have hbl : m.bl.length ≤ 1000000 := by have := HR.out.2.2.2.2; omega
      have hi1' := HR.out.2.1.step k b
      have hls := len_step m k b
      have RP := Aside0.mk (fun W (h : Ms w B m W) => play_ms2 h k b ⟨hs1, hs2⟩ hs3 hlm hul hbl)
      have HI := Aside0.mk (show Inv last (Meter.step m k b).1 ∧ UW (Meter.step m k b).1 ∧ (Meter.step m k b).1.uses.length ≤ i + 1 ∧ (Meter.step m k b).1.bl.length ≤ i + 1 from ⟨hi1', HR.out.2.2.1.step hs3, by have := HR.out.2.2.2.1; omega, by have := HR.out.2.2.2.2; omega⟩)
      have HJ0 := Aside0.mk HR.out.1
      clear hlm hul hbl hi1' hls HR hs1 hs2 hs3
      go_wp2_with (go_at_call 9; refine (RP.out _ (HJ0.out.below ((Below.refl _ _).alloc (Nat.le_refl _) (.cells #[.int .u8 k, .int .i64 b] 29)))).mono ?_; rintro e w3 ⟨rfl, hj⟩; have H3 := Aside0.mk hj; clear hj)
      go_roundg (gk - 1)
      case measure => omega
      case rel => exact ⟨i + 1, _, by go_num, by omega, H3.out, HI.out⟩
    · obtain rfl : i = N := by omega
      have hge : decide ((i : Int) < (i : Int)) = false := decide_eq_false (by omega)
      have hmu : m.uses.length ≤ 1000000 := by have := HR.out.2.2.2.1; omega
      have HJ0 := Aside0.mk (And.intro HR.out.1 hmu)
      have HW := Aside0.mk (HR.out.2.2.1.wf HR.out.2.1)
      have HI := Aside0.mk HR.out.2.1
      have hlm0 : 0 ≤ m.last := Int.le_trans HR.out.2.1.l00 HR.out.2.1.lo
      have hlm1 : m.last ≤ 4294967295 := HR.out.2.1.hi
      clear HR hmu
      go_wp2_with (first
        | (go_at_call 15; refine (last_ms HJ0.out.1).mono ?_; rintro e w3 ⟨rfl, hw3⟩; obtain rfl := hw3.symm)
        | (go_at_call 7; refine (new_calls m.last _).mono ?_; rintro e w1 ⟨vu, mv, rfl, hM, hb⟩; have H1 := Aside0.mk (Ms.new (w0 := wr) (Below.refl _ _) hM hb); clear hM hb)
        | (go_at_call 8; refine (R82.out _).mono ?_; rintro e w2 ⟨rfl, hw3⟩; obtain rfl := hw3.symm))
      generalize hKB : wr.heap.size = KB at H1 ⊢
      have HKB := Aside0.mk hKB
      clear hKB
      generalize hwa : wr = wa at HJ0 H1 HKB
      clear hwa
      go_loopg [78] N2 (fun gk v78 w' => ∃ (i : Nat) (k : Meter), v78 = .int .i64 (i : Int) ∧ i + gk = N2 ∧ Aside0 (Ms wa KB k w' ∧ Inv m.last k ∧ UW k ∧ k.uses.length ≤ i ∧ k.bl.length ≤ i))
      case atStart => exact ⟨0, Meter.new m.last, rfl, by omega, H1.out, Inv.new hlm0 hlm1, fun u hu => absurd hu (by simp [Meter.new]), by simp [Meter.new], by simp [Meter.new]⟩
      case round =>
        clear H1
        obtain ⟨j, mk, rfl, hjg, HR⟩ := hrel
        have hN200 := HN2.out.1.1
        have HBW := Aside0.mk (below_step HJ0.out.1.bel HR.out.1.bel)
        by_cases hlt : j < N2
        · have hin : j < n2 := by have := HN2.out.1.2; omega
          obtain ⟨ad, rfl, hk0, hk1⟩ := at_S (Kd.C_below HC2.out HBW.out) j hin
          obtain ⟨⟨hs1, hs2⟩, hs3⟩ := HS2.out.at (i := j) (by rw [HN2.out.2]; exact hin)
          generalize (sAt l2 j).f0 = k at hk0 hs1 hs2
          generalize (sAt l2 j).f1 = b at hk1 hs3
          have hlt2 : decide ((j : Int) < (N2 : Int)) = true := decide_eq_true (by omega)
          have hi0 : (0 : Int) ≤ (j : Int) := by omega
          have hi1 : (j : Int) < (N2 : Int) := by omega
          have hi2 : (j : Int) ≤ 200 := by omega
          have hlm : 0 ≤ mk.last ∧ mk.last ≤ 4294967295 := ⟨Int.le_trans HR.out.2.1.l00 HR.out.2.1.lo, HR.out.2.1.hi⟩
          have hul : mk.uses.length ≤ 1000000 := by have := HR.out.2.2.2.1; omega
          have hbl : mk.bl.length ≤ 1000000 := by have := HR.out.2.2.2.2; omega
          have hi1' := HR.out.2.1.step k b
          have hls := len_step mk k b
          have RP := Aside0.mk (fun W (h : Ms wa KB mk W) => play_ms2 h k b ⟨hs1, hs2⟩ hs3 hlm hul hbl)
          have HI2 := Aside0.mk (show Inv m.last (Meter.step mk k b).1 ∧ UW (Meter.step mk k b).1 ∧ (Meter.step mk k b).1.uses.length ≤ j + 1 ∧ (Meter.step mk k b).1.bl.length ≤ j + 1 from ⟨hi1', HR.out.2.2.1.step hs3, by have := HR.out.2.2.2.1; omega, by have := HR.out.2.2.2.2; omega⟩)
          have HJ2 := Aside0.mk HR.out.1
          clear hlm hul hbl hi1' hls HR hs1 hs2 hs3
          go_wp2_with (go_at_call 9; refine (RP.out _ (HJ2.out.below ((Below.refl _ _).alloc (Nat.le_refl _) (.cells #[.int .u8 k, .int .i64 b] 29)))).mono ?_; rintro e w3 ⟨rfl, hj⟩; have H3 := Aside0.mk hj; clear hj)
          go_roundg (gk - 1)
          case measure => omega
          case rel => exact ⟨j + 1, _, by go_num, by omega, H3.out, HI2.out⟩
        · obtain rfl : j = N2 := by omega
          have hge : decide ((j : Int) < (j : Int)) = false := decide_eq_false (by omega)
          have hmu2 : mk.uses.length ≤ 1000000 := by have := HR.out.2.2.2.1; omega
          have HWK := Aside0.mk (HR.out.2.2.1.wf HR.out.2.1)
          have HIK := Aside0.mk HR.out.2.1
          have HMN := Aside0.mk (And.intro (Mn.of HR.out.1.ex (o := .map #[] 0)) hmu2)
          have HMM := Aside0.mk (And.intro (HJ0.out.1.below HR.out.1.bel) HJ0.out.2)
          clear HR hmu2 HJ0
          go_wp2_with (first
            | (go_at_call 10; refine (used_ms (HMM.out.1.below ((Below.refl _ _).alloc (Nat.le_refl _) (.map #[] 0))) HMM.out.2).mono ?_; rintro e w3 ⟨v, rfl, ho, hb, hj⟩; obtain ⟨Au, cu, rfl⟩ := Kd.R_slice ho; have HU := Aside0.mk (Kd.R_mono (Kd.R_lower (Kd.R_bound ho) (by have := HBW.out.size; rw [HBB.out] at this; simp; omega : B ≤ (wr.alloc (.map #[] 0)).heap.size)) (fun k hk => show k ≠ wr.heap.size from by have h9 := hk.2.1; simp at h9; omega)); have HMB := Aside0.mk (show B ≤ wr.heap.size from by have := HBW.out.size; rw [HBB.out] at this; exact this); have HB3 := Aside0.mk hj.bel; have HN3 := Aside0.mk (And.intro (HMN.out.1.below hb) HMN.out.2); have HO := Aside0.mk (own_keepU (World.ownsMap_made (H := Unit) wr Try.prog 37 (plainElem Try.prog 4)) (hb.block _ (by simp))); clear ho hb hj))
          clear HMN
          generalize wr.heap.size = MB at HO HU HMB HN3 ⊢
          generalize hMM : m.uses.length = M at HU HMM ⊢
          have hM6 : M ≤ 1000000 := HMM.out.2
          have HML := Aside0.mk hMM
          clear HMM hMM
          go_loopg [90] M (fun gk v90 w' => ∃ j : Nat, v90 = .int .i64 (j : Int) ∧ j + gk = M ∧ Aside0 (Below B w w' ∧ w'.ownsMap Try.prog 37 (plainElem Try.prog 4) MB j (MU (m.uses.take j).reverse) ∧ Kd.R kU 37 w' B (fun k => k ≠ MB) (.slice Au M cu) m.uses ∧ B ≤ w'.heap.size ∧ Mn wa.heap.size KB MB mk w'))
          case atStart => exact ⟨0, rfl, by omega, ⟨HBB.out ▸ HB3.out, HO.out, HU.out, by have := HB3.out.size; rw [HBB.out] at this; exact this, HN3.out.1⟩⟩
          case round =>
            clear HO HU
            obtain ⟨q, rfl, hqg, HB⟩ := hrel
            by_cases hlt : q < M
            · have hj0 : (0 : Int) ≤ (q : Int) := by omega
              have hj1 : (q : Int) < (M : Int) := by omega
              have hj2 : decide ((q : Int) < (M : Int)) = true := decide_eq_true hj1
              obtain ⟨au, rfl, hu0, hu1⟩ := at_U (show Kd.C kU wr Au M m.uses from HML.out ▸ (Kd.R_reads' HB.out.2.2.1).2.2) q hlt
              have hjl : q < m.uses.length := by rw [HML.out]; exact hlt
              have HTK := Aside0.mk (uAt_take hjl)
              have HWU := Aside0.mk (HW.out _ (uAt_mem hjl))
              generalize uAt m.uses q = u at hu0 hu1 HTK HWU
              have HBA := Aside0.mk (HB.out.1.alloc HB.out.2.2.2.1 (.cells #[.int .u32 u.e, .int .i64 u.b] 37))
              have HOA := Aside0.mk (own_keepU HB.out.2.1 (Below.heap_alloc wr (.cells #[.int .u32 u.e, .int .i64 u.b] 37) MB HB.out.2.1.lt))
              have HRA := Aside0.mk (Kd.R_alloc HB.out.2.2.1 (.cells #[.int .u32 u.e, .int .i64 u.b] 37))
              have HNA := Aside0.mk (HB.out.2.2.2.2.below ((Below.refl _ _).alloc (Nat.le_refl _) (.cells #[.int .u32 u.e, .int .i64 u.b] 37)))
              have HSZ := Aside0.mk (show B ≤ (wr.alloc (.cells #[.int .u32 u.e, .int .i64 u.b] 37)).heap.size from by have := HB.out.2.2.2.1; simp; omega)
              go_wp2_with (at_mapUpdate; refine wpList_mapUpdate_own _ rfl _ _ _ 33 rfl 37 4 law37 Try.underlying33 _ MB _ _ rfl HOA.out (by unfold maxLen; omega) _ _ _ rfl rfl (key_use HWU.out) _ [] (plainElem_bool Try.underlying4 true) ?_; intro w4 hown4 hg4; have HO4 := Aside0.mk hown4; have HG4 := Aside0.mk hg4; clear hown4 hg4)
              go_roundg (gk - 1)
              case measure => omega
              case rel =>
                refine ⟨q + 1, by go_num, by omega, ⟨HBA.out.grown HG4.out HSZ.out (fun x hx => by cases hx; exact HMB.out), ?_, Kd.R_grown HRA.out HG4.out (fun k hk h9 => by injection h9 with h9; exact hk h9), Nat.le_trans HSZ.out HG4.out.size, HNA.out.grown HG4.out⟩⟩
                rw [HTK.out, List.reverse_append]
                exact HO4.out
            · obtain rfl : q = M := by omega
              have hge2 : decide ((q : Int) < (q : Int)) = false := decide_eq_false (by omega)
              have HOM : Aside0 (wr.ownsMap Try.prog 37 (plainElem Try.prog 4) MB q (MU m.uses.reverse)) := ⟨by have := HB.out.2.1; rw [← HML.out, List.take_length] at this; rw [← HML.out]; exact this⟩
              have HBw := Aside0.mk (show Below w.heap.size w wr from by rw [HBB.out]; exact HB.out.1)
              have HNK := Aside0.mk (And.intro HB.out.2.2.2.2 HN3.out.2)
              clear HB HN3
              go_wp2_with (first
                | (go_at_call 10; refine (used_mn HNK.out.1 HNK.out.2).mono ?_; rintro e w3 ⟨v, rfl, ho, hb⟩; obtain ⟨Ak, ck, rfl⟩ := Kd.R_slice ho; have HUK := Aside0.mk (Kd.R_reads' ho).2.2; have HO5 := Aside0.mk (own_keepU HOM.out (hb.block _ HOM.out.lt)); have HB5 := Aside0.mk (below_step HBw.out hb); clear ho hb))
              generalize hKK : mk.uses.length = K at HUK HNK ⊢
              have hK6 : K ≤ 1000000 := HNK.out.2
              have HKL := Aside0.mk hKK
              clear HNK hKK HOM HBw
              go_loopg [100] K (fun gk v100 w' => ∃ j : Nat, v100 = .int .i64 (j : Int) ∧ j + gk = K ∧ Aside0 (Below w3.heap.size w3 w'))
              case atStart => exact ⟨0, rfl, by omega, ⟨Below.refl _ _⟩⟩
              case round =>
                obtain ⟨p, rfl, hpg, HBp⟩ := hrel
                have HOp := Aside0.mk (own_keepU HO5.out (HBp.out.block _ HO5.out.lt))
                by_cases hlt : p < K
                · have hj0 : (0 : Int) ≤ (p : Int) := by omega
                  have hj1 : (p : Int) < (K : Int) := by omega
                  have hj2 : decide ((p : Int) < (K : Int)) = true := decide_eq_true hj1
                  obtain ⟨au, rfl, hu0, hu1⟩ := at_U (Kd.C_below HUK.out HBp.out) p hlt
                  have hmem := uAt_mem (show p < mk.uses.length by rw [HKL.out]; exact hlt)
                  have HWU := Aside0.mk (HWK.out _ hmem)
                  have HAP := Aside0.mk (decide_eq_false (p := uAt mk.uses p ∈ m.uses.reverse) (fun h9 => apart_uses HI.out HIK.out hmem (List.mem_reverse.1 h9)))
                  have HWT := Aside0.mk (show ∀ x ∈ m.uses.reverse, uWf x from fun x hx => HW.out x (List.mem_reverse.1 hx))
                  generalize uAt mk.uses p = u at hu0 hu1 HWU HAP hmem
                  clear hmem
                  have HOA := Aside0.mk (own_keepU HOp.out (Below.heap_alloc wr (.cells #[.int .u32 u.e, .int .i64 u.b] 37) MB HOp.out.lt))
                  have HBA := Aside0.mk (HBp.out.alloc HBp.out.size (.cells #[.int .u32 u.e, .int .i64 u.b] 37))
                  go_wp2_with (at_lookup; refine lookup_uses rfl _ _ rfl MB _ _ rfl HOA.out u rfl HWU.out HWT.out ?_; rw [HAP.out])
                  go_roundg (gk - 1)
                  case measure => omega
                  case rel => exact ⟨p + 1, by go_num, by omega, HBA⟩
                · obtain rfl : p = K := by omega
                  have hge3 : decide ((p : Int) < (p : Int)) = false := decide_eq_false (by omega)
                  have HBB2 := Aside0.mk (below_step HB5.out HBp.out)
                  go_wp2_with (go_at_call 11; refine (alive_calls _).mono ?_; rintro e w7 ⟨rfl, hb⟩; have HB7 := Aside0.mk (below_step HBB2.out hb); clear hb)
                  go_ret
                  exact ⟨rfl, HB7.out⟩
end Go.Proofs.Ytfbfloiflcjdjaa.EO
