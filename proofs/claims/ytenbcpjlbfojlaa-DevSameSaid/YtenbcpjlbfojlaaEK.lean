/- A store that nobody made has nothing. -/
import Derived.Test.YtenbcpjlbfojlaaEG
import Derived.Lib.Bytes
namespace Go.Proofs.Ytenbcpjlbfojlaa.DA
open Go.RowKit Go.Proofs.YtenbcpjlbfojlaaW.PrintWords Go.Proofs.YtenbcpjlbfojlaaW.PrintLast Go.Proofs.YtenbcpjlbfojlaaW.PrintMore Go.Proofs.Ytenbcpjlbfojlaa.PD
attribute [local go_sem] max2_int min2_int
set_option linter.unusedVariables false
set_option linter.unusedSimpArgs false
/-- Nil, or a store that nobody made. -/
def Hol (p : Option Addr) (w : World) : Prop := p = none ∨ ∃ B, p = some ⟨B, 0, none⟩ ∧ w.heap[B]? = some (.cells #[.slice none 0 0, .slice none 0 0, .slice none 0 0, .slice none 0 0] 62 (0, 0))
theorem setCell_id {w : World} {g i : Nat} {cs : Array Value} {t : TypeId} {v : Value} (hg : w.heap[g]? = some (.cells cs t (0, 0))) (e : cs.setIfInBounds i v = cs) : w.setCell ⟨g, i, none⟩ v = w := by
  have h : (w.setCell ⟨g, i, none⟩ v).heap = w.heap := Array.ext_getElem? (fun k => by
    by_cases hk : k = g
    · subst hk
      rw [hg]
      exact blk_put hg i v e
    · exact Below.heap_setCell w ⟨g, i, none⟩ v k hk)
  cases w
  simp only [World.setCell] at h ⊢
  rw [h]
section
variable {w w' : World} {p : Option Addr}
theorem Hol.below (h : Hol p w) (hb : Below w.heap.size w w') : Hol p w' := by
  rcases h with rfl | ⟨B, rfl, hh⟩
  · exact .inl rfl
  · exact .inr ⟨B, rfl, blk_below hh hb⟩
set_option maxHeartbeats 4000000
theorem hol_len (h : Hol p w) : Calls Try.prog 19 #[.pointer p] w fun e w' => e = .returned (.int .i64 0) ∧ w = w' := by
  rcases h with rfl | ⟨B, rfl, hh⟩
  · go_enter Try.func19, Try.ntmps19
    go_wp2
    go_ret
    exact ⟨rfl, rfl⟩
  · have h0 : w.cell? ⟨B, 0, none⟩ = some (.slice none 0 0) := (blk_cell hh 0).trans rfl
    clear hh
    go_enter Try.func19, Try.ntmps19
    go_wp2
    go_ret
    exact ⟨rfl, rfl⟩
theorem hol_ask (h : Hol p w) (n : Int) : Calls Try.prog 29 #[.pointer p, .int .i64 n] w fun e w' => e = .returned (.int .i64 2) ∧ w = w' := by
  have HL := Aside0.mk (hol_len h)
  clear h
  go_enter Try.func29, Try.ntmps29
  go_wp2_with (go_at_call 19; refine HL.out.mono ?_; rintro e w2 ⟨rfl, rfl⟩)
  go_ret
  exact ⟨rfl, rfl⟩
theorem hol_read (h : Hol p w) (n : Int) : Calls Try.prog 13 #[.pointer p, .int .i64 n] w fun e w' => e = .returned (.tuple #[.slice none 0 0, .int .i64 2]) ∧ Below w.heap.size w w' := by
  have hb := (((Below.refl w.heap.size w).alloc (Nat.le_refl _) (.cells #[.int .i64 n] 3)).alloc (by simp) (.cells #[.slice none 0 0] 35)).alloc (by simp; omega) (.cells #[.int .i64 0] 24)
  have HA := Aside0.mk (hol_ask (h.below hb) n)
  clear h hb
  go_enter Try.func13, Try.ntmps13
  go_wp2_with (go_at_call 29; refine HA.out.mono ?_; rintro e w2 ⟨rfl, rfl⟩)
  refine bodyPost_ret (v := .tuple #[.slice none 0 0, .int .i64 2]) (by simp [results, Try.f13, go_sem]) rfl ⟨rfl, ?_⟩
  exact (((Below.refl w.heap.size w).alloc (Nat.le_refl _) (.cells #[.int .i64 n] 3)).alloc (by simp) (.cells #[.slice none 0 0] 35)).alloc (by simp; omega) (.cells #[.int .i64 2] 24)
theorem hol_put (h : Hol p w) : Calls Try.prog 23 #[.pointer p] w fun e w' => e = .returned (.tuple #[.int .i64 0, .int .i64 2]) ∧ w = w' := by
  have HL := Aside0.mk (hol_len h)
  clear h
  go_enter Try.func23, Try.ntmps23
  go_wp2_with (go_at_call 19; refine HL.out.mono ?_; rintro e w2 ⟨rfl, rfl⟩)
  go_ret2
  exact ⟨rfl, rfl⟩
theorem hol_write (h : Hol p w) (n : Int) (v : Value) : Calls Try.prog 11 #[.pointer p, .int .i64 n, v] w fun e w' => e = .returned (.int .i64 2) ∧ w = w' := by
  have HA := Aside0.mk (hol_ask h n)
  clear h
  go_enter Try.func11, Try.ntmps11
  go_wp2_with (go_at_call 29; refine HA.out.mono ?_; rintro e w2 ⟨rfl, rfl⟩)
  go_ret
  exact ⟨rfl, rfl⟩
theorem hol_tamper (h : Hol p w) (n m : Int) (v : Value) : Calls Try.prog 24 #[.pointer p, .int .i64 n, .int .i64 m, v] w fun e w' => e = .returned (.int .i64 2) ∧ w = w' := by
  have HA := Aside0.mk (hol_ask h n)
  clear h
  go_enter Try.func24, Try.ntmps24
  go_wp2_with (go_at_call 29; refine HA.out.mono ?_; rintro e w2 ⟨rfl, rfl⟩)
  go_ret
  exact ⟨rfl, rfl⟩
theorem hol_restore (h : Hol p w) (n : Int) : Calls Try.prog 25 #[.pointer p, .int .i64 n] w fun e w' => e = .returned (.int .i64 2) ∧ w = w' := by
  have HL := Aside0.mk (hol_len h)
  clear h
  go_enter Try.func25, Try.ntmps25
  go_wp2_with (go_at_call 19; refine HL.out.mono ?_; rintro e w2 ⟨rfl, rfl⟩)
  go_ret
  exact ⟨rfl, rfl⟩
theorem hol_flush (h : Hol p w) : Calls Try.prog 9 #[.pointer p] w fun e w' => e = .returned (.int .i64 0) ∧ w = w' := by
  have HL := Aside0.mk (hol_len h)
  clear h
  go_enter Try.func9, Try.ntmps9
  go_wp2_with (go_at_call 19; refine HL.out.mono ?_; rintro e w2 ⟨rfl, rfl⟩)
  go_ret
  exact ⟨rfl, rfl⟩
theorem hol_bytes (h : Hol p w) : Calls Try.prog 20 #[.pointer p] w fun e w' => e = .returned (.slice none 0 0) ∧ w = w' := by
  rcases h with rfl | ⟨B, rfl, hh⟩
  · go_enter Try.func20, Try.ntmps20
    go_wp2
    go_ret
    exact ⟨rfl, rfl⟩
  · have h0 : w.cell? ⟨B, 0, none⟩ = some (.slice none 0 0) := (blk_cell hh 0).trans rfl
    have heq := fun (W : World) => Lib.run_eql_slice_nil (P := Try.prog) W 35 5 none 0 0 0 0 Try.underlying35
    simp only [Option.isNone_none] at heq
    clear hh
    go_enter Try.func20, Try.ntmps20
    go_wp2
    go_ret
    exact ⟨rfl, rfl⟩
theorem hol_trace (h : Hol p w) : Calls Try.prog 22 #[.pointer p] w fun e w' => e = .returned (.slice none 0 0) ∧ w = w' := by
  rcases h with rfl | ⟨B, rfl, hh⟩
  · go_enter Try.func22, Try.ntmps22
    go_wp2
    go_ret
    exact ⟨rfl, rfl⟩
  · have h0 : w.cell? ⟨B, 3, none⟩ = some (.slice none 0 0) := (blk_cell hh 3).trans rfl
    have heq := fun (W : World) => Lib.run_eql_slice_nil (P := Try.prog) W 44 3 none 0 0 0 0 Try.underlying44
    simp only [Option.isNone_none] at heq
    clear hh
    go_enter Try.func22, Try.ntmps22
    go_wp2
    go_ret
    exact ⟨rfl, rfl⟩
theorem hol_waiting (h : Hol p w) : Calls Try.prog 16 #[.pointer p] w fun e w' => e = .returned (.slice none 0 0) ∧ w = w' := by
  rcases h with rfl | ⟨B, rfl, hh⟩
  · go_enter Try.func16, Try.ntmps16
    go_wp2
    go_ret
    exact ⟨rfl, rfl⟩
  · have h0 : w.cell? ⟨B, 1, none⟩ = some (.slice none 0 0) := (blk_cell hh 1).trans rfl
    clear hh
    go_enter Try.func16, Try.ntmps16
    go_wp2
    go_loopg [3, 13] 0 (fun gk v3 v13 w' => v3 = .slice none 0 0 ∧ v13 = .int .i64 0 ∧ w = w')
    case atStart => exact ⟨rfl, rfl, rfl⟩
    case round =>
      obtain ⟨rfl, rfl, rfl⟩ := hrel
      go_wp2
      go_ret
      exact ⟨rfl, rfl⟩
theorem hol_crash (h : Hol p w) (keep n m : Int) : Calls Try.prog 10 #[.pointer p, .int .u64 keep, .int .i64 n, .int .i64 m] w fun e w' => e = .returned (.tuple #[]) ∧ w = w' := by
  rcases h with rfl | ⟨B, rfl, hh⟩
  · go_enter Try.func10, Try.ntmps10
    go_wp2
    refine bodyPost_ret (results_none rfl _ _ _) rfl ?_
    exact ⟨rfl, rfl⟩
  · have h1 : w.cell? ⟨B, 1, none⟩ = some (.slice none 0 0) := (blk_cell hh 1).trans rfl
    have hf : w.frozen? ⟨B, 1, none⟩ = false := blk_frozen hh 1
    have HI := Aside0.mk (setCell_id hh (i := 1) (v := .slice none 0 0) rfl)
    clear hh
    go_enter Try.func10, Try.ntmps10
    go_wp2
    go_loopg [18] 0 (fun gk v18 w' => v18 = .int .i64 0 ∧ w = w')
    case atStart => exact ⟨rfl, rfl⟩
    case round =>
      obtain ⟨rfl, rfl⟩ := hrel
      go_wp2
      go_end0
      exact ⟨rfl, HI.out.symm⟩
/-- What bytes.Equal tells. -/
def beq (a b : List Int) : Bool := (strOfNums a).toList == (strOfNums b).toList
theorem beq_self (a : List Int) : beq a a = true := beq_iff_eq.mpr rfl
theorem beq_len {a b : List Int} (h : a.length ≠ b.length) : beq a b = false := beq_eq_false_iff_ne.mpr (fun he => h (by
  have h2 := congrArg List.length he
  rw [Lib.strOfNums_toList, Lib.strOfNums_toList] at h2
  simpa [Lib.bytesOf] using h2))
theorem equal40 {A0 A1 : Option Addr} {c0 c1 : Nat} {a b : List Int} {w : World} (ha : Kd.C kb w A0 a.length a) (hc0 : a.length ≤ c0) (hb : Kd.C kb w A1 b.length b) (hc1 : b.length ≤ c1) :
    Calls Try.prog 40 #[.slice A0 a.length c0, .slice A1 b.length c1] w fun e w' => e = .returned (.bool (beq a b)) ∧ Below w.heap.size w w' :=
  (bytes_Equal.calls A0 c0 a A1 c1 b _ w ha hc0 hb hc1 rfl).mono fun e w' ⟨h1, h2⟩ => ⟨h1, h2.below⟩
theorem C_none {α : Type} (k : Kd α) (w : World) : Kd.C k w none 0 ([] : List α) := ⟨rfl, by decide, fun h => absurd h (by decide)⟩
theorem hol_same (h : Hol p w) : Calls Try.prog 26 #[.pointer p, .pointer none] w fun e w' => e = .returned (.bool true) ∧ Below w.heap.size w w' := by
  have HB := Aside0.mk (fun W (h : Hol p W) => hol_bytes h)
  have HT := Aside0.mk (fun W (h : Hol p W) => hol_trace h)
  have HE := Aside0.mk (fun W => (show Calls Try.prog 40 #[.slice none 0 0, .slice none 0 0] W fun e w' => e = .returned (.bool true) ∧ Below W.heap.size W w' from by
    have h9 := equal40 (w := W) (A0 := none) (A1 := none) (c0 := 0) (c1 := 0) (a := []) (b := []) (C_none kb W) (Nat.le_refl _) (C_none kb W) (Nat.le_refl _)
    rw [beq_self] at h9
    exact h9))
  have HE2 := Aside0.mk (fun W => show Calls Try.prog 41 #[.slice none 0 0, .slice none 0 0] W fun e w' => e = .returned (.bool true) ∧ Below W.heap.size W w' from equal41 (w := W) (A0 := none) (A1 := none) (c0 := 0) (c1 := 0) (a := []) (b := []) (C_none ki W) (Nat.le_refl _) (C_none ki W) (Nat.le_refl _) (Nat.zero_le _))
  have HH := Aside0.mk h
  obtain ⟨q, hq⟩ : ∃ q : Option Addr, q = none := ⟨_, rfl⟩
  have HB0 := Aside0.mk (fun W => hol_bytes (p := q) (w := W) (.inl hq))
  have HT0 := Aside0.mk (fun W => hol_trace (p := q) (w := W) (.inl hq))
  rw [show (#[.pointer p, .pointer none] : Array Value) = #[.pointer p, .pointer q] by rw [hq]]
  clear h hq
  go_enter Try.func26, Try.ntmps26
  go_wp2_with (first
    | (go_at_call 20; (with_reducible refine Calls.mono (HB.out _ HH.out) ?_); rintro e w1 ⟨rfl, rfl⟩)
    | (go_at_call 20; (with_reducible refine Calls.mono (HB0.out _) ?_); rintro e w1 ⟨rfl, rfl⟩)
    | (go_at_call 40; (with_reducible refine Calls.mono (HE.out _) ?_); rintro e w1 ⟨rfl, hd⟩; have HD := Aside0.mk hd; have HH1 := Aside0.mk (HH.out.below hd); clear hd)
    | (go_at_call 22; (with_reducible refine Calls.mono (HT.out _ HH1.out) ?_); rintro e w2 ⟨rfl, rfl⟩)
    | (go_at_call 22; (with_reducible refine Calls.mono (HT0.out _) ?_); rintro e w2 ⟨rfl, rfl⟩)
    | (go_at_call 41; (with_reducible refine Calls.mono (HE2.out _) ?_); rintro e w2 ⟨rfl, hd⟩; have HD2 := Aside0.mk (below_step HD.out hd); clear hd))
  go_ret
  exact ⟨rfl, HD2.out⟩
end
end Go.Proofs.Ytenbcpjlbfojlaa.DA
