/- Clones, a block of like bytes, and what is laid over bytes: by hand. -/
import Derived.Test.YtenbcpjlbfojlaaPDx0
import Derived.StillTailTactics
import Derived.Lib.SliceRun
import Derived.Laws.CopyOwn
namespace Go.Proofs.Ytenbcpjlbfojlaa.DA
open Go.RowKit Go.Proofs.YtenbcpjlbfojlaaW.PrintWords Go.Proofs.YtenbcpjlbfojlaaW.PrintLast Go.Proofs.YtenbcpjlbfojlaaW.PrintMore Go.Proofs.Ytenbcpjlbfojlaa.PD
set_option linter.unusedVariables false
set_option linter.unusedSimpArgs false
abbrev kb : Kd Int := Kd.int .u8
abbrev ki : Kd Int := Kd.int .i64
theorem info3 : (Try.prog.info? 3).map (fun i => (i.zero, i.size, i.bytes)) = some (some (.int .i64 0), 1, 8) := by kernel_rfl
set_option maxHeartbeats 2000000 in
theorem clone_calls (A : Option Addr) (c : Nat) (l : List Int) (w : World) (hr : Kd.C kb w A l.length l) (hl : l.length ≤ 1000000000) :
    Calls Try.prog 30 #[.slice A l.length c] w fun e w' => ∃ v, e = .returned v ∧ Kd.R kb 5 w' w.heap.size (fun _ => True) v l ∧ Below w.heap.size w w' := by
  have heq := fun (W : World) => Lib.run_eql_slice_nil (P := Try.prog) W 35 5 A l.length c 0 0 Try.underlying35
  cases A with
  | none =>
    have h0 : l = [] := by
      rcases Nat.eq_zero_or_pos l.length with h0 | h0
      · exact List.eq_nil_of_length_eq_zero h0
      · obtain ⟨ad, _, e, _⟩ := Kd.C_get hr 0 0 (by omega) (by omega)
        cases e
    subst h0
    simp only [Option.isNone_none, List.length_nil] at heq
    go_enter Try.func30, Try.ntmps30
    go_wp2
    go_ret
    exact ⟨_, rfl, Kd.R_nil _ _ _ _ _, Below.refl _ _⟩
  | some ad =>
    simp only [Option.isNone_some] at heq
    go_enter Try.func30, Try.ntmps30
    have HR : Kd.R kb 5 (w.alloc (.cells #[] 5)) w.heap.size (fun _ => True) (.slice (some ⟨w.heap.size, 0, none⟩) 0 0) [] :=
      ⟨fun _ _ => trivial, OwnRow.lit w w.heap.size (Reps.none _ _) (Nat.le_refl _) (by simp)⟩
    have HCC : Kd.C kb (w.alloc (.cells #[] 5)) (some ad) l.length l := Kd.C_below hr ((Below.refl _ _).alloc (Nat.le_refl _) _)
    have HL : l.length * 1 ≤ 140737488355328 := by omega
    go_wp2_with (at_builtin; refine Kd.R_append_row (Value.int .u8) 0 (w0 := w) w.heap.size rfl (.tmp 5) (.tmp 6) 35 5 (.int .u8 0) 1 rfl Try.underlying35 info5 rfl (by omega) _ [] l _ _ _ (fun _ => True) rfl rfl (fun _ _ => trivial) HR HCC ((Below.refl _ _).alloc (Nat.le_refl _) _) (by simp) (by simpa using HL) ?_; intro v1 w1 ho hb hg hat)
    go_ret
    exact ⟨_, rfl, by have h2 := ho; rw [List.nil_append] at h2; exact h2, hb⟩
set_option maxHeartbeats 2000000 in
theorem iclone_calls (A : Option Addr) (c : Nat) (l : List Int) (w : World) (hr : Kd.C ki w A l.length l) (hl : l.length ≤ 1000000000) :
    Calls Try.prog 39 #[.slice A l.length c] w fun e w' => ∃ v, e = .returned v ∧ Kd.R ki 3 w' w.heap.size (fun _ => True) v l ∧ Below w.heap.size w w' := by
  have heq := fun (W : World) => Lib.run_eql_slice_nil (P := Try.prog) W 44 3 A l.length c 0 0 Try.underlying44
  cases A with
  | none =>
    have h0 : l = [] := by
      rcases Nat.eq_zero_or_pos l.length with h0 | h0
      · exact List.eq_nil_of_length_eq_zero h0
      · obtain ⟨ad, _, e, _⟩ := Kd.C_get hr 0 0 (by omega) (by omega)
        cases e
    subst h0
    simp only [Option.isNone_none, List.length_nil] at heq
    go_enter Try.func39, Try.ntmps39
    go_wp2
    go_ret
    exact ⟨_, rfl, Kd.R_nil _ _ _ _ _, Below.refl _ _⟩
  | some ad =>
    simp only [Option.isNone_some] at heq
    go_enter Try.func39, Try.ntmps39
    have HR : Kd.R ki 3 (w.alloc (.cells #[] 3)) w.heap.size (fun _ => True) (.slice (some ⟨w.heap.size, 0, none⟩) 0 0) [] :=
      ⟨fun _ _ => trivial, OwnRow.lit w w.heap.size (Reps.none _ _) (Nat.le_refl _) (by simp)⟩
    have HCC : Kd.C ki (w.alloc (.cells #[] 3)) (some ad) l.length l := Kd.C_below hr ((Below.refl _ _).alloc (Nat.le_refl _) _)
    have HL : l.length * 8 ≤ 140737488355328 := by omega
    go_wp2_with (at_builtin; refine Kd.R_append_row (Value.int .i64) 0 (w0 := w) w.heap.size rfl (.tmp 5) (.tmp 6) 44 3 (.int .i64 0) 8 rfl Try.underlying44 info3 rfl (by omega) _ [] l _ _ _ (fun _ => True) rfl rfl (fun _ _ => trivial) HR HCC ((Below.refl _ _).alloc (Nat.le_refl _) _) (by simp) (by simpa using HL) ?_; intro v1 w1 ho hb hg hat)
    go_ret
    exact ⟨_, rfl, by have h2 := ho; rw [List.nil_append] at h2; exact h2, hb⟩
/-- A block's size. -/
def B256 : Nat := 256
theorem B256_eq : B256 = 256 := rfl
/-- A block of like bytes. -/
def like (x : Int) : List Int := List.replicate B256 x
theorem like_len (x : Int) : (like x).length = 256 := List.length_replicate
def part (x : Int) (i : Nat) : List Int := List.replicate i x ++ List.replicate (B256 - i) 0
theorem part_len (x : Int) (i : Nat) (h : i ≤ 256) : (part x i).length = 256 := by
  have := B256_eq
  unfold part
  rw [List.length_append, List.length_replicate, List.length_replicate]
  omega
theorem part_set (x : Int) (i : Nat) (h : i < 256) : (part x i).set i x = part x (i + 1) := by
  have := B256_eq
  unfold part
  rw [List.set_append_right _ _ (by rw [List.length_replicate]; exact Nat.le_refl _), List.length_replicate, Nat.sub_self, show B256 - i = (B256 - (i + 1)) + 1 from by omega, List.replicate_succ, List.set_cons_zero, List.replicate_succ', List.append_assoc]
  rfl
theorem part_zero (x : Int) : List.replicate (256 : Int).toNat 0 = part x 0 := rfl
theorem part_all (x : Int) : part x 256 = like x := by
  unfold part like
  rw [show B256 - 256 = 0 from rfl, List.replicate_zero, List.append_nil]
  rfl
set_option maxHeartbeats 4000000 in
theorem block_calls (x : Int) (w : World) :
    Calls Try.prog 12 #[.int .u8 x] w fun e w' => ∃ v, e = .returned v ∧ Kd.R kb 5 w' w.heap.size (fun _ => True) v (like x) ∧ Below w.heap.size w w' := by
  go_enter Try.func12, Try.ntmps12
  go_wp2_with ((with_reducible refine gate_dst (N := 5) rfl ?_); refine Kd.R_make (Kd.int .u8) _ 5 rfl (N := 5) rfl 35 _ _ rfl 256 rfl rfl Try.underlying35 (.int .u8 0) 1 info5 rfl (by decide) (by omega) 0 (ok := fun _ => True) (okp := fun _ => True) rfl (fun _ hk => hk) trivial (by omega) (by omega) (Below.refl _ _) (Nat.le_refl _) ?_; intro v106 w3 ho4 hb hg_ hnew_; clear hg_ hnew_; rw [part_zero x] at ho4; obtain ⟨g, c, rfl, _⟩ := Kd.R_form ho4 (by rw [part_len x 0 (by omega)]; decide); rw [part_len x 0 (by omega)] at ho4 ⊢; have HO := Aside0.mk ho4; have HB := Aside0.mk hb; clear ho4 hb)
  go_loopg [8] 256 (fun gk v8 w' => ∃ i : Nat, v8 = .int .i64 (i : Int) ∧ i + gk = 256 ∧ Aside0 (Kd.R kb 5 w' w.heap.size (fun _ => True) (.slice (some ⟨g, 0, none⟩) 256 c) (part x i) ∧ Below w.heap.size w w'))
  case atStart => exact ⟨0, rfl, by omega, ⟨HO.out, HB.out⟩⟩
  case round =>
    clear HO HB
    obtain ⟨i, rfl, hig, HR⟩ := hrel
    by_cases hlt : i < 256
    · have h0 : (0 : Int) ≤ (i : Int) := by omega
      have h1 : (i : Int) < 256 := by omega
      have h2 : decide ((i : Int) < 256) = true := decide_eq_true h1
      obtain ⟨hx0, hf0⟩ := Kd.R_celln 0 HR.out.1 (i : Int) h0 h1
      simp only [Int.toNat_natCast] at hx0 hf0
      have HP := Aside0.mk (Kd.R_putg HR.out.1 (i : Int) x)
      have hgb := Aside0.mk (((Kd.R_bound HR.out.1).1 g rfl).2.1)
      go_wp2
      go_roundg (gk - 1)
      case measure => omega
      case rel =>
        refine ⟨i + 1, by go_num, by omega, ⟨?_, HR.out.2.setCell (p := ⟨g, i, none⟩) hgb.out _⟩⟩
        rw [← part_set x i hlt]
        have h9 := HP.out.1
        simp only [Int.toNat_natCast] at h9
        exact h9
    · obtain rfl : i = 256 := by omega
      go_wp2
      go_ret
      exact ⟨_, rfl, by rw [← part_all]; exact HR.out.1, HR.out.2⟩
end Go.Proofs.Ytenbcpjlbfojlaa.DA
