/- What is laid over bytes: the document's, by hand. -/
import Derived.Test.YtenbcpjlbfojlaaDA
namespace Go.Proofs.Ytenbcpjlbfojlaa.DA
open Go.RowKit Go.Proofs.YtenbcpjlbfojlaaW.PrintWords Go.Proofs.YtenbcpjlbfojlaaW.PrintLast Go.Proofs.YtenbcpjlbfojlaaW.PrintMore Go.Proofs.Ytenbcpjlbfojlaa.PD
set_option linter.unusedVariables false
set_option linter.unusedSimpArgs false
theorem w64 (n : Int) (h0 : -9223372036854775808 ≤ n) (h1 : n ≤ 9223372036854775807) : IntKind.i64.wrap n = n := (i64_w n).trans (by unfold wrap64; omega)
set_option maxHeartbeats 4000000 in
theorem laid_calls (A0 : Option Addr) (c0 : Nat) (l0 : List Int) (p : Nat) (A2 : Option Addr) (c2 : Nat) (l2 : List Int) (w : World)
    (hr0 : Kd.C kb w A0 l0.length l0) (hc0 : l0.length ≤ c0) (hr2 : Kd.C kb w A2 l2.length l2) (hp : p + l2.length ≤ l0.length) (hl : l0.length ≤ 1000000000) :
    Calls Try.prog 43 #[.slice A0 l0.length c0, .int .i64 (p : Int), .slice A2 l2.length c2] w fun e w' => ∃ v, e = .returned v ∧ Kd.R kb 5 w' w.heap.size (fun _ => True) v (splice l0 p l2) ∧ Below w.heap.size w w' := by
  obtain ⟨i0, hi0, _, hsz0, _⟩ := info_parts info5
  obtain ⟨n0, hn0⟩ : ∃ n0, n0 = l0.length := ⟨_, rfl⟩
  obtain ⟨n2, hn2⟩ : ∃ n2, n2 = l2.length := ⟨_, rfl⟩
  have h1 := Kd.C_take (m := p) hr0 (by omega)
  rw [show (l0.take p).length = p by rw [List.length_take]; omega] at h1
  have h3 := Kd.C_drop (m := p + n2) hr0 (by omega) hc0
  rw [show (l0.drop (p + n2)).length = n0 - (p + n2) by rw [List.length_drop, hn0]] at h3
  have hcut1 := cut_to (P := Try.prog) 35 5 .i64 Try.underlying35 hi0 A0 l0.length c0 (p : Int) (by omega) (by omega) hc0
  have hcut2 := cut_from (P := Try.prog) 35 5 .i64 Try.underlying35 hi0 1 hsz0 A0 l0.length c0 ((p : Int) + (n2 : Int)) (by omega) (by omega)
  rw [show ((p : Int) + (n2 : Int)).toNat = p + n2 by omega] at hcut2
  simp only [Int.toNat_natCast] at hcut1
  have h3' : Kd.C kb w (if c0 = p + n2 then A0 else A0.map (·.add ((p + n2) * 1))) (n0 - (p + n2)) (l0.drop (p + n2)) := h3
  clear h3
  generalize (if c0 = p + n2 then A0 else A0.map (·.add ((p + n2) * 1))) = A3 at h3' hcut2
  have hw : IntKind.i64.wrap ((p : Int) + (n2 : Int)) = (p : Int) + (n2 : Int) := w64 _ (by omega) (by omega)
  rw [← hn0] at hcut1 hcut2 ⊢
  rw [← hn2] at hr2 hp ⊢
  have HC1 := Aside0.mk h1
  have HC2 := Aside0.mk hr2
  have HC3 := Aside0.mk h3'
  have HL := Aside0.mk (And.intro hn0 hn2)
  clear hi0 hsz0 h1 h3' hr0 hr2
  rw [← hn0] at hp hc0 hl
  clear hn0 hn2
  go_enter Try.func43, Try.ntmps43
  go_wp2
  refine start_ (n := 14) (S := fun w' => True) (ds := []) #[false, false, false, false, false, false, false, false, false, false, false, false, false, false] (by kernel_rfl) rfl rfl trivial (fun hHeld => ?_)
  have HDr := Aside0.mk (below_drew1 (Below.refl w.heap.size w))
  have H1 := Aside0.mk (Kd.C_drew HC1.out)
  have H2 := Aside0.mk (Kd.C_drew HC2.out)
  have H3 := Aside0.mk (Kd.C_drew HC3.out)
  clear HC1 HC2 HC3
  have HSz := Aside0.mk (show w.drew.heap.size = w.heap.size from rfl)
  generalize w.drew = wD at HDr H1 H2 H3 HSz ⊢
  refine pure_ (i := 0) (N := some 7) (v := ?_) (a' := ?_) #[true, false, false, false, false, false, false, false, false, false, false, false, false, false] rfl rfl (by kernel_rfl) (fun _ _ _ h => h) (Or.inl ⟨by rfl, ?_⟩) ?_ ?_
  rotate_left
  · intro w'
    go_simp
    with_reducible rfl
  rotate_left
  · simp only [Act.put, List.setIfInBounds_toArray, List.set_cons_zero, List.set_cons_succ, i64_w, i32_w]
    rfl
  refine pure_ (i := 1) (N := some 8) (v := ?_) (a' := ?_) #[true, true, false, false, false, false, false, false, false, false, false, false, false, false] rfl rfl (by kernel_rfl) (fun _ _ _ h => h) (Or.inl ⟨by rfl, ?_⟩) ?_ ?_
  rotate_left
  · intro w'
    go_simp
    with_reducible rfl
  rotate_left
  · simp only [Act.put, List.setIfInBounds_toArray, List.set_cons_zero, List.set_cons_succ, i64_w, i32_w]
    rfl
  refine pure_ (i := 2) (N := some 9) (v := ?_) (a' := ?_) #[true, true, true, false, false, false, false, false, false, false, false, false, false, false] rfl rfl (by kernel_rfl) (fun _ _ _ h => h) (Or.inl ⟨by rfl, ?_⟩) ?_ ?_
  rotate_left
  · intro w'
    go_simp
    with_reducible rfl
  rotate_left
  · simp only [Act.put, List.setIfInBounds_toArray, List.set_cons_zero, List.set_cons_succ, i64_w, i32_w]
    rfl
  refine pure_ (i := 4) (N := some 11) (v := ?_) (a' := ?_) #[true, true, true, false, true, false, false, false, false, false, false, false, false, false] rfl rfl (by kernel_rfl) (fun _ _ _ h => h) (Or.inl ⟨by rfl, ?_⟩) ?_ ?_
  rotate_left
  · intro w'
    go_simp
    with_reducible rfl
  rotate_left
  · simp only [Act.put, List.setIfInBounds_toArray, List.set_cons_zero, List.set_cons_succ, i64_w, i32_w]
    rfl
  refine pure_ (i := 6) (N := some 13) (v := ?_) (a' := ?_) #[true, true, true, false, true, false, true, false, false, false, false, false, false, false] rfl rfl (by kernel_rfl) (fun _ _ _ h => h) (Or.inl ⟨by rfl, ?_⟩) ?_ ?_
  rotate_left
  · intro w'
    go_simp
    with_reducible rfl
  rotate_left
  · simp only [Act.put, List.setIfInBounds_toArray, List.set_cons_zero, List.set_cons_succ, i64_w, i32_w]
    rfl
  refine pure_ (i := 7) (N := some 14) (v := ?_) (a' := ?_) #[true, true, true, false, true, false, true, true, false, false, false, false, false, false] rfl rfl (by kernel_rfl) (fun _ _ _ h => h) (Or.inl ⟨by rfl, ?_⟩) ?_ ?_
  rotate_left
  · intro w'
    go_simp
    with_reducible rfl
  rotate_left
  · simp only [Act.put, List.setIfInBounds_toArray, List.set_cons_zero, List.set_cons_succ, i64_w, i32_w]
    rfl
  refine pure_ (i := 8) (N := some 15) (v := ?_) (a' := ?_) #[true, true, true, false, true, false, true, true, true, false, false, false, false, false] rfl rfl (by kernel_rfl) (fun _ _ _ h => h) (Or.inl ⟨by rfl, ?_⟩) ?_ ?_
  rotate_left
  · intro w'
    go_simp
    with_reducible rfl
  rotate_left
  · simp only [Act.put, List.setIfInBounds_toArray, List.set_cons_zero, List.set_cons_succ, i64_w, i32_w]
    rfl
  refine pure_ (i := 9) (N := some 16) (v := ?_) (a' := ?_) #[true, true, true, false, true, false, true, true, true, true, false, false, false, false] rfl rfl (by kernel_rfl) (fun _ _ _ h => h) (Or.inl ⟨by rfl, ?_⟩) ?_ ?_
  rotate_left
  · intro w'
    go_simp
    with_reducible rfl
  rotate_left
  · simp only [Act.put, List.setIfInBounds_toArray, List.set_cons_zero, List.set_cons_succ, i64_w, i32_w]
    rfl
  refine pure_ (i := 10) (N := some 17) (v := ?_) (a' := ?_) #[true, true, true, false, true, false, true, true, true, true, true, false, false, false] rfl rfl (by kernel_rfl) (fun _ _ _ h => h) (Or.inl ⟨by rfl, ?_⟩) ?_ ?_
  rotate_left
  · intro w'
    go_simp
    with_reducible rfl
  rotate_left
  · simp only [Act.put, List.setIfInBounds_toArray, List.set_cons_zero, List.set_cons_succ, i64_w, i32_w]
    rfl
  refine pure_ (i := 11) (N := some 18) (v := ?_) (a' := ?_) #[true, true, true, false, true, false, true, true, true, true, true, true, false, false] rfl rfl (by kernel_rfl) (fun _ _ _ h => h) (Or.inl ⟨by rfl, ?_⟩) ?_ ?_
  rotate_left
  · intro w'
    go_simp
    with_reducible rfl
  rotate_left
  · simp only [Act.put, List.setIfInBounds_toArray, List.set_cons_zero, List.set_cons_succ, i64_w, i32_w]
    rfl
  refine one_ (i := 3) (N := some 10) #[true, true, true, true, true, false, true, true, true, true, true, true, false, false] rfl rfl (by kernel_rfl) (by decide) (fun K hK => ?_)
  refine Kd.R_append_rows_step kb (w0 := wD) wD.heap.size (by rfl) (.const (.slice none 0 0)) (.tmp 9) 35 5 (.int .u8 0) 1 rfl Try.underlying35 info5 rfl (by decide) (by decide) (.slice none 0 0) [] (l0.take p) A0 p c0 (fun _ => True) (fun _ => False) rfl rfl (Kd.R_nil _ _ _ _ _) H1.out (fun x cs hx => hx) (fun _ h => h.elim) (fun _ _ => trivial) (Below.refl _ _) (Nat.le_refl _) (by simp only [List.length_nil]; omega) ?_
  intro v3 w3 ho3 hb3 hg3 hat3
  have HO3 := Aside0.mk ho3
  have HB3 := Aside0.mk hb3
  clear ho3 hb3 hg3 hat3
  refine hK.out _ _ trivial (fun hHeld => ?_)
  clear hK K
  refine norm_ (a' := ?_) ?_ ?_
  rotate_left
  · show Act.put _ (some 10) _ = _
    simp only [Act.put, List.setIfInBounds_toArray, List.set_cons_zero, List.set_cons_succ, i64_w, i32_w]
    rfl
  refine one_ (i := 5) (N := some 12) #[true, true, true, true, true, true, true, true, true, true, true, true, false, false] rfl rfl (by kernel_rfl) (by decide) (fun K hK => ?_)
  refine Kd.R_append_rows_step kb (w0 := wD) wD.heap.size (by rfl) (.tmp 10) (.tmp 11) 35 5 (.int .u8 0) 1 rfl Try.underlying35 info5 rfl (by decide) (by decide) v3 _ l2 A2 n2 c2 (fun _ => True) (fun _ => False) rfl rfl HO3.out (Kd.C_below H2.out HB3.out) (fun x cs hx => hx) (fun _ h => h.elim) (fun _ _ => trivial) HB3.out HB3.out.size (by simp only [List.length_append, List.length_nil, List.length_take]; omega) ?_
  intro v5 w5 ho5 hb5 hg5 hat5
  have HO5 := Aside0.mk ho5
  have HB5 := Aside0.mk hb5
  clear ho5 hb5 hg5 hat5
  refine hK.out _ _ trivial (fun hHeld => ?_)
  clear hK K
  refine norm_ (a' := ?_) ?_ ?_
  rotate_left
  · show Act.put _ (some 12) _ = _
    simp only [Act.put, List.setIfInBounds_toArray, List.set_cons_zero, List.set_cons_succ, i64_w, i32_w]
    rfl
  refine one_ (i := 12) (N := some 19) #[true, true, true, true, true, true, true, true, true, true, true, true, true, false] rfl rfl (by kernel_rfl) (by decide) (fun K hK => ?_)
  refine Kd.R_append_rows_step kb (w0 := wD) wD.heap.size (by rfl) (.tmp 12) (.tmp 18) 35 5 (.int .u8 0) 1 rfl Try.underlying35 info5 rfl (by decide) (by decide) v5 _ (l0.drop (p + n2)) A3 (n0 - (p + n2)) (c0 - (p + n2)) (fun _ => True) (fun _ => False) rfl rfl HO5.out (Kd.C_below H3.out HB5.out) (fun x cs hx => hx) (fun _ h => h.elim) (fun _ _ => trivial) HB5.out HB5.out.size (by simp only [List.length_append, List.length_nil, List.length_take]; have := HL.out; omega) ?_
  intro v12 w12 ho12 hb12 hg12 hat12
  have HO12 := Aside0.mk ho12
  have HB12 := Aside0.mk hb12
  clear ho12 hb12 hg12 hat12
  refine hK.out _ _ trivial (fun hHeld => ?_)
  clear hK K
  refine norm_ (a' := ?_) ?_ ?_
  rotate_left
  · show Act.put _ (some 19) _ = _
    simp only [Act.put, List.setIfInBounds_toArray, List.set_cons_zero, List.set_cons_succ, i64_w, i32_w]
    rfl
  refine pure_ (i := 13) (N := some 6) (v := ?_) (a' := ?_) #[true, true, true, true, true, true, true, true, true, true, true, true, true, true] rfl rfl (by kernel_rfl) (fun _ _ _ h => h) (Or.inl ⟨by rfl, ?_⟩) ?_ ?_
  rotate_left
  · intro w'
    go_simp
    with_reducible rfl
  rotate_left
  · simp only [Act.put, List.setIfInBounds_toArray, List.set_cons_zero, List.set_cons_succ, i64_w, i32_w]
    rfl
  refine done_ (by kernel_rfl) ?_
  go_wp2
  go_ret
  refine ⟨_, rfl, ?_, below_then HDr.out (by have := HSz.out; omega) HB12.out⟩
  have h9 := Kd.R_lower HO12.out (show w.heap.size ≤ wD.heap.size by have := HSz.out; omega)
  unfold splice
  rw [← HL.out.2]
  simpa [List.append_assoc] using h9
end Go.Proofs.Ytenbcpjlbfojlaa.DA
