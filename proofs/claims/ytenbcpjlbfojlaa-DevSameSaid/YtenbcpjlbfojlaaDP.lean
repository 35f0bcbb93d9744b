/- alive. -/
import Derived.Test.YtenbcpjlbfojlaaDO
namespace Go.Proofs.Ytenbcpjlbfojlaa.DA
open Go.RowKit Go.Proofs.YtenbcpjlbfojlaaW.PrintWords Go.Proofs.YtenbcpjlbfojlaaW.PrintLast Go.Proofs.YtenbcpjlbfojlaaW.PrintMore Go.Proofs.Ytenbcpjlbfojlaa.PD
set_option linter.unusedVariables false
set_option linter.unusedSimpArgs false
def aD0 : Dv := Dv.new 2
def aD1 : Dv := (aD0.write 2 0 (like 5)).1
def aD2 : Dv := aD1.crash 0 0 4
def aD3 : Dv := (aD2.write 2 0 (like 6)).1
def aD4 : Dv := aD3.flush
theorem a1 : (aD0.write 2 0 (like 5)).2 = 0 := by decide +kernel
theorem a2 : (aD2.read 2 0).1 = like 0 := by decide +kernel
theorem a3 : (aD2.read 2 0).2 = 0 := by decide +kernel
theorem a4 : (aD2.write 2 0 (like 6)).2 = 0 := by decide +kernel
theorem a5 : aD3.waits.length = 1 := by decide +kernel
theorem a6 : (aD4.read 2 0).1 = like 6 := by decide +kernel
theorem a7 : (aD4.read 2 0).2 = 0 := by decide +kernel
theorem a8 : aD4.trace.length = 3 := by decide +kernel
theorem a9 : aD0.waits.length = 0 ∧ aD0.trace.length = 0 ∧ aD1.waits.length = 1 ∧ aD1.trace.length = 1 ∧ aD2.waits.length = 0 ∧ aD2.trace.length = 1 ∧ aD3.trace.length = 2 ∧ aD4.waits.length = 0 := by decide +kernel
theorem like_rd (x : Int) (i : Nat) (h : i < 256) : rd (like x) (i : Int) = x := by
  unfold rd
  rw [Int.toNat_natCast, List.getD_eq_getElem?_getD, List.getElem?_eq_getElem (by rw [like_len]; exact h)]
  simp [like]
theorem like_at {w : World} {A : Option Addr} {x : Int} (h : Kd.C kb w A 256 (like x)) (i : Nat) (hi : i < 256) : ∃ ad, A = some ad ∧ w.cell? (ad.add i) = some (.int .u8 x) := by
  obtain ⟨ad, e, hc⟩ := Kd.at_int h (i : Int) (by omega) (by omega)
  rw [like_rd x i hi, Int.toNat_natCast] at hc
  exact ⟨ad, e, hc⟩
theorem cell_add0 {w : World} {a : Addr} {v : Value} (h : w.cell? (a.add 0) = some v) : w.cell? a = some v := by simpa [Addr.add] using h
theorem cell_add1 {w : World} {a : Addr} {v : Value} (h : w.cell? (a.add 255) = some v) : w.cell? ⟨a.block, a.off + 255, none⟩ = some v := by simpa [Addr.add] using h
/-- Bytes of a block that were told. -/
def ToldLike (x er : Int) (w : World) (e : Ending) (w' : World) : Prop := ∃ ad c, e = .returned (.tuple #[.slice (some ad) 256 c, .int .i64 er]) ∧ 256 ≤ c ∧ Kd.C kb w' (some ad) 256 (like x) ∧ Below w.heap.size w w' ∧ w.heap.size ≤ ad.block ∧ ad.block < w'.heap.size
theorem Told.like {x er : Int} {l : List Int} {w w' : World} {e : Ending} (h : Told l er w e w') (hl : l = like x) : ToldLike x er w e w' := by
  subst hl
  obtain ⟨A, c, h1, h2, h3, h4, h5⟩ := h
  rw [like_len] at h1 h2 h3
  obtain ⟨ad, rfl, _⟩ := like_at h3 0 (by decide)
  exact ⟨ad, c, h1, h2, h3, h4, h5 ad rfl, C_lt h3 (by decide) ad rfl⟩
theorem block_c (x : Int) (w : World) : Calls Try.prog 12 #[.int .u8 x] w fun e w' => ∃ A c, e = .returned (.slice A 256 c) ∧ 256 ≤ c ∧ Kd.C kb w' A 256 (like x) ∧ Below w.heap.size w w' := by
  refine (block_calls x w).mono ?_
  rintro e w' ⟨v, he, hr, hb⟩
  obtain ⟨A, c, rfl⟩ := Kd.R_slice hr
  have h9 := Kd.R_reads' hr
  rw [like_len] at he h9
  exact ⟨A, c, he, h9.2.1, h9.2.2, hb⟩
section
variable {w0 w w' : World} {B N : Nat} {d d' : Dv} {KS : List Nat}
theorem write_like (h : Dj w0 B N d KS w) (n x : Int) {Ab : Option Addr} {cb : Nat} (hb : Kd.C kb w Ab 256 (like x)) (hcb : 256 ≤ cb) (hwl : d.waits.length ≤ 100000) (htl : d.trace.length < 100000) :
    Calls Try.prog 11 #[.pointer (some ⟨B, 0, none⟩), .int .i64 n, .slice Ab 256 cb] w fun e w' => e = .returned (.int .i64 (d.write N n (like x)).2) ∧ Dj w0 B N (d.write N n (like x)).1 KS w' ∧ Stay KS w w' := by
  have hl := like_len x
  have h9 := write_dj (Ab := Ab) (cb := cb) (b := like x) h n (by rw [hl]; exact hb) (by rw [hl]; exact hcb) hwl htl (by rw [hl]; decide)
  rw [hl] at h9
  exact h9
end
section
variable {w W : World} {B : Nat} {KS : List Nat}
theorem av1 (h : Dj w B 2 aD0 KS W) {Ab : Option Addr} {cb : Nat} (hb : Kd.C kb W Ab 256 (like 5)) (hc : 256 ≤ cb) : Calls Try.prog 11 #[.pointer (some ⟨B, 0, none⟩), .int .i64 0, .slice Ab 256 cb] W fun e w' => e = .returned (.int .i64 0) ∧ Dj w B 2 aD1 KS w' ∧ Stay KS W w' := by
  have h9 := write_like h 0 5 hb hc (by have := a9; omega) (by have := a9; omega)
  rw [a1] at h9
  exact h9
theorem av2 (h : Dj w B 2 aD1 KS W) : Calls Try.prog 10 #[.pointer (some ⟨B, 0, none⟩), .int .u64 0, .int .i64 0, .int .i64 4] W fun e w' => e = .returned (.tuple #[]) ∧ Dj w B 2 aD2 KS w' ∧ Stay KS W w' :=
  crash_dj h 0 0 4 (by omega) (by have := a9; omega)
theorem av3 (h : Dj w B 2 aD2 KS W) : Calls Try.prog 13 #[.pointer (some ⟨B, 0, none⟩), .int .i64 0] W (ToldLike 0 0 W) := by
  have h9 := read_dj h 0 (by have := a9; omega)
  rw [a3] at h9
  exact h9.mono fun e w' ht => ht.like a2
theorem av4 (h : Dj w B 2 aD2 KS W) {Ab : Option Addr} {cb : Nat} (hb : Kd.C kb W Ab 256 (like 6)) (hc : 256 ≤ cb) : Calls Try.prog 11 #[.pointer (some ⟨B, 0, none⟩), .int .i64 0, .slice Ab 256 cb] W fun e w' => e = .returned (.int .i64 0) ∧ Dj w B 2 aD3 KS w' ∧ Stay KS W w' := by
  have h9 := write_like h 0 6 hb hc (by have := a9; omega) (by have := a9; omega)
  rw [a4] at h9
  exact h9
theorem av5 (h : Dj w B 2 aD3 KS W) : Calls Try.prog 9 #[.pointer (some ⟨B, 0, none⟩)] W fun e w' => e = .returned (.int .i64 1) ∧ Dj w B 2 aD4 KS w' ∧ Stay KS W w' := by
  have h9 := flush_dj h (by rw [a5]; decide) (by have := a9; omega)
  rw [a5] at h9
  exact h9
theorem av6 (h : Dj w B 2 aD4 KS W) : Calls Try.prog 13 #[.pointer (some ⟨B, 0, none⟩), .int .i64 0] W (ToldLike 6 0 W) := by
  have h9 := read_dj h 0 (by have := a9; omega)
  rw [a7] at h9
  exact h9.mono fun e w' ht => ht.like a6
theorem av7 (h : Dj w B 2 aD4 KS W) : Calls Try.prog 22 #[.pointer (some ⟨B, 0, none⟩)] W fun e w' => ∃ A c, e = .returned (.slice A 3 c) ∧ Below W.heap.size W w' := by
  refine (trace_dj h (by rw [a8]; decide)).mono ?_
  rintro e w' ⟨v, he, hr, hb⟩
  obtain ⟨A, c, rfl⟩ := Kd.R_slice hr
  rw [a8] at he
  exact ⟨A, c, he, hb⟩
end
set_option maxHeartbeats 8000000 in
theorem alive_calls (w : World) : Calls Try.prog 15 #[] w fun e w' => e = .returned (.bool true) ∧ Below w.heap.size w w' := by
  have R7 := Aside0.mk (show Calls Try.prog 7 #[.int .i64 2] w fun e w' => ∃ B, e = .returned (.tuple #[.pointer (some ⟨B, 0, none⟩), .int .i64 0]) ∧ Dj w B 2 aD0 [] w' from (new_dj (w0 := w) (w := w) 2 (by decide) (by decide) (Below.refl _ _)).mono fun e w' ⟨B, h1, h2, _⟩ => ⟨B, h1, h2⟩)
  go_enter Try.func15, Try.ntmps15
  go_wp2_with (first
    | (go_at_call 7; refine R7.out.mono ?_; rintro e w1 ⟨B, rfl, h⟩; have H1 := Aside0.mk h; clear h)
    | (go_at_call 12; (with_reducible refine Calls.mono (block_c 5 _) ?_); rintro e w2 ⟨A2, c2, rfl, hc2, hC2, hb2⟩; have H2 := Aside0.mk (H1.out.below hb2); have HC2 := Aside0.mk (And.intro hC2 hc2); clear hC2 hc2 hb2 H1)
    | (go_at_call 11; (with_reducible refine Calls.mono (av1 H2.out HC2.out.1 HC2.out.2) ?_); rintro e w3 ⟨rfl, h, _⟩; have H3 := Aside0.mk h; clear h H2 HC2)
    | (go_at_call 10; (with_reducible refine Calls.mono (av2 H3.out) ?_); rintro e w4 ⟨rfl, h, _⟩; have H4 := Aside0.mk h; clear h H3)
    | (go_at_call 13; (with_reducible refine Calls.mono (av3 H4.out) ?_); rintro e w5 ⟨a5, c5, rfl, hc5, hC5, hb5, hf5, hl5⟩; have H5 := Aside0.mk (H4.out.told hb5 hf5 hl5); have HC5 := Aside0.mk hC5; clear hC5 hc5 hb5 hf5 hl5 H4)
    | (go_at_call 12; (with_reducible refine Calls.mono (block_c 6 _) ?_); rintro e w6 ⟨A6, c6, rfl, hc6, hC6, hb6⟩; have H6 := Aside0.mk (H5.out.below hb6); have HC6 := Aside0.mk (And.intro hC6 hc6); have HD5 := Aside0.mk (Kd.C_below HC5.out hb6); clear hC6 hc6 hb6 H5 HC5)
    | (go_at_call 11; (with_reducible refine Calls.mono (av4 H6.out HC6.out.1 HC6.out.2) ?_); rintro e w7 ⟨rfl, h, hs⟩; have H7 := Aside0.mk h; have HD7 := Aside0.mk (C_stay HD5.out hs (fun ad he => by injection he with he; subst he; exact List.mem_singleton.2 rfl)); clear h hs H6 HC6 HD5)
    | (go_at_call 9; (with_reducible refine Calls.mono (av5 H7.out) ?_); rintro e w8 ⟨rfl, h, hs⟩; have H8 := Aside0.mk h; have HD8 := Aside0.mk (C_stay HD7.out hs (fun ad he => by injection he with he; subst he; exact List.mem_singleton.2 rfl)); clear h hs H7 HD7)
    | (go_at_call 13; (with_reducible refine Calls.mono (av6 H8.out) ?_); rintro e w9 ⟨a9, c9, rfl, hc9, hC9, hb9, hf9, hl9⟩; have H9 := Aside0.mk (H8.out.below hb9); obtain ⟨_, e1, hz9⟩ := like_at hC9 255 (by decide); cases e1; replace hz9 := cell_add1 hz9; obtain ⟨_, e2, hz5⟩ := like_at (Kd.C_below HD8.out hb9) 0 (by decide); cases e2; replace hz5 := cell_add0 hz5; clear hC9 hc9 hb9 hf9 hl9 H8 HD8)
    | (go_at_call 22; (with_reducible refine Calls.mono (av7 H9.out) ?_); rintro e w10 ⟨A10, c10, rfl, hb10⟩; have HBX := Aside0.mk (below_step H9.out.bel hb10); clear hb10))
  go_ret
  exact ⟨rfl, HBX.out⟩
end Go.Proofs.Ytenbcpjlbfojlaa.DA
