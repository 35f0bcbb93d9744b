/- What both tell; both made. -/
import Derived.Test.YtenbcpjlbfojlaaEF
namespace Go.Proofs.Ytenbcpjlbfojlaa.DA
open Go.RowKit Go.Proofs.YtenbcpjlbfojlaaW.PrintWords Go.Proofs.YtenbcpjlbfojlaaW.PrintLast Go.Proofs.YtenbcpjlbfojlaaW.PrintMore Go.Proofs.Ytenbcpjlbfojlaa.PD
set_option linter.unusedVariables false
set_option linter.unusedSimpArgs false
section
variable {w0 w w' w1 : World} {B RB N : Nat} {d r : Dv} {OS : Nat → Prop}
theorem two_len (h : Two w0 B RB N d r OS w) : Calls Try.prog 19 #[.pointer (some ⟨B, 0, none⟩)] w fun e w' => e = .returned (.int .i64 (N : Int)) ∧ w = w' :=
  h.dev_told (Q := fun w e w' => e = .returned (.int .i64 (N : Int)) ∧ w = w') (fun _ _ _ _ _ hS => len_calls w hS h.wd.of)
theorem two_bytes (h : Two w0 B RB N d r OS w) : Calls Try.prog 20 #[.pointer (some ⟨B, 0, none⟩)] w fun e w' => ∃ A c, e = .returned (.slice A d.blocks.length c) ∧ d.blocks.length ≤ c ∧ Kd.C kb w' A d.blocks.length d.blocks ∧ Below w.heap.size w w' :=
  h.dev_told (Q := fun w e w' => ∃ A c, e = .returned (.slice A d.blocks.length c) ∧ d.blocks.length ≤ c ∧ Kd.C kb w' A d.blocks.length d.blocks ∧ Below w.heap.size w w') (fun _ _ _ _ _ hS => by
    refine (bytes_calls w hS (by have := h.wd.of.1; have := h.wd.of.2.2; omega)).mono ?_
    rintro e w' ⟨v, he, hr, hb⟩
    obtain ⟨A, c, rfl⟩ := Kd.R_slice hr
    have h9 := Kd.R_reads' hr
    exact ⟨A, c, he, h9.2.1, h9.2.2, hb⟩)
theorem two_trace (h : Two w0 B RB N d r OS w) (ht : d.trace.length ≤ 1000000000) : Calls Try.prog 22 #[.pointer (some ⟨B, 0, none⟩)] w fun e w' => ∃ A c, e = .returned (.slice A d.trace.length c) ∧ d.trace.length ≤ c ∧ Kd.C ki w' A d.trace.length d.trace ∧ Below w.heap.size w w' :=
  h.dev_told (Q := fun w e w' => ∃ A c, e = .returned (.slice A d.trace.length c) ∧ d.trace.length ≤ c ∧ Kd.C ki w' A d.trace.length d.trace ∧ Below w.heap.size w w') (fun _ _ _ _ _ hS => by
    refine (trace_calls w hS ht).mono ?_
    rintro e w' ⟨v, he, hr, hb⟩
    obtain ⟨A, c, rfl⟩ := Kd.R_slice hr
    have h9 := Kd.R_reads' hr
    exact ⟨A, c, he, h9.2.1, h9.2.2, hb⟩)
theorem two_waiting (h : Two w0 B RB N d r OS w) (hwl : d.waits.length ≤ 100000) : Calls Try.prog 16 #[.pointer (some ⟨B, 0, none⟩)] w fun e w' => ∃ A c, e = .returned (.slice A d.waits.length c) ∧ d.waits.length ≤ c ∧ Kd.C ki w' A d.waits.length (numsW d.waits) ∧ Below w.heap.size w w' :=
  h.dev_told (Q := fun w e w' => ∃ A c, e = .returned (.slice A d.waits.length c) ∧ d.waits.length ≤ c ∧ Kd.C ki w' A d.waits.length (numsW d.waits) ∧ Below w.heap.size w w') (fun _ _ _ _ _ hS => by
    refine (waiting_calls w hS hwl).mono ?_
    rintro e w' ⟨v, he, hr, hb⟩
    obtain ⟨A, c, rfl⟩ := Kd.R_slice hr
    have h9 := Kd.R_reads' hr
    have hl : (numsW d.waits).length = d.waits.length := List.length_map _
    rw [hl] at he h9
    exact ⟨A, c, he, h9.2.1, h9.2.2, hb⟩)
/-- The document's fields, as they are read. -/
structure Fields (RB : Nat) (r : Dv) (w : World) (Ab At Aw : Option Addr) (cb ct cw : Nat) : Prop where
  b : w.cell? ⟨RB, 1, none⟩ = some (.slice Ab r.blocks.length cb)
  bl : r.blocks.length ≤ cb
  bC : Kd.C kb w Ab r.blocks.length r.blocks
  t : w.cell? ⟨RB, 4, none⟩ = some (.slice At r.trace.length ct)
  tl : r.trace.length ≤ ct
  tC : Kd.C ki w At r.trace.length r.trace
  ww : w.cell? ⟨RB, 2, none⟩ = some (.slice Aw r.waits.length cw)
  wC : Kd.C kW w Aw r.waits.length r.waits
theorem Two.fields (h : Two w0 B RB N d r OS w) : ∃ Ab At Aw cb ct cw, Fields RB r w Ab At Aw cb ct cw := by
  obtain ⟨⟨col, vb, vw, vs, vt, RS, ub, uw, us, ut, hS, hR, hc, ho⟩, hl, h2, h3, h4⟩ := h
  obtain ⟨Ab, cb, rfl⟩ := Kd.R_slice hR.rb
  obtain ⟨Aw, cw, rfl⟩ := Kd.R_slice hR.rw
  obtain ⟨At, ct, rfl⟩ := Kd.R_slice hR.rt
  have h5 := Kd.R_reads' hR.rb
  have h6 := Kd.R_reads' hR.rw
  have h7 := Kd.R_reads' hR.rt
  exact ⟨Ab, At, Aw, cb, ct, cw, hR.c1, h5.2.1, h5.2.2, hR.c4, h7.2.1, h7.2.2, hR.c2, h6.2.2⟩
theorem Fields.below {Ab At Aw : Option Addr} {cb ct cw : Nat} (h : Fields RB r w Ab At Aw cb ct cw) (hb : Below w.heap.size w w') : Fields RB r w' Ab At Aw cb ct cw :=
  ⟨cell_low hb h.b, h.bl, Kd.C_below h.bC hb, cell_low hb h.t, h.tl, Kd.C_below h.tC hb, cell_low hb h.ww, Kd.C_below h.wC hb⟩
/-- An empty row is one of any kind. -/
theorem R_empty {α β : Type} {k1 : Kd α} {k2 : Kd β} {e base : Nat} {ok : Nat → Prop} {v : Value} (h : k1.R e w base ok v []) (hsz : k1.sz = k2.sz) : k2.R e w base ok v [] := by
  obtain ⟨h0, inner, ho, hr⟩ := h
  exact ⟨h0, inner, hsz ▸ ho, by have := hr.1; rw [← hsz]; exact this, fun j p hj => by simp at hj⟩
/-- The document's New. -/
theorem rnew_good (n : Nat) (h1 : 1 ≤ n) (h2 : n ≤ 1024) (w : World) : Calls Try.prog 17 #[.int .i64 (n : Int)] w fun e w' => ∃ vb vw vs vt, e = .returned (.tuple #[.agg #[.int .i64 (n : Int), vb, vw, vs, vt], .int .i64 0]) ∧ Kd.R kb 5 w' w.heap.size (fun _ => True) vb (List.replicate (n * 256) 0) ∧ Kd.R kW 58 w' w.heap.size (fun _ => True) vw [] ∧ Kd.R ks 35 w' w.heap.size (fun _ => True) vs [] ∧ Kd.R ki 3 w' w.heap.size (fun _ => True) vt [] ∧ Below w.heap.size w w' := by
  have hw : wrap64 ((n : Int) * 256) = (n : Int) * 256 := by unfold wrap64; omega
  refine (carlingref06_New.calls (n : Int) (n : Int) (List.replicate ((n : Int) * 256).toNat 0) [] [] [] 0 w ?_).mono ?_
  · unfold carlingref06_New.f
    rw [if_neg (by omega), if_neg (by omega), hw, if_pos (by omega), if_pos (by omega)]
  · rintro e w' ⟨vb, vw, vs, vt, he, hb, hw2, hs, ht, hbb⟩
    rw [show ((n : Int) * 256).toNat = n * 256 by omega] at hb
    exact ⟨vb, vw, vs, vt, he, hb, Kd.R_mono (R_empty (Kd.S_R hw2) rfl) (fun _ _ => trivial), Kd.R_mono (Kd.S_R hs) (fun _ _ => trivial), ht, hbb⟩
theorem rnew_bad (n : Int) (h : n < 1 ∨ n > 1024) (w : World) : Calls Try.prog 17 #[.int .i64 n] w fun e w' => ∃ A1 c1 A2 c2 A3 c3 A4 c4, e = .returned (.tuple #[.agg #[.int .i64 0, .slice A1 0 c1, .slice A2 0 c2, .slice A3 0 c3, .slice A4 0 c4], .int .i64 1]) ∧ Below w.heap.size w w' := by
  refine (carlingref06_New.calls n 0 [] [] [] [] 1 w ?_).mono ?_
  · unfold carlingref06_New.f
    rcases h with h | h
    · rw [if_pos h]
    · rw [if_neg (by omega), if_pos h]
  · rintro e w' ⟨vb, vw, vs, vt, he, hb, hw2, hs, ht, hbb⟩
    obtain ⟨A1, c1, rfl⟩ := Kd.R_slice hb
    obtain ⟨A2, c2, rfl⟩ := Kd.R_slice (Kd.S_R hw2)
    obtain ⟨A3, c3, rfl⟩ := Kd.R_slice (Kd.S_R hs)
    obtain ⟨A4, c4, rfl⟩ := Kd.R_slice ht
    exact ⟨A1, c1, A2, c2, A3, c3, A4, c4, he, hbb⟩
/-- Both are made. -/
theorem Two.make {n : Nat} {col : Nat → Nat} {vb vw vs vt ub uw us ut : Value} (hS : Sd w0.heap.size B (Dv.new n) col w vb vw vs vt) (hbel : Below w0.heap.size w0 w) (h1 : 1 ≤ n) (h2 : n ≤ 1024) (hb : Below w.heap.size w w1)
    (rb : Kd.R kb 5 w1 w.heap.size (fun _ => True) ub (List.replicate (n * 256) 0)) (rw_ : Kd.R kW 58 w1 w.heap.size (fun _ => True) uw []) (rs : Kd.R ks 35 w1 w.heap.size (fun _ => True) us []) (rt : Kd.R ki 3 w1 w.heap.size (fun _ => True) ut []) :
    Two w0 B w1.heap.size n (Dv.new n) (Dv.new n) (fun k => col k ≠ 0 ∨ (w.heap.size ≤ k ∧ k < (w1.alloc (.cells #[.int .i64 (n : Int), ub, uw, us, ut] 50)).heap.size)) (w1.alloc (.cells #[.int .i64 (n : Int), ub, uw, us, ut] 50)) := by
  have hba := (Below.refl w1.heap.size w1).alloc (Nat.le_refl _) (.cells #[.int .i64 (n : Int), ub, uw, us, ut] 50)
  have hbb := below_step hb hba
  have hsz : (w1.alloc (.cells #[.int .i64 (n : Int), ub, uw, us, ut] 50)).heap.size = w1.heap.size + 1 := by simp
  have hlo := hbel.size
  have hS' := hS.below hbb
  have up : ∀ {α : Type} {k : Kd α} {e : Nat} {v : Value} {xs : List α}, k.R e w1 w.heap.size (fun _ => True) v xs → k.R e (w1.alloc (.cells #[.int .i64 (n : Int), ub, uw, us, ut] 50)) w0.heap.size (fun j => (w.heap.size ≤ j ∧ j < w1.heap.size + 1) ∧ j ≠ w1.heap.size) v xs := fun h =>
    Kd.R_alloc (Kd.R_mono (Kd.R_lower (Kd.R_bound h) hlo) (fun j hj => ⟨⟨hj.2.1, by have := hj.2.2.1; omega⟩, by have := hj.2.2.1; omega⟩)) _
  refine ⟨⟨col, vb, vw, vs, vt, fun k => w.heap.size ≤ k ∧ k < w1.heap.size + 1, ub, uw, us, ut, hS', ⟨blk_new _ _, Nat.le_trans hlo hb.size, ⟨hb.size, by omega⟩, up rb, up rw_, up rs, up rt, fun k hk => by rw [hsz]; exact hk.2⟩, fun k hk => ?_, fun k hk => ?_⟩, fun k hk => ?_, hbel.trans (hbb.mono hlo), Wf.new h1 h2, Wf.new h1 h2⟩
  · by_cases h9 : col k = 0
    · exact h9
    · have := hS.lt k h9
      have := hk.1
      omega
  · rcases hk with hk | hk
    · exact .inl hk
    · exact .inr ⟨hk.1, by rw [hsz]; exact hk.2⟩
  · rcases hk with hk | hk
    · exact hS'.lt k hk
    · exact hk.2
end
end Go.Proofs.Ytenbcpjlbfojlaa.DA
