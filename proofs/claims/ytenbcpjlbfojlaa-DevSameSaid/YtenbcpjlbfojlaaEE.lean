/- A store and the document's, side by side. -/
import Derived.Test.YtenbcpjlbfojlaaED
namespace Go.Proofs.Ytenbcpjlbfojlaa.DA
open Go.RowKit Go.Proofs.YtenbcpjlbfojlaaW.PrintWords Go.Proofs.YtenbcpjlbfojlaaW.PrintLast Go.Proofs.YtenbcpjlbfojlaaW.PrintMore Go.Proofs.Ytenbcpjlbfojlaa.PD
set_option linter.unusedVariables false
set_option linter.unusedSimpArgs false
/-- Both stand; OS: the blocks that are theirs. -/
structure Two (w0 : World) (B RB N : Nat) (d r : Dv) (OS : Nat → Prop) (w : World) : Prop where
  ex : ∃ col vb vw vs vt RS ub uw us ut, Sd w0.heap.size B d col w vb vw vs vt ∧ Rm w0.heap.size RB N r RS w ub uw us ut ∧ (∀ k, RS k → col k = 0) ∧ (∀ k, (col k ≠ 0 ∨ RS k) → OS k)
  lt : ∀ k, OS k → k < w.heap.size
  bel : Below w0.heap.size w0 w
  wd : Wf d N
  wr : Wf r N
/-- Behind a call. -/
def TwoAfter (w0 : World) (B RB N : Nat) (d r : Dv) (OS : Nat → Prop) (w w' : World) : Prop :=
  ∃ OS', Two w0 B RB N d r OS' w' ∧ (∀ k, OS' k → OS k ∨ w.heap.size ≤ k) ∧ Kept w w' OS
section
variable {w0 w w' w1 : World} {B RB N : Nat} {d r d' r' d2 r2 : Dv} {OS : Nat → Prop} {P : Ending → Prop} {fn : Nat} {args : Array Value}
theorem Two.kept (h : Two w0 B RB N d r OS w) {S : Nat → Prop} (hk : Kept w w' S) (hd : ∀ k, OS k → ¬ S k) (hb : Below w0.heap.size w w') : Two w0 B RB N d r OS w' := by
  obtain ⟨⟨col, vb, vw, vs, vt, RS, ub, uw, us, ut, hS, hR, hc, ho⟩, hl, h2, h3, h4⟩ := h
  exact ⟨⟨col, vb, vw, vs, vt, RS, ub, uw, us, ut, hS.kept hk (fun k hk2 => hd k (ho k (.inl hk2))), hR.kept hk (fun k hk2 => hd k (ho k (.inr hk2))), hc, ho⟩, fun k hk2 => Nat.lt_of_lt_of_le (hl k hk2) hk.1, h2.trans hb, h3, h4⟩
theorem Two.below (h : Two w0 B RB N d r OS w) (hb : Below w.heap.size w w') : Two w0 B RB N d r OS w' := h.kept (Kept.of_below hb (fun _ => False)) (fun _ _ h => h) (hb.mono h.bel.size)
theorem TwoAfter.same (h : Two w0 B RB N d r OS w) : TwoAfter w0 B RB N d r OS w w := ⟨OS, h, fun _ hk => .inl hk, Kept.refl _ _⟩
theorem TwoAfter.of_below (h : Two w0 B RB N d r OS w) (hb : Below w.heap.size w w') : TwoAfter w0 B RB N d r OS w w' := ⟨OS, h.below hb, fun _ hk => .inl hk, Kept.of_below hb _⟩
theorem TwoAfter.ahead (hb : Below w.heap.size w w1) (h : TwoAfter w0 B RB N d r OS w1 w') : TwoAfter w0 B RB N d r OS w w' := by
  obtain ⟨OS', h1, h2, h3⟩ := h
  refine ⟨OS', h1, fun k hk => ?_, (Kept.of_below hb OS).then_ h3 (fun k h => .inl h)⟩
  rcases h2 k hk with h | h
  · exact .inl h
  · exact .inr (Nat.le_trans hb.size h)
theorem TwoAfter.then_ {OS1 : Nat → Prop} (hc : ∀ k, OS1 k → OS k ∨ w.heap.size ≤ k) (hk : Kept w w1 OS) (h : TwoAfter w0 B RB N d r OS1 w1 w') : TwoAfter w0 B RB N d r OS w w' := by
  obtain ⟨OS', h1, h2, h3⟩ := h
  refine ⟨OS', h1, fun k hk2 => ?_, hk.then_ h3 (fun k h => hc k h)⟩
  rcases h2 k hk2 with h | h
  · exact hc k h
  · exact .inr (Nat.le_trans hk.1 h)
/-- A call of the store's. -/
theorem Two.dev (h : Two w0 B RB N d r OS w) (hw : Wf d' N) (hm : ∀ col vb vw vs vt, Sd w0.heap.size B d col w vb vw vs vt → Calls Try.prog fn args w fun e w' => P e ∧ SAfter w0.heap.size B d' col w w') : Calls Try.prog fn args w fun e w' => P e ∧ TwoAfter w0 B RB N d' r OS w w' := by
  obtain ⟨⟨col, vb, vw, vs, vt, RS, ub, uw, us, ut, hS, hR, hc, ho⟩, hl, h2, h3, h4⟩ := h
  refine (hm _ _ _ _ _ hS).mono ?_
  rintro e w' ⟨he, col', vb', vw', vs', vt', hS', hcc, hk, hb⟩
  have hR' := hR.kept hk (fun k hk2 h9 => h9 (hc k hk2))
  refine ⟨he, fun k => col' k ≠ 0 ∨ RS k, ⟨⟨col', vb', vw', vs', vt', RS, ub, uw, us, ut, hS', hR', fun k hk2 => ?_, fun k h => h⟩, fun k hk2 => ?_, h2.trans hb, hw, h4⟩, fun k hk2 => ?_, hk.mono (fun k hk2 => ho k (.inl hk2))⟩
  · by_cases h9 : col' k = 0
    · exact h9
    · rcases hcc k h9 with h8 | h8
      · exact absurd (hc k hk2) h8
      · have := hR.lt k hk2
        omega
  · rcases hk2 with hk2 | hk2
    · exact hS'.lt k hk2
    · exact hR'.lt k hk2
  · rcases hk2 with hk2 | hk2
    · rcases hcc k hk2 with h8 | h8
      · exact .inl (ho k (.inl h8))
      · exact .inr h8
    · exact .inl (ho k (.inr hk2))
/-- A call of the document's. -/
theorem Two.ref (h : Two w0 B RB N d r OS w) (hw : Wf r' N) (hm : ∀ RS ub uw us ut, Rm w0.heap.size RB N r RS w ub uw us ut → Calls Try.prog fn args w fun e w' => P e ∧ RAfter w0.heap.size RB N r' RS w w') : Calls Try.prog fn args w fun e w' => P e ∧ TwoAfter w0 B RB N d r' OS w w' := by
  obtain ⟨⟨col, vb, vw, vs, vt, RS, ub, uw, us, ut, hS, hR, hc, ho⟩, hl, h2, h3, h4⟩ := h
  refine (hm _ _ _ _ _ hR).mono ?_
  rintro e w' ⟨he, RS', ub', uw', us', ut', hR', hcc, hk, hb⟩
  have hS' := hS.kept hk (fun k hk2 h9 => hk2 (h9 ▸ hc RB hR.cB))
  refine ⟨he, fun k => col k ≠ 0 ∨ RS' k, ⟨⟨col, vb, vw, vs, vt, RS', ub', uw', us', ut', hS', hR', fun k hk2 => ?_, fun k h => h⟩, fun k hk2 => ?_, h2.trans hb, h3, hw⟩, fun k hk2 => ?_, hk.mono (fun k hk2 => ho k (.inr (hk2 ▸ hR.cB)))⟩
  · rcases hcc k hk2 with h8 | h8
    · exact hc k h8
    · by_cases h9 : col k = 0
      · exact h9
      · have := hS.lt k h9
        omega
  · rcases hk2 with hk2 | hk2
    · exact hS'.lt k hk2
    · exact hR'.lt k hk2
  · rcases hk2 with hk2 | hk2
    · exact .inl (ho k (.inl hk2))
    · rcases hcc k hk2 with h8 | h8
      · exact .inl (ho k (.inr h8))
      · exact .inr h8
/-- A call of the store's that only tells. -/
theorem Two.dev_told {Q : World → Ending → World → Prop} (h : Two w0 B RB N d r OS w) (hm : ∀ col vb vw vs vt, Sd w0.heap.size B d col w vb vw vs vt → Calls Try.prog fn args w fun e w' => Q w e w') : Calls Try.prog fn args w fun e w' => Q w e w' := by
  obtain ⟨⟨col, vb, vw, vs, vt, RS, ub, uw, us, ut, hS, hR, hc, ho⟩, hl, h2, h3, h4⟩ := h
  exact hm _ _ _ _ _ hS
theorem Two.ref_told {Q : World → Ending → World → Prop} (h : Two w0 B RB N d r OS w) (hm : ∀ RS ub uw us ut, Rm w0.heap.size RB N r RS w ub uw us ut → Calls Try.prog fn args w fun e w' => Q w e w') : Calls Try.prog fn args w fun e w' => Q w e w' := by
  obtain ⟨⟨col, vb, vw, vs, vt, RS, ub, uw, us, ut, hS, hR, hc, ho⟩, hl, h2, h3, h4⟩ := h
  exact hm _ _ _ _ _ hR
/-! ### the calls -/
theorem two_flush (h : Two w0 B RB N d r OS w) (hwl : d.waits.length ≤ 100000) (htl : d.trace.length < 100000) : Calls Try.prog 9 #[.pointer (some ⟨B, 0, none⟩)] w fun e w' => e = .returned (.int .i64 (d.waits.length : Int)) ∧ TwoAfter w0 B RB N d.flush r OS w w' :=
  h.dev h.wd.flush (fun _ _ _ _ _ hS => flush_calls w hS h.wd hwl htl)
theorem two_rflush (h : Two w0 B RB N d r OS w) (hwl : r.waits.length ≤ 100000) (htl : r.trace.length ≤ 100000) : Calls Try.prog 33 #[.pointer (some ⟨RB, 0, none⟩)] w fun e w' => e = .returned (.int .i64 (r.waits.length : Int)) ∧ TwoAfter w0 B RB N d r.flush OS w w' :=
  h.ref h.wr.flush (fun _ _ _ _ _ hR => rflush_calls w hR h.wr hwl htl)
theorem two_crash (h : Two w0 B RB N d r OS w) (keep torn parts : Int) (hk : 0 ≤ keep ∧ keep ≤ 18446744073709551615) (hwl : d.waits.length ≤ 100000) : Calls Try.prog 10 #[.pointer (some ⟨B, 0, none⟩), .int .u64 keep, .int .i64 torn, .int .i64 parts] w fun e w' => e = .returned (.tuple #[]) ∧ TwoAfter w0 B RB N (d.crash keep torn parts) r OS w w' :=
  h.dev h.wd.crash (fun _ _ _ _ _ hS => crash_calls keep torn parts hk w hS h.wd hwl)
theorem two_rcrash (h : Two w0 B RB N d r OS w) (keep torn parts : Int) (hk : 0 ≤ keep ∧ keep ≤ 18446744073709551615) (hwl : r.waits.length ≤ 100000) : Calls Try.prog 34 #[.pointer (some ⟨RB, 0, none⟩), .int .u64 keep, .int .i64 torn, .int .i64 parts] w fun e w' => e = .returned (.tuple #[]) ∧ TwoAfter w0 B RB N d (r.crash keep torn parts) OS w w' :=
  h.ref h.wr.crash (fun _ _ _ _ _ hR => rcrash_calls keep torn parts hk w hR h.wr hwl)
theorem two_tamper (h : Two w0 B RB N d r OS w) (n at_ : Int) {Ab : Option Addr} {cb : Nat} {b : List Int} (hb : Kd.C kb w Ab b.length b) (hcb : b.length ≤ cb) : Calls Try.prog 24 #[.pointer (some ⟨B, 0, none⟩), .int .i64 n, .int .i64 at_, .slice Ab b.length cb] w fun e w' => e = .returned (.int .i64 (tamperE N n at_ b.length)) ∧ TwoAfter w0 B RB N (d.tamper N n at_ b) r OS w w' :=
  h.dev h.wd.tamper (fun _ _ _ _ _ hS => tamper_calls n at_ Ab cb b w hS h.wd.of hb hcb)
theorem two_rtamper (h : Two w0 B RB N d r OS w) (n at_ : Int) {Ab : Option Addr} {cb : Nat} {b : List Int} (hb : Kd.C kb w Ab b.length b) : Calls Try.prog 35 #[.pointer (some ⟨RB, 0, none⟩), .int .i64 n, .int .i64 at_, .slice Ab b.length cb] w fun e w' => e = .returned (.int .i64 (tamperE N n at_ b.length)) ∧ TwoAfter w0 B RB N d (r.tamper N n at_ b) OS w w' :=
  h.ref h.wr.tamper (fun _ _ _ _ _ hR => rtamper_calls n at_ Ab cb b w hR h.wr.of hb)
theorem two_put (h : Two w0 B RB N d r OS w) : Calls Try.prog 23 #[.pointer (some ⟨B, 0, none⟩)] w fun e w' => e = .returned (.tuple #[.int .i64 d.put.2.1, .int .i64 d.put.2.2]) ∧ TwoAfter w0 B RB N d.put.1 r OS w w' :=
  h.dev h.wd.put (fun _ _ _ _ _ hS => put_calls w hS h.wd.of h.wd.sl)
theorem two_rput (h : Two w0 B RB N d r OS w) : Calls Try.prog 36 #[.pointer (some ⟨RB, 0, none⟩)] w fun e w' => e = .returned (.tuple #[.int .i64 r.put.2.1, .int .i64 r.put.2.2]) ∧ TwoAfter w0 B RB N d r.put.1 OS w w' :=
  h.ref h.wr.put (fun _ _ _ _ _ hR => rput_calls w hR h.wr.of h.wr.sl)
theorem two_restore (h : Two w0 B RB N d r OS w) (k : Int) : Calls Try.prog 25 #[.pointer (some ⟨B, 0, none⟩), .int .i64 k] w fun e w' => e = .returned (.int .i64 (d.restore k).2) ∧ TwoAfter w0 B RB N (d.restore k).1 r OS w w' :=
  h.dev h.wd.restore (fun _ _ _ _ _ hS => restore_calls k w hS h.wd)
theorem two_rrestore (h : Two w0 B RB N d r OS w) (k : Int) : Calls Try.prog 37 #[.pointer (some ⟨RB, 0, none⟩), .int .i64 k] w fun e w' => e = .returned (.int .i64 (r.restore k).2) ∧ TwoAfter w0 B RB N d (r.restore k).1 OS w w' :=
  h.ref h.wr.restore (fun _ _ _ _ _ hR => rrestore_calls k w hR)
theorem two_write (h : Two w0 B RB N d r OS w) (n : Int) {Ab : Option Addr} {cb : Nat} {b : List Int} (hb : Kd.C kb w Ab b.length b) (hcb : b.length ≤ cb) (hwl : d.waits.length ≤ 100000) (htl : d.trace.length < 100000) (hbl : b.length ≤ 1000000000) : Calls Try.prog 11 #[.pointer (some ⟨B, 0, none⟩), .int .i64 n, .slice Ab b.length cb] w fun e w' => e = .returned (.int .i64 (d.write N n b).2) ∧ TwoAfter w0 B RB N (d.write N n b).1 r OS w w' :=
  h.dev h.wd.write (fun _ _ _ _ _ hS => write_calls n Ab cb b w hS h.wd.of hb hcb hwl htl hbl)
theorem two_rwrite (h : Two w0 B RB N d r OS w) (n : Int) {Ab : Option Addr} {cb : Nat} {b : List Int} (hb : Kd.C kb w Ab b.length b) (hwl : r.waits.length ≤ 100000) (htl : r.trace.length ≤ 100000) : Calls Try.prog 38 #[.pointer (some ⟨RB, 0, none⟩), .int .i64 n, .slice Ab b.length cb] w fun e w' => e = .returned (.int .i64 (r.write N n b).2) ∧ TwoAfter w0 B RB N d (r.write N n b).1 OS w w' :=
  h.ref h.wr.write (fun _ _ _ _ _ hR => rwrite_calls n Ab cb b w hR h.wr.of hb hwl htl)
end
end Go.Proofs.Ytenbcpjlbfojlaa.DA
