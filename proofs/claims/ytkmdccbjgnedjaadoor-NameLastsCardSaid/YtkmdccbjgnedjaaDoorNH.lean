/- The plain law: whether a text is a name, and the last part of a path. -/
import Derived.Test.YtkmdccbjgnedjaaDoorNF
import Derived.Test.YtkmdccbjgnedjaaDoorPNx7
namespace Go.Proofs.YtkmdccbjgnedjaaDoor.ND
open Go.RowKit Go.Proofs.YtkmdccbjgnedjaaDoor.PN Go.Proofs.YtkmdccbjgnedjaaDoor.NB Go.Proofs.YtkmdccbjgnedjaaDoorW.PrintWords
set_option linter.unusedVariables false
set_option linter.unusedSimpArgs false
/-! ### the last part -/
/-- What stands ahead of the last part, and that. -/
def lastR (s : ByteArray) : List ByteArray × ByteArray × Int :=
  if (splitR s).2.2 = 0 then (if (splitR s).1 = [] then ([], (⟨#[]⟩ : ByteArray), 1) else if (splitR s).1.getLast? = some up then ([], (⟨#[]⟩ : ByteArray), 1) else ((splitR s).1.dropLast, (splitR s).1.getLast?.getD ByteArray.empty, 0)) else ([], (⟨#[]⟩ : ByteArray), (splitR s).2.2)
theorem lastR_bad {s : ByteArray} (h : (splitR s).2.2 ≠ 0) : lastR s = ([], (⟨#[]⟩ : ByteArray), (splitR s).2.2) := if_neg h
theorem lastR_nil {s : ByteArray} (h : (splitR s).2.2 = 0) (h2 : (splitR s).1 = []) : lastR s = ([], (⟨#[]⟩ : ByteArray), 1) := (if_pos h).trans (if_pos h2)
theorem lastR_up {s : ByteArray} (h : (splitR s).2.2 = 0) (h2 : (splitR s).1 ≠ []) (h3 : (splitR s).1.getLast h2 = up) : lastR s = ([], (⟨#[]⟩ : ByteArray), 1) := (if_pos h).trans ((if_neg h2).trans (if_pos ((last_up _ h2).2 h3)))
theorem lastR_ok {s : ByteArray} (h : (splitR s).2.2 = 0) (h2 : (splitR s).1 ≠ []) (h3 : (splitR s).1.getLast h2 ≠ up) : lastR s = ((splitR s).1.dropLast, (splitR s).1.getLast h2, 0) := by
  refine (if_pos h).trans ((if_neg h2).trans ((if_neg (fun e => h3 ((last_up _ h2).1 e))).trans ?_))
  rw [List.getLast?_eq_some_getLast h2]
  rfl
theorem name_last (s : ByteArray) : Ev (fun k => name_Last.f k s) (lastR s) := by
  have hsm := (split_small s).2
  refine Ev.bind (h := fun k bt214 => (if bt214.2.2 = 0 then (if (wrap64 ((bt214.1.length : Int) - 1)) < 0 then (some (([] : List ByteArray), (⟨#[]⟩ : ByteArray), 1)) else (if 0 ≤ (wrap64 ((bt214.1.length : Int) - 1)) then (if (wrap64 ((bt214.1.length : Int) - 1)) < (bt214.1.length : Int) then (if (rdOf ByteArray.empty bt214.1 (wrap64 ((bt214.1.length : Int) - 1))).toList = ([46, 46] : List UInt8) then (some (([] : List ByteArray), (⟨#[]⟩ : ByteArray), 1)) else (if (wrap64 ((bt214.1.length : Int) - 1)) ≤ (bt214.1.length : Int) then ((slices_Clone_string_string.f (bt214.1.take ((wrap64 ((bt214.1.length : Int) - 1)) : Int).toNat)).bind fun t224 => (some (t224, rdOf ByteArray.empty bt214.1 (wrap64 ((bt214.1.length : Int) - 1)), 0))) else (none))) else (none)) else (none))) else (some (([] : List ByteArray), (⟨#[]⟩ : ByteArray), bt214.2.2)))) (name_split s) ?_
  by_cases h : (splitR s).2.2 = 0
  · have hw : wrap64 (((splitR s).1.length : Int) - 1) = ((splitR s).1.length : Int) - 1 := w64p (by omega)
    rw [hw]
    by_cases h2 : (splitR s).1 = []
    · rw [lastR_nil h h2]
      refine Ev.congr (fun k => ?_) (Ev.now _)
      rw [if_pos h, if_pos (by rw [h2]; decide)]
    · have hp := List.length_pos_iff.2 h2
      by_cases h3 : (splitR s).1.getLast h2 = up
      · rw [lastR_up h h2 h3]
        refine Ev.congr (fun k => ?_) (Ev.now _)
        rw [if_pos h, if_neg (by omega), if_pos (by omega), if_pos (by omega), last_get _ h2, if_pos (up_iff.2 h3)]
      · rw [lastR_ok h h2 h3]
        refine Ev.congr (fun k => ?_) (Ev.now _)
        rw [if_pos h, if_neg (by omega), if_pos (by omega), if_pos (by omega), last_get _ h2, if_neg (fun e => h3 (up_iff.1 e)), if_pos (by omega), take_last]
        unfold slices_Clone_string_string.f
        rw [if_pos (by rw [List.length_dropLast]; omega), Option.bind_some]
  · rw [lastR_bad h]
    refine Ev.congr (fun k => ?_) (Ev.now _)
    rw [if_neg h]
theorem ref_last (s : ByteArray) : Ev (fun k => carlingref24_Last.f k s) (lastR s) := by
  refine Ev.bind (h := fun k t => (if t.2.2 = 0 then (if t.1.length = 0 then some ([], (⟨#[]⟩ : ByteArray), 1) else if (rdOf ByteArray.empty t.1 ((t.1.length - 1 : Nat) : Int)).toList = ([46, 46] : List UInt8) then some ([], (⟨#[]⟩ : ByteArray), 1) else some (t.1.take (t.1.length - 1), rdOf ByteArray.empty t.1 ((t.1.length - 1 : Nat) : Int), 0)) else some ([], (⟨#[]⟩ : ByteArray), t.2.2))) (ref_split s) ?_
  by_cases h : (splitR s).2.2 = 0
  · by_cases h2 : (splitR s).1 = []
    · rw [lastR_nil h h2]
      refine Ev.congr (fun k => ?_) (Ev.now _)
      rw [if_pos h, if_pos (by rw [h2]; rfl)]
    · have hp := List.length_pos_iff.2 h2
      have hg : rdOf ByteArray.empty (splitR s).1 (((splitR s).1.length - 1 : Nat) : Int) = (splitR s).1.getLast h2 := by rw [← last_get _ h2]; congr 1; omega
      by_cases h3 : (splitR s).1.getLast h2 = up
      · rw [lastR_up h h2 h3]
        refine Ev.congr (fun k => ?_) (Ev.now _)
        rw [if_pos h, if_neg (by omega), hg, if_pos (up_iff.2 h3)]
      · rw [lastR_ok h h2 h3]
        refine Ev.congr (fun k => ?_) (Ev.now _)
        rw [if_pos h, if_neg (by omega), hg, if_neg (fun e => h3 (up_iff.1 e)), ← List.dropLast_eq_take]
  · rw [lastR_bad h]
    refine Ev.congr (fun k => ?_) (Ev.now _)
    rw [if_neg h]
/-! ### NameLasts -/
theorem lasts_j0 (s : ByteArray) (e : Int) (he : e = 1) : Ev (fun k => carlinglaw24_NameLasts.j0 k [] (⟨#[]⟩ : ByteArray) e (splitR s).1 true) true := by
  refine Ev.step (fun k => ?_) alive_bind
  rw [carlinglaw24_NameLasts.j0]
  rw [if_pos rfl, if_pos he]
  exact (if_pos (show (((0 : Nat) : Int) = 0) from rfl)).trans (if_pos (show (⟨#[]⟩ : ByteArray).toList = ([] : List UInt8) from toList_eq.2 rfl))
theorem lasts_ev (s : ByteArray) : Ev (fun k => carlinglaw24_NameLasts.f k s) true := by
  have hsm := (split_small s).2
  refine Ev.bind (h := fun k bt256 => ((name_Split.f k s).bind fun bt261 => (if bt261.2.2 = 0 then (if (bt261.1.length : Int) = 0 then (carlinglaw24_NameLasts.j0 k bt256.1 bt256.2.1 bt256.2.2 bt261.1 true) else (if 0 ≤ (wrap64 ((bt261.1.length : Int) - 1)) then (if (wrap64 ((bt261.1.length : Int) - 1)) < (bt261.1.length : Int) then (carlinglaw24_NameLasts.j0 k bt256.1 bt256.2.1 bt256.2.2 bt261.1 ((rdOf ByteArray.empty bt261.1 (wrap64 ((bt261.1.length : Int) - 1))).toList == ([46, 46] : List UInt8))) else (none)) else (none))) else (if bt256.2.2 = bt261.2.2 then (if (bt256.1.length : Int) = 0 then (if bt256.2.1.toList = ([] : List UInt8) then ((carlinglaw24_alive.f k).bind fun t266 => (some t266)) else (none)) else (none)) else (none))))) (name_last s) ?_
  refine Ev.bind (h := fun k bt261 => (if bt261.2.2 = 0 then (if (bt261.1.length : Int) = 0 then (carlinglaw24_NameLasts.j0 k (lastR s).1 (lastR s).2.1 (lastR s).2.2 bt261.1 true) else (if 0 ≤ (wrap64 ((bt261.1.length : Int) - 1)) then (if (wrap64 ((bt261.1.length : Int) - 1)) < (bt261.1.length : Int) then (carlinglaw24_NameLasts.j0 k (lastR s).1 (lastR s).2.1 (lastR s).2.2 bt261.1 ((rdOf ByteArray.empty bt261.1 (wrap64 ((bt261.1.length : Int) - 1))).toList == ([46, 46] : List UInt8))) else (none)) else (none))) else (if (lastR s).2.2 = bt261.2.2 then (if ((lastR s).1.length : Int) = 0 then (if (lastR s).2.1.toList = ([] : List UInt8) then ((carlinglaw24_alive.f k).bind fun t266 => (some t266)) else (none)) else (none)) else (none)))) (name_split s) ?_
  by_cases h : (splitR s).2.2 = 0
  · have hw : wrap64 (((splitR s).1.length : Int) - 1) = ((splitR s).1.length : Int) - 1 := w64p (by omega)
    rw [hw]
    by_cases h2 : (splitR s).1 = []
    · rw [lastR_nil h h2]
      refine Ev.congr (fun k => ?_) (lasts_j0 s 1 rfl)
      rw [if_pos h, if_pos (by rw [h2]; rfl)]
    · have hp := List.length_pos_iff.2 h2
      by_cases h3 : (splitR s).1.getLast h2 = up
      · rw [lastR_up h h2 h3]
        refine Ev.congr (fun k => ?_) (lasts_j0 s 1 rfl)
        rw [if_pos h, if_neg (by omega), if_pos (by omega), if_pos (by omega), last_get _ h2, beq_iff_eq.2 (up_iff.2 h3)]
      · rw [lastR_ok h h2 h3]
        have hcat : (splitR s).1.dropLast ++ [(splitR s).1.getLast h2] = (splitR s).1 := List.dropLast_concat_getLast h2
        have hsame := same_ev (splitR s).1 (splitR s).1 (by omega)
        rw [decide_eq_true rfl] at hsame
        obtain ⟨xs, ab, e, hg, ht⟩ := split_ok s h
        have hmem : (splitR s).1.getLast h2 ∈ xs.map NB.bytes := by
          have h7 := List.getLast_mem h2
          have h8 : (splitR s).1 = xs.map NB.bytes := by rw [e]
          exact h8 ▸ h7
        obtain ⟨q, hq, hqe⟩ := List.mem_map.1 hmem
        have hmay : name_May.f ((splitR s).1.getLast h2) = some 0 := by
          rw [← hqe]
          exact may_good (hg q hq) (fun hu => h3 (by rw [← hqe, hu]; rfl))
        have hend : Ev (fun k => carlinglaw24_NameLasts.j0 k (splitR s).1.dropLast ((splitR s).1.getLast h2) 0 (splitR s).1 false) true := by
          refine Ev.step (g' := fun k => (carlinglaw24_same.f k (splitR s).1 (splitR s).1).bind fun t275 => (if t275 = true then ((carlinglaw24_alive.f k).bind fun t277 => (some t277)) else none)) (fun k => ?_) (Ev.bind (h := fun k t275 => (if t275 = true then ((carlinglaw24_alive.f k).bind fun t277 => (some t277)) else none)) hsame (Ev.congr (fun k => if_pos rfl) alive_bind))
          rw [carlinglaw24_NameLasts.j0]
          rw [if_neg (by decide), if_pos rfl, if_pos (by rw [List.length_nil, List.length_dropLast]; omega), Option.bind_some, List.nil_append, if_pos (by rw [List.length_dropLast]; omega), hcat, hmay, Option.bind_some, if_pos rfl]
        refine Ev.congr (fun k => ?_) hend
        rw [if_pos h, if_neg (by omega), if_pos (by omega), if_pos (by omega), last_get _ h2, beq_eq_false_iff_ne.2 (fun e => h3 (up_iff.1 e))]
  · rw [lastR_bad h]
    refine Ev.congr (fun k => ?_) alive_bind
    rw [if_neg h, if_pos rfl, if_pos (by rfl)]
    exact if_pos (show (⟨#[]⟩ : ByteArray).toList = ([] : List UInt8) from toList_eq.2 rfl)
end Go.Proofs.YtkmdccbjgnedjaaDoor.ND
namespace Go.Proofs.YtkmdccbjgnedjaaDoor.Pure
open Go.Proofs.YtkmdccbjgnedjaaDoor.PN
theorem NameLasts (a0 : ByteArray) (_ : a0.size ≤ maxLen) : ∃ k, carlinglaw24_NameLasts.f k a0 = some true := (ND.lasts_ev a0).ex
end Go.Proofs.YtkmdccbjgnedjaaDoor.Pure
