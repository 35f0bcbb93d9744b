/- The plain law: parts that were split are joined to a path with the same parts; what is clean is cleaned to itself. -/
import Derived.Test.YtkmdccbjgnedjaaDoorNE
namespace Go.Proofs.YtkmdccbjgnedjaaDoor.ND
open Go.RowKit Go.Proofs.YtkmdccbjgnedjaaDoor.PN Go.Proofs.YtkmdccbjgnedjaaDoor.NB Go.Proofs.YtkmdccbjgnedjaaDoorW.PrintWords
set_option linter.unusedVariables false
set_option linter.unusedSimpArgs false
theorem map_L (xs : List (List UInt8)) : (xs.map NB.bytes).map L = xs := by
  rw [List.map_map]
  exact List.map_id' xs
theorem T_len : ∀ xs : List (List UInt8), xs.length ≤ T xs
  | [] => Nat.le_refl _
  | p :: r => by
    have := T_len r
    rw [T_cons, List.length_cons]
    omega
theorem small_of {xs : List (List UInt8)} (hg : ∀ p ∈ xs, Good p) (ht : T xs ≤ 201) : Small (xs.map NB.bytes) :=
  ⟨by have := T_len xs; rw [List.length_map]; omega, fun p hp => by
    obtain ⟨q, hq, rfl⟩ := List.mem_map.1 hp
    rw [size_L, L_bytes]
    have := (hg q hq).le
    omega⟩
theorem may_good {p : List UInt8} (h : Good p) (hu : p ≠ [46, 46]) : name_May.f (NB.bytes p) = some 0 := by
  unfold name_May.f
  rw [if_pos (by rw [size_L, L_bytes]; have := h.le; omega)]
  congr 1
  show NB.mayE p = 0
  unfold NB.mayE
  have h0 : p.contains 0 = false := by rw [Bool.eq_false_iff, Ne, List.contains_iff_mem]; exact h.nz
  have h1 : p.contains 47 = false := by rw [Bool.eq_false_iff, Ne, List.contains_iff_mem]; exact h.ns
  rw [if_neg (by rintro (e | e | e | e | e); exact h.ne e; exact h.nd e; exact hu e; rw [h0] at e; cases e; rw [h1] at e; cases e), if_neg (by have := h.le; omega)]
theorem bnd {ab : Bool} {xs : List (List UInt8)} (h : if ab = true then T xs ≤ 200 else T xs ≤ 201) : T xs ≤ 201 := by
  split at h <;> omega
theorem joinR_eq (xs : List (List UInt8)) (ab : Bool) : joinR (xs.map NB.bytes) ab = NB.bytes (joinL xs ab) := by
  unfold joinR
  rw [map_L]
/-! ### NameBack -/
theorem back_l0 (xs : List (List UInt8)) (ab : Bool) (hg : ∀ p ∈ xs, Good p) (ht : if ab = true then T xs ≤ 200 else T xs ≤ 201) : ∀ (n i : Nat), (xs.map NB.bytes).length - i = n → i ≤ (xs.map NB.bytes).length →
    Ev (fun k => carlinglaw24_NameBack.l0 k (xs.map NB.bytes) ab (xs.map NB.bytes) ((xs.map NB.bytes).length : Int) (i : Int)) true
  | 0, i, hn, hi => by
    have hsm := small_of hg (bnd ht)
    cases hx : xs with
    | nil =>
      subst hx
      refine Ev.step (fun k => ?_) alive_bind
      rw [carlinglaw24_NameBack.l0]
      simp only [List.map_nil, List.length_nil] at hn hi ⊢
      rw [if_neg (by omega), if_pos (show (((0 : Nat) : Int) = 0) from rfl)]
    | cons p r =>
      rw [← hx]
      have hne : xs ≠ [] := by rw [hx]; exact fun h => by cases h
      have hlen : (xs.map NB.bytes).length ≠ 0 := by rw [List.length_map]; exact fun h => hne (List.eq_nil_of_length_eq_zero h)
      have hs := name_split (joinR (xs.map NB.bytes) ab)
      rw [joinR_eq, split_join xs ab hne hg (joinL_len xs ab hne ht), ← joinR_eq] at hs
      have hsame := same_ev (xs.map NB.bytes) (xs.map NB.bytes) hsm.n
      rw [decide_eq_true rfl] at hsame
      refine Ev.step (g' := fun k => (name_Split.f k (joinR (xs.map NB.bytes) ab)).bind fun bt207 => ((carlinglaw24_same.f k bt207.1 (xs.map NB.bytes)).bind fun t212 => (if t212 = true then (if (bt207.2.1 == ab) = true then (if bt207.2.2 = 0 then ((carlinglaw24_alive.f k).bind fun t213 => (some t213)) else (none)) else (none)) else (none)))) (fun k => ?_) ?_
      · rw [carlinglaw24_NameBack.l0]
        rw [if_neg (by omega), if_neg (by omega), name_join _ ab hsm, Option.bind_some]
      · refine Ev.bind (h := fun k bt207 => ((carlinglaw24_same.f k bt207.1 (xs.map NB.bytes)).bind fun t212 => (if t212 = true then (if (bt207.2.1 == ab) = true then (if bt207.2.2 = 0 then ((carlinglaw24_alive.f k).bind fun t213 => (some t213)) else (none)) else (none)) else (none)))) hs ?_
        refine Ev.bind (h := fun k t212 => (if t212 = true then (if (ab == ab) = true then (if (0 : Int) = 0 then ((carlinglaw24_alive.f k).bind fun t213 => (some t213)) else (none)) else (none)) else (none))) hsame ?_
        refine Ev.congr (fun k => ?_) alive_bind
        rw [if_pos rfl, if_pos (beq_self_eq_true ab), if_pos rfl]
  | n + 1, i, hn, hi => by
    have hl : (xs.map NB.bytes).length = xs.length := List.length_map _
    have h1 : i < (xs.map NB.bytes).length := by omega
    have h2 : i < xs.length := by omega
    have hm := T_len xs
    have hb := bnd ht
    have hr : rdOf ByteArray.empty (xs.map NB.bytes) (i : Int) = NB.bytes xs[i] := by rw [rdOf_get _ _ _ h1, List.getElem_map]
    have hgi := hg xs[i] (List.getElem_mem h2)
    generalize xs[i] = p at hr hgi
    refine Ev.step (g' := fun k => carlinglaw24_NameBack.l0 k (xs.map NB.bytes) ab (xs.map NB.bytes) ((xs.map NB.bytes).length : Int) ((i + 1 : Nat) : Int)) (fun k => ?_) (back_l0 xs ab hg ht n (i + 1) (by omega) (by omega))
    rw [carlinglaw24_NameBack.l0]
    rw [if_pos (by omega), if_pos (by omega), if_pos (by omega), hr, w64n (by omega)]
    by_cases hu : p = [46, 46]
    · rw [if_pos (toList_eq.2 (by rw [hu]))]
    · rw [if_neg (fun h => hu (by have := toList_eq.1 h; exact congrArg L this)), may_good hgi hu, Option.bind_some, if_pos rfl]
theorem back_ev (s : ByteArray) : Ev (fun k => carlinglaw24_NameBack.f k s) true := by
  refine Ev.bind (h := fun k bt196 => (if bt196.2.2 = 0 then (carlinglaw24_NameBack.l0 k bt196.1 bt196.2.1 bt196.1 (bt196.1.length : Int) 0) else (if (bt196.1.length : Int) = 0 then (if bt196.2.1 = true then (none) else (if bt196.2.2 = 15 then ((carlinglaw24_alive.f k).bind fun t201 => (some t201)) else (if bt196.2.2 = 1 then ((carlinglaw24_alive.f k).bind fun t202 => (some t202)) else (none)))) else (none)))) (name_split s) ?_
  by_cases h : (splitR s).2.2 = 0
  · obtain ⟨xs, ab, e, hg, ht⟩ := split_ok s h
    rw [e]
    refine Ev.congr (fun k => ?_) (back_l0 xs ab hg ht _ 0 rfl (Nat.zero_le _))
    rw [if_pos rfl]
    rfl
  · obtain ⟨e1, e2, e3⟩ := split_err s h
    rw [e1, e2]
    refine Ev.congr (fun k => ?_) alive_bind
    rw [if_neg h, if_pos (by rfl), if_neg (by decide)]
    rcases e3 with e3 | e3
    · rw [if_pos e3]
    · rw [e3, if_neg (by decide), if_pos rfl]
end Go.Proofs.YtkmdccbjgnedjaaDoor.ND
namespace Go.Proofs.YtkmdccbjgnedjaaDoor.Pure
open Go.Proofs.YtkmdccbjgnedjaaDoor.PN
theorem NameBack (a0 : ByteArray) (_ : a0.size ≤ maxLen) : ∃ k, carlinglaw24_NameBack.f k a0 = some true := (ND.back_ev a0).ex
end Go.Proofs.YtkmdccbjgnedjaaDoor.Pure
