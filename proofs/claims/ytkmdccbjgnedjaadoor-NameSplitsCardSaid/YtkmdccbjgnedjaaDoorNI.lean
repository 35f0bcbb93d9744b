/- The plain law: whether a text is a name, any path's parts, and the last of these, are told as the document says. -/
import Derived.Test.YtkmdccbjgnedjaaDoorNH
namespace Go.Proofs.YtkmdccbjgnedjaaDoor.ND
open Go.RowKit Go.Proofs.YtkmdccbjgnedjaaDoor.PN Go.Proofs.YtkmdccbjgnedjaaDoor.NB Go.Proofs.YtkmdccbjgnedjaaDoorW.PrintWords
set_option linter.unusedVariables false
set_option linter.unusedSimpArgs false
/-! ### a name -/
def mayT (l : List UInt8) : Int := if l.contains 0 = true ∨ l.contains 47 = true then 1 else if l.length > 24 then 15 else 0
theorem may_l0 (s : ByteArray) (hs : s.size ≤ 1000) : ∀ (n i : Nat), s.size - i = n → i ≤ s.size → ((L s).take i).contains 0 = false → ((L s).take i).contains 47 = false → Ev (fun k => carlingref24_May.l0 k s (i : Int)) (mayT (L s))
  | 0, i, hn, hi, h0, h47 => by
    have ht : (L s).take i = L s := List.take_of_length_le (by rw [← size_L]; omega)
    rw [ht] at h0 h47
    have e : mayT (L s) = if (s.size : Int) > 24 then 15 else 0 := by
      unfold mayT
      rw [if_neg (by rintro (h | h); rw [h0] at h; cases h; rw [h47] at h; cases h), ← size_L]
      by_cases h : s.size > 24
      · rw [if_pos h, if_pos (by omega)]
      · rw [if_neg h, if_neg (by omega)]
    rw [e]
    refine Ev.step (g' := fun _ => some (if (s.size : Int) > 24 then 15 else 0)) (fun k => ?_) (Ev.now _)
    rw [carlingref24_May.l0]
    rw [if_neg (by omega)]
    by_cases h : (s.size : Int) > 24
    · rw [if_pos h, if_pos h]
    · rw [if_neg h, if_neg h]
  | n + 1, i, hn, hi, h0, h47 => by
    have h1 : i < s.size := by omega
    have h2 : i < (L s).length := by rw [← size_L]; exact h1
    have hbt := bt_get s i h1
    have bad : ((L s)[i] = 0 ∨ (L s)[i] = 47) → mayT (L s) = 1 := fun h => if_pos (by
      rcases h with h | h
      · exact .inl (List.contains_iff_mem.2 (h ▸ List.getElem_mem h2))
      · exact .inr (List.contains_iff_mem.2 (h ▸ List.getElem_mem h2)))
    by_cases e0 : (L s)[i] = 0
    · rw [bad (.inl e0)]
      refine Ev.step (g' := fun _ => some 1) (fun k => ?_) (Ev.now _)
      rw [carlingref24_May.l0]
      rw [if_pos (by omega), if_pos (by omega), hbt, if_pos (by rw [e0]; rfl)]
    · have n0 : ¬ (((L s)[i].toNat : Nat) : Int) = 0 := fun e => e0 (UInt8.toNat_inj.1 (by have : (0 : UInt8).toNat = 0 := rfl; omega))
      by_cases e1 : (L s)[i] = 47
      · rw [bad (.inr e1)]
        refine Ev.step (g' := fun _ => some 1) (fun k => ?_) (Ev.now _)
        rw [carlingref24_May.l0]
        rw [if_pos (by omega), if_pos (by omega), hbt, if_neg n0, if_pos (by rw [e1]; rfl)]
      · have n1 : ¬ (((L s)[i].toNat : Nat) : Int) = 47 := fun e => e1 (UInt8.toNat_inj.1 (by have : (47 : UInt8).toNat = 47 := rfl; omega))
        have nx : ∀ c : UInt8, (L s)[i] ≠ c → ((L s).take i).contains c = false → ((L s).take (i + 1)).contains c = false := fun c hc h => by
          rw [Bool.eq_false_iff, Ne, List.contains_iff_mem] at h ⊢
          intro hm
          rw [List.take_succ_eq_append_getElem h2, List.mem_append, List.mem_singleton] at hm
          rcases hm with hm | hm
          · exact h hm
          · exact hc hm.symm
        refine Ev.step (g' := fun k => carlingref24_May.l0 k s ((i + 1 : Nat) : Int)) (fun k => ?_) (may_l0 s hs n (i + 1) (by omega) (by omega) (nx 0 e0 h0) (nx 47 e1 h47))
        rw [carlingref24_May.l0]
        rw [if_pos (by omega), if_pos (by omega), hbt, if_neg n0, if_neg n1, w64n (by omega)]
theorem ref_may (s : ByteArray) (hs : s.size ≤ 1000) : Ev (fun k => carlingref24_May.f k s) (NB.mayE (L s)) := by
  have ht : Ev (fun k => carlingref24_May.j0 k s true) 1 := by
    refine Ev.step (g' := fun _ => some 1) (fun k => ?_) (Ev.now _)
    rw [carlingref24_May.j0]
    rw [if_pos rfl]
  by_cases h1 : L s = []
  · rw [NB.mayE_bad (.inl h1)]
    refine Ev.congr (fun k => ?_) ht
    unfold carlingref24_May.f
    rw [if_pos ((toL s).trans h1)]
  by_cases h2 : L s = [46]
  · rw [NB.mayE_bad (.inr (.inl h2))]
    refine Ev.congr (fun k => ?_) ht
    unfold carlingref24_May.f
    rw [if_neg (by rw [toL]; exact h1), if_pos ((toL s).trans h2)]
  by_cases h3 : L s = [46, 46]
  · rw [NB.mayE_bad (.inr (.inr (.inl h3)))]
    refine Ev.congr (fun k => ?_) ht
    unfold carlingref24_May.f
    rw [if_neg (by rw [toL]; exact h1), if_neg (by rw [toL]; exact h2), beq_iff_eq.2 ((toL s).trans h3)]
  · have e : NB.mayE (L s) = mayT (L s) := by
      unfold NB.mayE mayT
      by_cases h : (L s).contains 0 = true ∨ (L s).contains 47 = true
      · rw [if_pos (.inr (.inr (.inr h))), if_pos h]
      · rw [if_neg (by rintro (g | g | g | g); exact h1 g; exact h2 g; exact h3 g; exact h g), if_neg h]
    rw [e]
    refine Ev.congr (g' := fun k => carlingref24_May.j0 k s false) (fun k => ?_) (Ev.step (fun k => ?_) (may_l0 s hs s.size 0 (by omega) (Nat.zero_le _) rfl rfl))
    · unfold carlingref24_May.f
      rw [if_neg (by rw [toL]; exact h1), if_neg (by rw [toL]; exact h2), beq_eq_false_iff_ne.2 (by rw [toL]; exact h3)]
    · rw [carlingref24_May.j0]
      rw [if_neg (by decide)]
      rfl
/-! ### a slash at the end -/
theorem suffix_ev (s x : ByteArray) (h : s.size ≤ 1000) (hx : x.size ≤ 2) : strings_HasSuffix.f s x = some (if x.size ≤ s.size then ((L s).drop (s.size - x.size) == L x) else false) := by
  unfold strings_HasSuffix.f stringslite_HasSuffix.f
  by_cases hc : x.size ≤ s.size
  · have hw : wrap64 ((s.size : Int) - (x.size : Int)) = ((s.size - x.size : Nat) : Int) := by unfold wrap64; omega
    rw [if_pos (by omega), hw, if_pos (by omega), if_pos (by omega), Option.bind_some, if_pos hc, toL, toL]
    simp only [Int.toNat_natCast]
    have he : L (s.extract (s.size - x.size) s.size) = (L s).drop (s.size - x.size) := by
      refine (Lib.extract_data s _ _).trans ?_
      exact List.take_of_length_le (by rw [List.length_drop]; show (L s).length - _ ≤ _; rw [← size_L]; exact Nat.le_refl _)
    rw [he]
  · rw [if_neg (by omega), Option.bind_some, if_neg hc]
def slashB (s : ByteArray) : Bool := if L s = [46] then true else if 1 ≤ s.size ∧ (L s).drop (s.size - 1) = [47] then true else if 2 ≤ s.size then ((L s).drop (s.size - 2) == [47, 46]) else false
theorem name_slash (s : ByteArray) (h : s.size ≤ 1000) : name_Slash.f s = some (slashB s) := by
  unfold name_Slash.f slashB
  by_cases h1 : L s = [46]
  · rw [if_pos ((toL s).trans h1), if_pos h1]
  · rw [if_neg (by rw [toL]; exact h1), if_neg h1, suffix_ev s (⟨#[47]⟩ : ByteArray) h (by decide), suffix_ev s (⟨#[47, 46]⟩ : ByteArray) h (by decide), Option.bind_some, Option.bind_some]
    have s1 : (⟨#[47]⟩ : ByteArray).size = 1 := rfl
    have s2 : (⟨#[47, 46]⟩ : ByteArray).size = 2 := rfl
    have l1 : L (⟨#[47]⟩ : ByteArray) = [47] := rfl
    have l2 : L (⟨#[47, 46]⟩ : ByteArray) = [47, 46] := rfl
    rw [s1, s2, l1, l2]
    by_cases h2 : 1 ≤ s.size
    · rw [if_pos h2]
      by_cases h3 : (L s).drop (s.size - 1) = [47]
      · rw [if_pos (beq_iff_eq.2 h3), if_pos ⟨h2, h3⟩]
      · rw [if_neg (fun e => h3 (beq_iff_eq.1 e)), if_neg (show ¬ (1 ≤ s.size ∧ (L s).drop (s.size - 1) = [47]) from fun e => h3 e.2)]
    · rw [if_neg h2, if_neg (by decide), if_neg (show ¬ (1 ≤ s.size ∧ (L s).drop (s.size - 1) = [47]) from fun e => h2 e.1)]
theorem ref_slash (s : ByteArray) (h : s.size ≤ 1000) : carlingref24_Slash.f s = some (slashB s) := by
  unfold carlingref24_Slash.f slashB
  by_cases h1 : L s = [46]
  · rw [if_pos ((toL s).trans h1), if_pos h1]
  · rw [if_neg (by rw [toL]; exact h1), if_neg h1]
    have tail : (if (s.size : Int) > 1 then (if 0 ≤ (wrap64 ((s.size : Int) - 2)) then (if (wrap64 ((s.size : Int) - 2)) ≤ (s.size : Int) then (some ((s.extract ((wrap64 ((s.size : Int) - 2)) : Int).toNat s.size).toList == ([47, 46] : List UInt8))) else (none)) else (none)) else (some false)) = some (if 2 ≤ s.size then ((L s).drop (s.size - 2) == [47, 46]) else false) := by
      by_cases h4 : 2 ≤ s.size
      · have hw : wrap64 ((s.size : Int) - 2) = ((s.size - 2 : Nat) : Int) := by unfold wrap64; omega
        rw [if_pos (by omega), hw, if_pos (by omega), if_pos (by omega), if_pos h4, toL]
        simp only [Int.toNat_natCast]
        have he : L (s.extract (s.size - 2) s.size) = (L s).drop (s.size - 2) := by
          refine (Lib.extract_data s _ _).trans ?_
          exact List.take_of_length_le (by rw [List.length_drop]; show (L s).length - _ ≤ _; rw [← size_L]; exact Nat.le_refl _)
        rw [he]
      · rw [if_neg (by omega), if_neg h4]
    rw [tail]
    by_cases h2 : 1 ≤ s.size
    · have hw : wrap64 ((s.size : Int) - 1) = ((s.size - 1 : Nat) : Int) := by unfold wrap64; omega
      have hlt : s.size - 1 < s.size := by omega
      have hl2 : s.size - 1 < (L s).length := by rw [← size_L]; exact hlt
      have hd : (L s).drop (s.size - 1) = [(L s)[s.size - 1]] := by
        rw [List.drop_eq_getElem_cons hl2, List.drop_eq_nil_of_le (by rw [← size_L]; omega)]
      rw [if_pos (by omega), hw, if_pos (by omega), if_pos (by omega), bt_get s _ hlt, hd]
      by_cases h3 : (L s)[s.size - 1] = 47
      · rw [if_pos (by rw [h3]; rfl), if_pos ⟨h2, by rw [h3]⟩]
      · rw [if_neg (fun e => h3 (UInt8.toNat_inj.1 (by have : (47 : UInt8).toNat = 47 := rfl; omega))), if_neg (show ¬ (1 ≤ s.size ∧ [(L s)[s.size - 1]] = [47]) from fun e => h3 (List.cons.inj e.2).1)]
    · rw [if_neg (by omega), if_neg (show ¬ (1 ≤ s.size ∧ (L s).drop (s.size - 1) = [47]) from fun e => h2 e.1)]
/-! ### NameSplits -/
theorem splits_ev (s : ByteArray) : Ev (fun k => carlinglaw24_NameSplits.f k s) true := by
  by_cases h : (s.size : Int) > 1000
  · refine Ev.congr (fun k => ?_) alive_bind
    unfold carlinglaw24_NameSplits.f
    rw [if_pos h]
  · have hs : s.size ≤ 1000 := by omega
    have hsm := (split_small s).2
    have hll : (lastR s).1.length ≤ 201 := by
      unfold lastR
      split
      · split
        · exact Nat.zero_le _
        · split
          · exact Nat.zero_le _
          · show ((splitR s).1.dropLast).length ≤ 201
            rw [List.length_dropLast]; omega
      · exact Nat.zero_le _
    have hs1 := same_ev (splitR s).1 (splitR s).1 (by omega)
    have hs2 := same_ev (lastR s).1 (lastR s).1 (by omega)
    rw [decide_eq_true rfl] at hs1 hs2
    have hmay : name_May.f s = some (NB.mayE (L s)) := if_pos (by omega)
    have tail : Ev (fun k => (carlinglaw24_same.f k (lastR s).1 (lastR s).1).bind fun t252 => (if t252 = true then (if (lastR s).2.1.toList = (lastR s).2.1.toList then (if (lastR s).2.2 = (lastR s).2.2 then ((name_Slash.f s).bind fun t253 => ((carlingref24_Slash.f s).bind fun t254 => (if (t253 == t254) = true then ((carlinglaw24_alive.f k).bind fun t255 => (some t255)) else (none)))) else (none)) else (none)) else (none))) true := by
      refine Ev.bind (h := fun k t252 => (if t252 = true then (if (lastR s).2.1.toList = (lastR s).2.1.toList then (if (lastR s).2.2 = (lastR s).2.2 then ((name_Slash.f s).bind fun t253 => ((carlingref24_Slash.f s).bind fun t254 => (if (t253 == t254) = true then ((carlinglaw24_alive.f k).bind fun t255 => (some t255)) else (none)))) else (none)) else (none)) else (none))) hs2 (Ev.congr (fun k => ?_) alive_bind)
      rw [if_pos rfl, if_pos rfl, if_pos rfl, name_slash s hs, ref_slash s hs, Option.bind_some, Option.bind_some, if_pos (beq_self_eq_true _)]
    have mid : Ev (fun k => (carlinglaw24_same.f k (splitR s).1 (splitR s).1).bind fun t251 => (if t251 = true then (if ((splitR s).2.1 == (splitR s).2.1) = true then (if (splitR s).2.2 = (splitR s).2.2 then ((carlinglaw24_same.f k (lastR s).1 (lastR s).1).bind fun t252 => (if t252 = true then (if (lastR s).2.1.toList = (lastR s).2.1.toList then (if (lastR s).2.2 = (lastR s).2.2 then ((name_Slash.f s).bind fun t253 => ((carlingref24_Slash.f s).bind fun t254 => (if (t253 == t254) = true then ((carlinglaw24_alive.f k).bind fun t255 => (some t255)) else (none)))) else (none)) else (none)) else (none))) else (none)) else (none)) else (none))) true := by
      refine Ev.bind (h := fun k t251 => (if t251 = true then (if ((splitR s).2.1 == (splitR s).2.1) = true then (if (splitR s).2.2 = (splitR s).2.2 then ((carlinglaw24_same.f k (lastR s).1 (lastR s).1).bind fun t252 => (if t252 = true then (if (lastR s).2.1.toList = (lastR s).2.1.toList then (if (lastR s).2.2 = (lastR s).2.2 then ((name_Slash.f s).bind fun t253 => ((carlingref24_Slash.f s).bind fun t254 => (if (t253 == t254) = true then ((carlinglaw24_alive.f k).bind fun t255 => (some t255)) else (none)))) else (none)) else (none)) else (none))) else (none)) else (none)) else (none))) hs1 (Ev.congr (fun k => ?_) tail)
      rw [if_pos rfl, if_pos (beq_self_eq_true _), if_pos rfl]
    have may : Ev (fun k => (carlingref24_May.f k s).bind fun t250 => (if NB.mayE (L s) = t250 then ((carlinglaw24_same.f k (splitR s).1 (splitR s).1).bind fun t251 => (if t251 = true then (if ((splitR s).2.1 == (splitR s).2.1) = true then (if (splitR s).2.2 = (splitR s).2.2 then ((carlinglaw24_same.f k (lastR s).1 (lastR s).1).bind fun t252 => (if t252 = true then (if (lastR s).2.1.toList = (lastR s).2.1.toList then (if (lastR s).2.2 = (lastR s).2.2 then ((name_Slash.f s).bind fun t253 => ((carlingref24_Slash.f s).bind fun t254 => (if (t253 == t254) = true then ((carlinglaw24_alive.f k).bind fun t255 => (some t255)) else (none)))) else (none)) else (none)) else (none))) else (none)) else (none)) else (none))) else (none))) true := by
      refine Ev.bind (h := fun k t250 => (if NB.mayE (L s) = t250 then _ else (none))) (ref_may s hs) (Ev.congr (fun k => ?_) mid)
      rw [if_pos rfl]
    have step : ∀ k, carlinglaw24_NameSplits.f k s = ((name_Split.f k s).bind fun bt229 => ((carlingref24_Split.f k s).bind fun bt234 => ((name_Last.f k s).bind fun bt239 => ((carlingref24_Last.f k s).bind fun bt244 => ((name_May.f s).bind fun t249 => ((carlingref24_May.f k s).bind fun t250 => (if t249 = t250 then ((carlinglaw24_same.f k bt229.1 bt234.1).bind fun t251 => (if t251 = true then (if (bt229.2.1 == bt234.2.1) = true then (if bt229.2.2 = bt234.2.2 then ((carlinglaw24_same.f k bt239.1 bt244.1).bind fun t252 => (if t252 = true then (if bt239.2.1.toList = bt244.2.1.toList then (if bt239.2.2 = bt244.2.2 then ((name_Slash.f s).bind fun t253 => ((carlingref24_Slash.f s).bind fun t254 => (if (t253 == t254) = true then ((carlinglaw24_alive.f k).bind fun t255 => (some t255)) else (none)))) else (none)) else (none)) else (none))) else (none)) else (none)) else (none))) else (none)))))))) := fun k => by
      unfold carlinglaw24_NameSplits.f
      rw [if_neg h]
    obtain ⟨K0, k0⟩ := name_split s
    obtain ⟨K1, k1⟩ := ref_split s
    obtain ⟨K2, k2⟩ := name_last s
    obtain ⟨K3, k3⟩ := ref_last s
    obtain ⟨K4, k4⟩ := may
    refine ⟨K0 + K1 + K2 + K3 + K4, fun k hk => ?_⟩
    have q4 := k4 k (by omega)
    show carlinglaw24_NameSplits.f k s = some true
    have q0 : name_Split.f k s = some (splitR s) := k0 k (by omega)
    have q1 : carlingref24_Split.f k s = some (splitR s) := k1 k (by omega)
    have q2 : name_Last.f k s = some (lastR s) := k2 k (by omega)
    have q3 : carlingref24_Last.f k s = some (lastR s) := k3 k (by omega)
    rw [step k, q0, Option.bind_some, q1, Option.bind_some, q2, Option.bind_some, q3, Option.bind_some, hmay, Option.bind_some]
    exact q4
end Go.Proofs.YtkmdccbjgnedjaaDoor.ND
namespace Go.Proofs.YtkmdccbjgnedjaaDoor.Pure
open Go.Proofs.YtkmdccbjgnedjaaDoor.PN
theorem NameSplits (a0 : ByteArray) (_ : a0.size ≤ maxLen) : ∃ k, carlinglaw24_NameSplits.f k a0 = some true := (ND.splits_ev a0).ex
end Go.Proofs.YtkmdccbjgnedjaaDoor.Pure
