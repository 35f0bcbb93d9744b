/- The plain law: any path cleaned, and any parts joined, are the document's; what is clean is cleaned to itself. -/
import Derived.Test.YtkmdccbjgnedjaaDoorNF
namespace Go.Proofs.YtkmdccbjgnedjaaDoor.ND
open Go.RowKit Go.Proofs.YtkmdccbjgnedjaaDoor.PN Go.Proofs.YtkmdccbjgnedjaaDoor.NB Go.Proofs.YtkmdccbjgnedjaaDoorW.PrintWords
set_option linter.unusedVariables false
set_option linter.unusedSimpArgs false
/-- Ups stand at the head alone, and only where the path is not absolute. -/
def NF (ab : Bool) (out : List ByteArray) : Prop := if ab = true then up ∉ out else ∃ m rest, out = List.replicate m up ++ rest ∧ up ∉ rest
theorem last_of_mem {α : Type} {l : List α} {x : α} (h : l.getLast? = some x) : x ∈ l := List.mem_of_getLast? h
theorem nf_step {ab : Bool} {out : List ByteArray} {p : ByteArray} (h : NF ab out) : NF ab (stepN ab out p) := by
  unfold NF at h ⊢
  cases ab with
  | true =>
    rw [if_pos rfl] at h ⊢
    exact step_inv h
  | false =>
    rw [if_neg (by decide)] at h ⊢
    obtain ⟨m, rest, rfl, hr⟩ := h
    unfold stepN
    by_cases hp : p ≠ up
    · rw [if_pos hp]
      refine ⟨m, rest ++ [p], by rw [List.append_assoc], fun hm => ?_⟩
      rcases List.mem_append.1 hm with hm | hm
      · exact hr hm
      · exact hp (List.mem_singleton.1 hm).symm
    · rw [if_neg hp]
      have hpu : p = up := Classical.not_not.1 hp
      by_cases h0 : List.replicate m up ++ rest = []
      · rw [if_pos h0, if_neg (by decide), h0, hpu]
        exact ⟨1, [], rfl, fun h => by cases h⟩
      · rw [if_neg h0]
        cases rest with
        | nil =>
          rw [List.append_nil] at h0 ⊢
          have hm : m ≠ 0 := by rintro rfl; exact h0 rfl
          obtain ⟨j, rfl⟩ : ∃ j, m = j + 1 := ⟨m - 1, by omega⟩
          have hl : (List.replicate (j + 1) up).getLast? = some up := by rw [List.replicate_succ', List.getLast?_append]; rfl
          rw [if_pos hl, hpu]
          exact ⟨j + 1 + 1, [], by rw [List.append_nil, ← List.replicate_succ'], fun h => by cases h⟩
        | cons q r =>
          have hl : (List.replicate m up ++ q :: r).getLast? ≠ some up := fun e => by
            rw [List.getLast?_append, List.getLast?_eq_some_getLast (List.cons_ne_nil q r)] at e
            have e2 : (q :: r).getLast (List.cons_ne_nil q r) = up := by simpa using e
            exact hr (e2 ▸ List.getLast_mem (List.cons_ne_nil q r))
          rw [if_neg hl, List.dropLast_append_of_ne_nil (List.cons_ne_nil q r)]
          exact ⟨m, (q :: r).dropLast, rfl, fun h => hr (List.dropLast_subset _ h)⟩
theorem fold_plain (ab : Bool) : ∀ (rest acc : List ByteArray), up ∉ rest → rest.foldl (stepN ab) acc = acc ++ rest
  | [], acc, _ => (List.append_nil acc).symm
  | p :: r, acc, h => by
    have hp : p ≠ up := fun e => h (e ▸ List.mem_cons_self ..)
    rw [List.foldl_cons, fold_plain ab r _ (fun hm => h (List.mem_cons_of_mem _ hm))]
    unfold stepN
    rw [if_pos hp, List.append_assoc]
    rfl
theorem fold_ups : ∀ (m j : Nat), (List.replicate m up).foldl (stepN false) (List.replicate j up) = List.replicate (j + m) up
  | 0, j => rfl
  | m + 1, j => by
    have hs : stepN false (List.replicate j up) up = List.replicate (j + 1) up := by
      unfold stepN
      rw [if_neg (by simp)]
      cases j with
      | zero => rfl
      | succ j =>
        have hl : (List.replicate (j + 1) up).getLast? = some up := by rw [List.replicate_succ', List.getLast?_append]; rfl
        rw [if_neg (by simp), if_pos hl, ← List.replicate_succ']
    rw [List.replicate_succ, List.foldl_cons, hs, fold_ups m (j + 1)]
    congr 1
    omega
theorem nf_fix {ab : Bool} {out : List ByteArray} (h : NF ab out) : out.foldl (stepN ab) [] = out := by
  unfold NF at h
  cases ab with
  | true =>
    rw [if_pos rfl] at h
    exact fold_plain true out [] h
  | false =>
    rw [if_neg (by decide)] at h
    obtain ⟨m, rest, rfl, hr⟩ := h
    have := fold_ups m 0
    rw [List.foldl_append, show ([] : List ByteArray) = List.replicate 0 up from rfl, this, fold_plain false rest _ hr, Nat.zero_add]
theorem T_dropLast : ∀ ys : List (List UInt8), T ys.dropLast ≤ T ys
  | [] => Nat.le_refl _
  | [x] => Nat.zero_le _
  | x :: y :: r => by
    have ih := T_dropLast (y :: r)
    rw [List.dropLast_cons_cons, T_cons, T_cons x]
    omega
theorem step_good (ab : Bool) (ys : List (List UInt8)) (q : List UInt8) (hy : ∀ p ∈ ys, Good p) (hq : Good q) : ∃ zs, stepN ab (ys.map NB.bytes) (NB.bytes q) = zs.map NB.bytes ∧ (∀ p ∈ zs, Good p) ∧ T zs ≤ T ys + (q.length + 1) := by
  have app : ys.map NB.bytes ++ [NB.bytes q] = (ys ++ [q]).map NB.bytes := by rw [List.map_append]; rfl
  have hga : ∀ p ∈ ys ++ [q], Good p := fun p hp => by
    rcases List.mem_append.1 hp with hp | hp
    · exact hy p hp
    · rw [List.mem_singleton.1 hp]; exact hq
  have hta : T (ys ++ [q]) ≤ T ys + (q.length + 1) := by rw [T_append, T_cons]; exact Nat.le_refl _
  unfold stepN
  split
  · exact ⟨_, app, hga, hta⟩
  · split
    · split
      · exact ⟨ys, rfl, hy, by omega⟩
      · exact ⟨_, app, hga, hta⟩
    · split
      · exact ⟨_, app, hga, hta⟩
      · refine ⟨ys.dropLast, by rw [List.map_dropLast], fun p hp => hy p (List.dropLast_subset _ hp), ?_⟩
        have := T_dropLast ys
        omega
theorem fold_good (ab : Bool) : ∀ (xs ys : List (List UInt8)), (∀ p ∈ ys, Good p) → (∀ p ∈ xs, Good p) → NF ab (ys.map NB.bytes) →
    ∃ zs, (xs.map NB.bytes).foldl (stepN ab) (ys.map NB.bytes) = zs.map NB.bytes ∧ (∀ p ∈ zs, Good p) ∧ T zs ≤ T ys + T xs ∧ NF ab (zs.map NB.bytes)
  | [], ys, hy, _, hn => ⟨ys, rfl, hy, by omega, hn⟩
  | q :: r, ys, hy, hx, hn => by
    obtain ⟨zs, e, hz, ht⟩ := step_good ab ys q hy (hx q (List.mem_cons_self ..))
    have hn2 : NF ab (zs.map NB.bytes) := e ▸ nf_step hn
    obtain ⟨us, e2, hu, ht2, hn3⟩ := fold_good ab r zs hz (fun p hp => hx p (List.mem_cons_of_mem _ hp)) hn2
    refine ⟨us, ?_, hu, ?_, hn3⟩
    · rw [List.map_cons, List.foldl_cons, e, e2]
    · rw [T_cons]; omega
/-- What is clean is cleaned to itself. -/
theorem clean_clean (s : ByteArray) (h : (cleanR s).2 = 0) : cleanR (cleanR s).1 = ((cleanR s).1, 0) := by
  by_cases h0 : (splitR s).2.2 = 0
  · obtain ⟨xs, ab, e, hg, ht⟩ := split_ok s h0
    have hnf : NF ab (([] : List (List UInt8)).map NB.bytes) := by
      unfold NF
      cases ab with
      | true => rw [if_pos rfl]; exact fun h => by cases h
      | false => rw [if_neg (by decide)]; exact ⟨0, [], rfl, fun h => by cases h⟩
    obtain ⟨zs, ez, hz, htz, hn⟩ := fold_good ab xs [] (fun p hp => by cases hp) hg hnf
    have hc : cleanR s = finish ab (zs.map NB.bytes) := by
      unfold cleanR
      rw [e]
      show (if (0 : Int) = 0 then finish ab ((xs.map NB.bytes).foldl (stepN ab) []) else _) = _
      rw [if_pos rfl]
      congr 1
    rw [hc]
    cases hzs : zs with
    | nil =>
      cases ab with
      | true => decide +kernel
      | false => decide +kernel
    | cons q r =>
      rw [← hzs]
      have hne : zs ≠ [] := by rw [hzs]; exact fun h => by cases h
      have hfin : finish ab (zs.map NB.bytes) = (joinR (zs.map NB.bytes) ab, 0) := by
        unfold finish
        rw [if_neg (by rintro ⟨h, _⟩; exact hne (List.map_eq_nil_iff.1 h))]
      rw [hfin]
      show cleanR (joinR (zs.map NB.bytes) ab) = (joinR (zs.map NB.bytes) ab, 0)
      have hT0 : T ([] : List (List UInt8)) = 0 := rfl
      have htb : if ab = true then T zs ≤ 200 else T zs ≤ 201 := by
        split
        · rename_i hb; rw [if_pos hb] at ht; omega
        · rename_i hb; rw [if_neg hb] at ht; omega
      unfold cleanR
      rw [joinR_eq, split_join zs ab hne hz (joinL_len zs ab hne htb)]
      show (if (0 : Int) = 0 then finish ab ((zs.map NB.bytes).foldl (stepN ab) []) else _) = _
      rw [if_pos rfl, nf_fix hn, hfin, joinR_eq]
  · have : (cleanR s).2 = (splitR s).2.2 := by unfold cleanR; rw [if_neg h0]
    rw [this] at h
    exact absurd h h0
/-! ### NameCleans -/
theorem cleans_j2 (s : ByteArray) : Ev (fun k => carlinglaw24_NameCleans.j2 k (cleanR s).1 (cleanR s).2 false) true := by
  refine Ev.step (g' := fun k => (name_Clean.f k (cleanR s).1).bind fun bt190 => (if (cleanR s).2 = 0 then (if bt190.1.toList = (cleanR s).1.toList then (if bt190.2 = 0 then ((carlinglaw24_alive.f k).bind fun t192 => (some t192)) else (none)) else (none)) else ((carlinglaw24_alive.f k).bind fun t193 => (some t193)))) (fun k => ?_) ?_
  · rw [carlinglaw24_NameCleans.j2]
    rw [if_neg (by decide)]
  · refine Ev.bind (h := fun k bt190 => (if (cleanR s).2 = 0 then (if bt190.1.toList = (cleanR s).1.toList then (if bt190.2 = 0 then ((carlinglaw24_alive.f k).bind fun t192 => (some t192)) else (none)) else (none)) else ((carlinglaw24_alive.f k).bind fun t193 => (some t193)))) (name_clean (cleanR s).1) ?_
    by_cases h : (cleanR s).2 = 0
    · rw [clean_clean s h]
      refine Ev.congr (fun k => ?_) alive_bind
      rw [if_pos h, if_pos rfl, if_pos rfl]
    · refine Ev.congr (fun k => ?_) alive_bind
      rw [if_neg h]
theorem cleans_l0 (s : ByteArray) (l : List ByteArray) (ab : Bool) (hl : l.length ≤ 100) : ∀ (n i : Nat), l.length - i = n → i ≤ l.length → (∀ (j : Nat) (hj : j < l.length), j < i → l[j].size ≤ 300) →
    Ev (fun k => carlinglaw24_NameCleans.l0 k s l ab l (l.length : Int) (i : Int)) true
  | 0, i, hn, hi, hs => by
    have hsm : Small l := ⟨by omega, fun p hp => by
      obtain ⟨j, hj, rfl⟩ := List.mem_iff_getElem.1 hp
      exact hs j hj (by omega)⟩
    refine Ev.step (g' := fun k => (name_Clean.f k s).bind fun bt184 => ((carlingref24_Clean.f k s).bind fun bt186 => (if bt184.1.toList = bt186.1.toList then (if bt184.2 = bt186.2 then ((name_Join.f l ab).bind fun t188 => ((carlingref24_Join.f k l ab).bind fun t189 => (carlinglaw24_NameCleans.j2 k bt184.1 bt184.2 (t188.toList != t189.toList)))) else (carlinglaw24_NameCleans.j2 k bt184.1 bt184.2 true)) else (carlinglaw24_NameCleans.j2 k bt184.1 bt184.2 true)))) (fun k => ?_) ?_
    · rw [carlinglaw24_NameCleans.l0]
      rw [if_neg (by omega)]
    · refine Ev.bind (h := fun k bt184 => ((carlingref24_Clean.f k s).bind fun bt186 => (if bt184.1.toList = bt186.1.toList then (if bt184.2 = bt186.2 then ((name_Join.f l ab).bind fun t188 => ((carlingref24_Join.f k l ab).bind fun t189 => (carlinglaw24_NameCleans.j2 k bt184.1 bt184.2 (t188.toList != t189.toList)))) else (carlinglaw24_NameCleans.j2 k bt184.1 bt184.2 true)) else (carlinglaw24_NameCleans.j2 k bt184.1 bt184.2 true)))) (name_clean s) ?_
      refine Ev.bind (h := fun k bt186 => (if (cleanR s).1.toList = bt186.1.toList then (if (cleanR s).2 = bt186.2 then ((name_Join.f l ab).bind fun t188 => ((carlingref24_Join.f k l ab).bind fun t189 => (carlinglaw24_NameCleans.j2 k (cleanR s).1 (cleanR s).2 (t188.toList != t189.toList)))) else (carlinglaw24_NameCleans.j2 k (cleanR s).1 (cleanR s).2 true)) else (carlinglaw24_NameCleans.j2 k (cleanR s).1 (cleanR s).2 true))) (ref_clean s) ?_
      have hj := Ev.bind (h := fun k t189 => (carlinglaw24_NameCleans.j2 k (cleanR s).1 (cleanR s).2 ((joinR l ab).toList != t189.toList))) (ref_join l ab hsm) (by
        rw [bne_self_eq_false]
        exact cleans_j2 s)
      refine Ev.congr (fun k => ?_) hj
      rw [if_pos rfl, if_pos rfl, name_join l ab hsm, Option.bind_some]
  | n + 1, i, hn, hi, hs => by
    have h1 : i < l.length := by omega
    have hr : rdOf ByteArray.empty l (i : Int) = l[i] := rdOf_get _ _ _ h1
    by_cases h3 : 300 < l[i].size
    · refine Ev.step (fun k => ?_) alive_bind
      rw [carlinglaw24_NameCleans.l0]
      rw [if_pos (by omega), if_pos (by omega), if_pos (by omega), hr, if_pos (by omega)]
    · refine Ev.step (g' := fun k => carlinglaw24_NameCleans.l0 k s l ab l (l.length : Int) ((i + 1 : Nat) : Int)) (fun k => ?_) (cleans_l0 s l ab hl n (i + 1) (by omega) (by omega) (fun j hj hji => ?_))
      · rw [carlinglaw24_NameCleans.l0]
        rw [if_pos (by omega), if_pos (by omega), if_pos (by omega), hr, if_neg (by omega), w64n (by omega)]
      · by_cases hji2 : j < i
        · exact hs j hj hji2
        · obtain rfl : j = i := by omega
          omega
theorem cleans_ev (s : ByteArray) (l : List ByteArray) (ab : Bool) : Ev (fun k => carlinglaw24_NameCleans.f k s l ab) true := by
  have hal : Ev (fun k => carlinglaw24_NameCleans.j0 k s l ab true) true := by
    refine Ev.step (fun k => ?_) alive_bind
    rw [carlinglaw24_NameCleans.j0]
    rw [if_pos rfl]
  by_cases h1 : (s.size : Int) > 1000
  · refine Ev.congr (fun k => ?_) hal
    unfold carlinglaw24_NameCleans.f
    rw [if_pos h1]
  · by_cases h2 : (l.length : Int) > 100
    · refine Ev.congr (fun k => ?_) hal
      unfold carlinglaw24_NameCleans.f
      rw [if_neg h1, decide_eq_true h2]
    · have hl := cleans_l0 s l ab (by omega) l.length 0 (by omega) (Nat.zero_le _) (fun j hj h => absurd h (Nat.not_lt_zero _))
      refine Ev.congr (g' := fun k => carlinglaw24_NameCleans.j0 k s l ab false) (fun k => ?_) (Ev.step (fun k => ?_) hl)
      · unfold carlinglaw24_NameCleans.f
        rw [if_neg h1, decide_eq_false h2]
      · rw [carlinglaw24_NameCleans.j0]
        rw [if_neg (by decide)]
        rfl
end Go.Proofs.YtkmdccbjgnedjaaDoor.ND
namespace Go.Proofs.YtkmdccbjgnedjaaDoor.Pure
open Go.Proofs.YtkmdccbjgnedjaaDoor.PN
theorem NameCleans (a0 : ByteArray) (l1 : List ByteArray) (a2 : Bool) : ∃ k, carlinglaw24_NameCleans.f k a0 l1 a2 = some true := (ND.cleans_ev a0 l1 a2).ex
end Go.Proofs.YtkmdccbjgnedjaaDoor.Pure
