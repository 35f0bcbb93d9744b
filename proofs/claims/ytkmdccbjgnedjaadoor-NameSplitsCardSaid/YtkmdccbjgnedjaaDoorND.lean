/- The plain law: what the functions compute, told over lists of bytes. -/
import Derived.Test.YtkmdccbjgnedjaaDoorPNx5
import Derived.Lib.SmallJoins
namespace Go.Proofs.YtkmdccbjgnedjaaDoor.ND
open Go.RowKit Go.Proofs.YtkmdccbjgnedjaaDoor.PN Go.Proofs.YtkmdccbjgnedjaaDoor.NB Go.Proofs.YtkmdccbjgnedjaaDoorW.PrintWords
set_option linter.unusedVariables false
set_option linter.unusedSimpArgs false
/-! ### enough rounds -/
def Ev {α : Type} (g : Nat → Option α) (r : α) : Prop := ∃ K, ∀ k, K ≤ k → g k = some r
section
variable {α β : Type} {g g' : Nat → Option α} {r : α}
theorem Ev.mk (K : Nat) (h : ∀ k, K ≤ k → g k = some r) : Ev g r := ⟨K, h⟩
theorem Ev.now (r : α) : Ev (fun _ => some r) r := ⟨0, fun _ _ => rfl⟩
theorem Ev.congr (h : ∀ k, g k = g' k) (e : Ev g' r) : Ev g r := by
  obtain ⟨K, hK⟩ := e
  exact ⟨K, fun k hk => (h k).trans (hK k hk)⟩
theorem Ev.step (h : ∀ k, g (k + 1) = g' k) (e : Ev g' r) : Ev g r := by
  obtain ⟨K, hK⟩ := e
  refine ⟨K + 1, fun k hk => ?_⟩
  obtain ⟨j, rfl⟩ : ∃ j, k = j + 1 := ⟨k - 1, by omega⟩
  exact (h j).trans (hK j (by omega))
theorem Ev.bind {h : Nat → α → Option β} {s : β} (e : Ev g r) (f : Ev (fun k => h k r) s) : Ev (fun k => (g k).bind (h k)) s := by
  obtain ⟨K, hK⟩ := e
  obtain ⟨K2, hK2⟩ := f
  refine ⟨K + K2, fun k hk => ?_⟩
  show (g k).bind (h k) = some s
  rw [hK k (by omega), Option.bind_some]
  exact hK2 k (by omega)
theorem Ev.of_some {o : Option α} (h : o = some r) : Ev (fun _ => o) r := ⟨0, fun _ _ => h⟩
theorem Ev.ex (e : Ev g r) : ∃ k, g k = some r := by
  obtain ⟨K, hK⟩ := e
  exact ⟨K, hK K (Nat.le_refl _)⟩
end
/-! ### texts as lists -/
abbrev L (s : ByteArray) : List UInt8 := s.data.toList
theorem toL (s : ByteArray) : s.toList = L s := Lib.toList_data s
theorem L_inj {x y : ByteArray} (h : L x = L y) : x = y := (bytes_data x).symm.trans ((congrArg NB.bytes h).trans (bytes_data y))
theorem L_append (x y : ByteArray) : L (x ++ y) = L x ++ L y := by simp [L, ByteArray.data_append]
theorem size_L (x : ByteArray) : x.size = (L x).length := Lib.size_eq x
theorem toList_iff {x y : ByteArray} : x.toList = y.toList ↔ x = y := by
  rw [toL, toL]
  exact ⟨L_inj, fun h => by rw [h]⟩
theorem toList_eq {x : ByteArray} {l : List UInt8} : x.toList = l ↔ x = NB.bytes l := by
  rw [toL]
  exact ⟨fun h => L_inj h, fun h => by rw [h]; rfl⟩
theorem L_bytes (l : List UInt8) : L (NB.bytes l) = l := rfl
theorem w64n {n : Nat} (h : n ≤ 1000000) : wrap64 ((n : Int) + 1) = ((n + 1 : Nat) : Int) := by unfold wrap64; omega
theorem w64p {n : Nat} (h : n ≤ 1000000) : wrap64 ((n : Int) - 1) = (n : Int) - 1 := by unfold wrap64; omega
theorem rdOf_get {α : Type} (d : α) (xs : List α) (i : Nat) (h : i < xs.length) : rdOf d xs (i : Int) = xs[i] := by
  unfold rdOf
  rw [Int.toNat_natCast, List.getD_eq_getElem?_getD, List.getElem?_eq_getElem h]
  rfl
theorem bt_get (s : ByteArray) (i : Nat) (h : i < s.size) : bt s (i : Int) = ((L s)[i]'(by rw [← size_L]; exact h)).toNat := by
  unfold bt
  rw [dif_pos (by simpa using h)]
  rfl
/-! ### two lists of texts -/
theorem same_l0 (a b : List ByteArray) (hab : a.length = b.length) (hl : a.length ≤ 1000) : ∀ (n i : Nat), a.length - i = n → i ≤ a.length → Ev (fun k => carlinglaw24_same.l0 k a b (a.length : Int) (i : Int)) (decide (a.drop i = b.drop i))
  | 0, i, hn, hi => by
    refine Ev.step (g' := fun _ => some (decide (a.drop i = b.drop i))) (fun k => ?_) (Ev.now _)
    unfold carlinglaw24_same.l0
    rw [if_neg (by omega), List.drop_eq_nil_of_le (by omega), List.drop_eq_nil_of_le (by omega)]
    rfl
  | n + 1, i, hn, hi => by
    have h1 : i < a.length := by omega
    have h2 : i < b.length := by omega
    have hd : (a.drop i = b.drop i) ↔ (a[i] = b[i] ∧ a.drop (i + 1) = b.drop (i + 1)) := by
      rw [List.drop_eq_getElem_cons h1, List.drop_eq_getElem_cons h2, List.cons.injEq]
    by_cases he : a[i] = b[i]
    · refine Ev.step (g' := fun k => carlinglaw24_same.l0 k a b (a.length : Int) ((i + 1 : Nat) : Int)) (fun k => ?_) ?_
      · rw [carlinglaw24_same.l0]
        rw [if_pos (by omega), if_pos (by omega), if_pos (by omega), if_pos (by omega), rdOf_get _ _ _ h1, rdOf_get _ _ _ h2, if_pos (toList_iff.2 he), w64n (by omega)]
      · have := same_l0 a b hab hl n (i + 1) (by omega) (by omega)
        rw [show decide (a.drop i = b.drop i) = decide (a.drop (i + 1) = b.drop (i + 1)) from decide_eq_decide.2 (by rw [hd]; exact ⟨fun h => h.2, fun h => ⟨he, h⟩⟩)]
        exact this
    · refine Ev.step (g' := fun _ => some (decide (a.drop i = b.drop i))) (fun k => ?_) (Ev.now _)
      rw [carlinglaw24_same.l0]
      rw [if_pos (by omega), if_pos (by omega), if_pos (by omega), if_pos (by omega), rdOf_get _ _ _ h1, rdOf_get _ _ _ h2, if_neg (fun h => he (toList_iff.1 h)), decide_eq_false (fun h => he (hd.1 h).1)]
theorem same_ev (a b : List ByteArray) (hl : a.length ≤ 1000) : Ev (fun k => carlinglaw24_same.f k a b) (decide (a = b)) := by
  by_cases h : a.length = b.length
  · refine Ev.congr (g' := fun k => carlinglaw24_same.l0 k a b (a.length : Int) ((0 : Nat) : Int)) (fun k => ?_) ?_
    · unfold carlinglaw24_same.f
      rw [if_pos (by omega)]
      rfl
    · have := same_l0 a b h hl a.length 0 (by omega) (by omega)
      simpa using this
  · refine Ev.congr (fun k => ?_) (Ev.now _)
    unfold carlinglaw24_same.f
    rw [if_neg (by omega), decide_eq_false (fun e => h (by rw [e]))]
/-! ### cut -/
/-- What is cut goes on behind what was cut. -/
def glue (done : List ByteArray) (cur : ByteArray) (c : List (List UInt8)) : List ByteArray := match c with | [] => done | h :: r => done ++ (cur ++ NB.bytes h) :: r.map NB.bytes
theorem cuts_cons (l : List UInt8) : ∃ h r, cuts l = h :: r := by
  have := cuts_pos l
  cases hc : cuts l with
  | nil => rw [hc] at this; exact absurd this (by simp)
  | cons h r => exact ⟨h, r, rfl⟩
theorem append_empty (x : ByteArray) : x ++ NB.bytes [] = x := L_inj (by rw [L_append]; exact List.append_nil _)
theorem empty_append (x : ByteArray) : NB.bytes [] ++ x = x := L_inj (by rw [L_append]; rfl)
theorem cut_l0 (s : ByteArray) (hs : s.size ≤ 1000) : ∀ (n i : Nat) (done : List ByteArray) (cur : ByteArray), s.size - i = n → i ≤ s.size → done.length ≤ i → cur.size ≤ i →
    Ev (fun k => carlingref24_cut.l0 k s (done ++ [cur]) (i : Int)) (glue done cur (cuts ((L s).drop i)))
  | 0, i, done, cur, hn, hi, hd, hc => by
    refine Ev.step (g' := fun _ => some (done ++ [cur])) (fun k => ?_) ?_
    · rw [carlingref24_cut.l0]
      rw [if_neg (by omega)]
    · have : (L s).drop i = [] := List.drop_eq_nil_of_le (by rw [← size_L]; omega)
      rw [this]
      simp only [cuts, glue, List.map_nil, append_empty]
      exact Ev.now _
  | n + 1, i, done, cur, hn, hi, hd, hc => by
    have h1 : i < s.size := by omega
    have h2 : i < (L s).length := by rw [← size_L]; exact h1
    obtain ⟨b, hb⟩ : ∃ b, b = (L s)[i] := ⟨_, rfl⟩
    have hdr : (L s).drop i = b :: (L s).drop (i + 1) := by rw [hb]; exact List.drop_eq_getElem_cons h2
    have hbt : bt s (i : Int) = (b.toNat : Int) := by rw [bt_get s i h1, hb]
    rw [hdr]
    obtain ⟨h, r, hcr⟩ := cuts_cons ((L s).drop (i + 1))
    by_cases h47 : b = 47
    · have hcu : cuts (b :: (L s).drop (i + 1)) = [] :: h :: r := by unfold cuts; rw [if_pos h47, hcr]
      refine Ev.step (g' := fun k => carlingref24_cut.l0 k s ((done ++ [cur]) ++ [NB.bytes []]) ((i + 1 : Nat) : Int)) (fun k => ?_) ?_
      · rw [carlingref24_cut.l0]
        rw [if_pos (by omega), if_pos (by omega), hbt, if_pos (by rw [h47]; rfl), if_pos (by simp only [List.length_append, List.length_cons, List.length_nil]; omega), w64n (by omega)]
        rfl
      · have ih := cut_l0 s hs n (i + 1) (done ++ [cur]) (NB.bytes []) (by omega) (by omega) (by simp only [List.length_append, List.length_cons, List.length_nil]; omega) (Nat.zero_le _)
        rw [hcr] at ih
        rw [hcu]
        simp only [glue, List.map_cons, append_empty, empty_append, List.append_assoc, List.singleton_append] at ih ⊢
        exact ih
    · have hcu : cuts (b :: (L s).drop (i + 1)) = (b :: h) :: r := by unfold cuts; rw [if_neg h47, hcr]
      have hex : s.extract i (i + 1) = NB.bytes [b] := L_inj (by
        refine (Lib.extract_data s i (i + 1)).trans ?_
        show ((L s).drop i).take (i + 1 - i) = [b]
        rw [hdr, show i + 1 - i = 1 by omega]
        rfl)
      have hlast : rdOf ByteArray.empty (done ++ [cur]) ((done.length : Nat) : Int) = cur := by
        rw [rdOf_get _ _ _ (by simp)]
        simp
      have hset : (done ++ [cur]).set done.length (cur ++ NB.bytes [b]) = done ++ [cur ++ NB.bytes [b]] := by
        rw [List.set_append_right _ _ (Nat.le_refl _)]
        simp
      have hlen : (wrap64 (((done ++ [cur]).length : Int) - 1)) = ((done.length : Nat) : Int) := by
        rw [List.length_append, List.length_singleton, w64p (by omega)]
        omega
      refine Ev.step (g' := fun k => carlingref24_cut.l0 k s (done ++ [cur ++ NB.bytes [b]]) ((i + 1 : Nat) : Int)) (fun k => ?_) ?_
      · rw [carlingref24_cut.l0]
        rw [if_pos (by omega), if_pos (by omega), hbt, if_neg (by intro e; apply h47; apply UInt8.toNat_inj.1; have : ((47 : UInt8).toNat : Int) = 47 := rfl; omega), hlen, if_pos (by omega), if_pos (by simp only [List.length_append, List.length_cons, List.length_nil]; omega), w64n (by omega), if_pos (by omega), if_pos (by omega), hlast]
        simp only [Int.toNat_natCast]
        rw [hex, hset, if_pos (by show cur.size + 1 ≤ _; omega)]
      · have ih := cut_l0 s hs n (i + 1) done (cur ++ NB.bytes [b]) (by omega) (by omega) (by omega) (by rw [size_L, L_append, List.length_append, ← size_L]; show cur.size + 1 ≤ _; omega)
        rw [hcr] at ih
        rw [hcu]
        simp only [glue] at ih ⊢
        rw [show cur ++ NB.bytes (b :: h) = cur ++ NB.bytes [b] ++ NB.bytes h from L_inj (by rw [L_append, L_append, L_append, L_bytes, L_bytes, L_bytes, List.append_assoc]; rfl)]
        exact ih
theorem cut_ev (s : ByteArray) (hs : s.size ≤ 1000) : Ev (fun k => carlingref24_cut.f k s) ((cuts (L s)).map NB.bytes) := by
  have h := cut_l0 s hs s.size 0 [] (NB.bytes []) (by omega) (by omega) (Nat.le_refl _) (Nat.le_refl _)
  obtain ⟨c, r, hc⟩ := cuts_cons (L s)
  rw [List.drop_zero, hc] at h
  simp only [glue, empty_append, List.nil_append] at h
  rw [hc]
  exact h
/-! ### split -/
def keep (p : List UInt8) : Bool := !(p == []) && !(p == [46])
def keepB (p : ByteArray) : Bool := keep (L p)
def parts (l : List UInt8) : List (List UInt8) := (cuts l).filter keep
def long (P : List ByteArray) : Bool := P.any (fun p => decide (24 < p.size))
/-- What a path is split to. -/
def splitR (s : ByteArray) : List ByteArray × Bool × Int := if 200 < (L s).length then ([], false, 15) else if L s = [] ∨ (L s).contains 0 = true then ([], false, 1) else if (cuts (L s)).any (fun p => decide (24 < p.length)) = true then ([], false, 15) else ((parts (L s)).map NB.bytes, (L s).head? == some 47, 0)
theorem keepB_cases (p : ByteArray) : keepB p = if p.toList = ([] : List UInt8) then false else if p.toList = ([46] : List UInt8) then false else true := by
  rw [toL]
  unfold keepB keep
  by_cases h1 : L p = []
  · rw [if_pos h1, beq_iff_eq.2 h1]; rfl
  · rw [if_neg h1, beq_eq_false_iff_ne.2 h1]
    by_cases h2 : L p = [46]
    · rw [if_pos h2, beq_iff_eq.2 h2]; rfl
    · rw [if_neg h2, beq_eq_false_iff_ne.2 h2]; rfl
theorem pre_ev (s : ByteArray) : strings_HasPrefix.f s (⟨#[47]⟩ : ByteArray) = some ((L s).head? == some 47) := by
  unfold strings_HasPrefix.f stringslite_HasPrefix.f
  have h1 : ((⟨#[47]⟩ : ByteArray).size : Int) = 1 := rfl
  have h2 : (⟨#[47]⟩ : ByteArray).toList = [47] := toL _
  rw [h1, h2]
  by_cases h : (s.size : Int) ≥ 1
  · rw [if_pos h, if_pos (by decide), if_pos h, Option.bind_some, toL]
    have he : L (s.extract 0 ((1 : Int) : Int).toNat) = (L s).take 1 := by
      refine (Lib.extract_data s 0 1).trans ?_
      rfl
    rw [he]
    cases hl : L s with
    | nil => rw [size_L, hl] at h; exact absurd h (by decide)
    | cons b r =>
      simp only [List.take_succ_cons, List.take_zero, List.head?_cons]
      congr 1
      rw [Bool.eq_iff_iff, beq_iff_eq, beq_iff_eq]
      simp
  · rw [if_neg h, Option.bind_some]
    have : L s = [] := List.eq_nil_of_length_eq_zero (by rw [← size_L]; omega)
    rw [this]
    rfl
theorem nsplit_l0 (s : ByteArray) (P : List ByteArray) (hP : P.length ≤ 1001) : ∀ (n i : Nat) (acc : List ByteArray), P.length - i = n → i ≤ P.length → acc.length ≤ i →
    Ev (fun k => name_Split.l0 k s acc P (P.length : Int) (i : Int)) (if long (P.drop i) = true then ([], false, 15) else (acc ++ (P.drop i).filter keepB, (L s).head? == some 47, 0))
  | 0, i, acc, hn, hi, ha => by
    refine Ev.step (g' := fun _ => some (acc, (L s).head? == some 47, 0)) (fun k => ?_) ?_
    · rw [name_Split.l0]
      rw [if_neg (by omega), pre_ev, Option.bind_some]
    · rw [List.drop_eq_nil_of_le (by omega)]
      simp only [long, List.any_nil, List.filter_nil, List.append_nil]
      exact Ev.now _
  | n + 1, i, acc, hn, hi, ha => by
    have h1 : i < P.length := by omega
    have hd := List.drop_eq_getElem_cons h1
    rw [hd]
    generalize hp : P[i] = p at hd
    have hr : rdOf ByteArray.empty P (i : Int) = p := (rdOf_get _ _ _ h1).trans hp
    by_cases h24 : 24 < p.size
    · refine Ev.step (g' := fun _ => some ([], false, 15)) (fun k => ?_) ?_
      · rw [name_Split.l0]
        rw [if_pos (by omega), if_pos (by omega), if_pos (by omega), hr, if_pos (by omega)]
      · rw [if_pos (by simp [long, h24])]
        exact Ev.now _
    · have hlong : long (p :: P.drop (i + 1)) = long (P.drop (i + 1)) := by simp [long, h24]
      rw [hlong, List.filter_cons]
      have hk := keepB_cases p
      by_cases e1 : p.toList = ([] : List UInt8)
      · rw [if_pos e1] at hk
        rw [hk]
        refine Ev.step (g' := fun k => name_Split.l0 k s acc P (P.length : Int) ((i + 1 : Nat) : Int)) (fun k => ?_) (nsplit_l0 s P hP n (i + 1) acc (by omega) (by omega) (by omega))
        rw [name_Split.l0]
        rw [if_pos (by omega), if_pos (by omega), if_pos (by omega), hr, if_neg (by omega), if_pos e1, w64n (by omega)]
      · rw [if_neg e1] at hk
        by_cases e2 : p.toList = ([46] : List UInt8)
        · rw [if_pos e2] at hk
          rw [hk]
          refine Ev.step (g' := fun k => name_Split.l0 k s acc P (P.length : Int) ((i + 1 : Nat) : Int)) (fun k => ?_) (nsplit_l0 s P hP n (i + 1) acc (by omega) (by omega) (by omega))
          rw [name_Split.l0]
          rw [if_pos (by omega), if_pos (by omega), if_pos (by omega), hr, if_neg (by omega), if_neg e1, if_pos e2, w64n (by omega)]
        · rw [if_neg e2] at hk
          rw [hk]
          have ih := nsplit_l0 s P hP n (i + 1) (acc ++ [p]) (by omega) (by omega) (by simp only [List.length_append, List.length_cons, List.length_nil]; omega)
          rw [List.append_assoc, List.singleton_append] at ih
          refine Ev.step (g' := fun k => name_Split.l0 k s (acc ++ [p]) P (P.length : Int) ((i + 1 : Nat) : Int)) (fun k => ?_) ih
          rw [name_Split.l0]
          rw [if_pos (by omega), if_pos (by omega), if_pos (by omega), hr, if_neg (by omega), if_neg e1, if_neg e2, if_pos (by omega), w64n (by omega)]
theorem bt_head (s : ByteArray) (hs : 0 < s.size) : (bt s 0 == 47) = ((L s).head? == some 47) := by
  cases hl : L s with
  | nil => rw [size_L, hl] at hs; exact absurd hs (by decide)
  | cons b r =>
    have e : s = NB.bytes (b :: r) := L_inj hl
    have hb : bt s 0 = (b.toNat : Int) := by
      subst e
      unfold bt
      rw [dif_pos (by exact Nat.succ_pos _)]
      rfl
    rw [hb, List.head?_cons, Bool.eq_iff_iff, beq_iff_eq, beq_iff_eq]
    constructor
    · intro h
      rw [show b = 47 from UInt8.toNat_inj.1 (by have : (47 : UInt8).toNat = 47 := rfl; omega)]
    · intro h
      injection h with h
      rw [h]; rfl
theorem rsplit_l1 (s : ByteArray) (hs : 0 < s.size) (P : List ByteArray) (hP : P.length ≤ 1001) : ∀ (n i : Nat) (acc : List ByteArray), P.length - i = n → i ≤ P.length → acc.length ≤ i →
    Ev (fun k => carlingref24_Split.l1 k s acc P (i : Int)) (if long (P.drop i) = true then ([], false, 15) else (acc ++ (P.drop i).filter keepB, (L s).head? == some 47, 0))
  | 0, i, acc, hn, hi, ha => by
    refine Ev.step (g' := fun _ => some (acc, (L s).head? == some 47, 0)) (fun k => ?_) ?_
    · rw [carlingref24_Split.l1]
      rw [if_neg (by omega), if_pos (by omega)]
      rw [bt_head s hs]
    · rw [List.drop_eq_nil_of_le (by omega)]
      simp only [long, List.any_nil, List.filter_nil, List.append_nil]
      exact Ev.now _
  | n + 1, i, acc, hn, hi, ha => by
    have h1 : i < P.length := by omega
    have hd := List.drop_eq_getElem_cons h1
    rw [hd]
    generalize hp : P[i] = p at hd
    have hr : rdOf ByteArray.empty P (i : Int) = p := (rdOf_get _ _ _ h1).trans hp
    by_cases h24 : 24 < p.size
    · refine Ev.step (g' := fun _ => some ([], false, 15)) (fun k => ?_) ?_
      · rw [carlingref24_Split.l1]
        rw [if_pos (by omega), if_pos (by omega), hr, if_pos (by omega)]
      · rw [if_pos (by simp [long, h24])]
        exact Ev.now _
    · have hlong : long (p :: P.drop (i + 1)) = long (P.drop (i + 1)) := by simp [long, h24]
      rw [hlong, List.filter_cons]
      have hk := keepB_cases p
      by_cases e1 : p.toList = ([] : List UInt8)
      · rw [if_pos e1] at hk
        rw [hk]
        refine Ev.step (g' := fun k => carlingref24_Split.l1 k s acc P ((i + 1 : Nat) : Int)) (fun k => ?_) (rsplit_l1 s hs P hP n (i + 1) acc (by omega) (by omega) (by omega))
        rw [carlingref24_Split.l1]
        rw [if_pos (by omega), if_pos (by omega), hr, if_neg (by omega), if_pos e1, w64n (by omega)]
      · rw [if_neg e1] at hk
        by_cases e2 : p.toList = ([46] : List UInt8)
        · rw [if_pos e2] at hk
          rw [hk]
          refine Ev.step (g' := fun k => carlingref24_Split.l1 k s acc P ((i + 1 : Nat) : Int)) (fun k => ?_) (rsplit_l1 s hs P hP n (i + 1) acc (by omega) (by omega) (by omega))
          rw [carlingref24_Split.l1]
          rw [if_pos (by omega), if_pos (by omega), hr, if_neg (by omega), if_neg e1, if_pos e2, w64n (by omega)]
        · rw [if_neg e2] at hk
          rw [hk]
          have ih := rsplit_l1 s hs P hP n (i + 1) (acc ++ [p]) (by omega) (by omega) (by simp only [List.length_append, List.length_cons, List.length_nil]; omega)
          rw [List.append_assoc, List.singleton_append] at ih
          refine Ev.step (g' := fun k => carlingref24_Split.l1 k s (acc ++ [p]) P ((i + 1 : Nat) : Int)) (fun k => ?_) ih
          rw [carlingref24_Split.l1]
          rw [if_pos (by omega), if_pos (by omega), hr, if_neg (by omega), if_neg e1, if_neg e2, if_pos (by omega), w64n (by omega)]
theorem long_map (c : List (List UInt8)) : long (c.map NB.bytes) = c.any (fun p => decide (24 < p.length)) := by
  unfold long
  rw [List.any_map]
  congr 1
theorem filter_map (c : List (List UInt8)) : (c.map NB.bytes).filter keepB = (c.filter keep).map NB.bytes := by
  rw [List.filter_map]
  congr 1
theorem name_split (s : ByteArray) : Ev (fun k => name_Split.f k s) (splitR s) := by
  unfold splitR
  by_cases h1 : 200 < (L s).length
  · rw [if_pos h1]
    refine Ev.congr (fun k => ?_) (Ev.now _)
    unfold name_Split.f
    rw [if_pos (by rw [size_L]; omega)]
  · rw [if_neg h1]
    by_cases h2 : L s = []
    · rw [if_pos (.inl h2)]
      refine Ev.congr (fun k => ?_) (Ev.now _)
      unfold name_Split.f
      rw [if_neg (by rw [size_L]; omega), if_pos ((toL s).trans h2)]
    · have hcon : strings_Contains.f s (⟨#[0]⟩ : ByteArray) = some ((L s).contains 0) := rfl
      by_cases h3 : (L s).contains 0 = true
      · rw [if_pos (.inr h3)]
        refine Ev.congr (fun k => ?_) (Ev.now _)
        unfold name_Split.f
        rw [if_neg (by rw [size_L]; omega), if_neg (by rw [toL]; exact h2), hcon, Option.bind_some, if_pos h3]
      · rw [if_neg (by rintro (h | h); exact h2 h; exact h3 h)]
        have hsp : strings_Split.f s (⟨#[47]⟩ : ByteArray) = some ((cuts (L s)).map NB.bytes) := by
          unfold strings_Split.f
          rw [if_pos ⟨rfl, by rw [size_L]; omega⟩]
        have hlen : ((cuts (L s)).map NB.bytes).length ≤ 1001 := by
          rw [List.length_map]
          have := cuts_len (L s)
          omega
        have h := nsplit_l0 s ((cuts (L s)).map NB.bytes) hlen _ 0 [] rfl (Nat.zero_le _) (Nat.le_refl _)
        rw [List.drop_zero, long_map, filter_map, List.nil_append] at h
        refine Ev.congr (fun k => ?_) h
        unfold name_Split.f
        rw [if_neg (by rw [size_L]; omega), if_neg (by rw [toL]; exact h2), hcon, Option.bind_some, if_neg h3, hsp, Option.bind_some]
        rfl
theorem rsplit_l0 (s : ByteArray) (hs : s.size ≤ 1000) (r : List ByteArray × Bool × Int) (hz : (L s).contains 0 = false → Ev (fun k => (carlingref24_cut.f k s).bind fun t => carlingref24_Split.l1 k s [] t 0) r) (hz2 : (L s).contains 0 = true → r = ([], false, 1)) : ∀ (n i : Nat), s.size - i = n → i ≤ s.size → ((L s).take i).contains 0 = false → Ev (fun k => carlingref24_Split.l0 k s (i : Int)) r
  | 0, i, hn, hi, hc => by
    have : (L s).take i = L s := List.take_of_length_le (by rw [← size_L]; omega)
    rw [this] at hc
    refine Ev.step (fun k => ?_) (hz hc)
    rw [carlingref24_Split.l0]
    rw [if_neg (by omega)]
  | n + 1, i, hn, hi, hc => by
    have h1 : i < s.size := by omega
    have h2 : i < (L s).length := by rw [← size_L]; exact h1
    have hbt := bt_get s i h1
    by_cases h0 : (L s)[i] = 0
    · have hcon : (L s).contains 0 = true := by rw [List.contains_iff_mem, ← h0]; exact List.getElem_mem h2
      rw [hz2 hcon]
      refine Ev.step (g' := fun _ => some ([], false, 1)) (fun k => ?_) (Ev.now _)
      rw [carlingref24_Split.l0]
      rw [if_pos (by omega), if_pos (by omega), hbt, if_pos (by rw [h0]; rfl)]
    · refine Ev.step (g' := fun k => carlingref24_Split.l0 k s ((i + 1 : Nat) : Int)) (fun k => ?_) (rsplit_l0 s hs r hz hz2 n (i + 1) (by omega) (by omega) ?_)
      · rw [carlingref24_Split.l0]
        rw [if_pos (by omega), if_pos (by omega), hbt, if_neg (by intro e; apply h0; apply UInt8.toNat_inj.1; have : (0 : UInt8).toNat = 0 := rfl; omega), w64n (by omega)]
      · rw [Bool.eq_false_iff, Ne, List.contains_iff_mem] at hc ⊢
        intro hm
        rw [List.take_succ_eq_append_getElem h2, List.mem_append, List.mem_singleton] at hm
        rcases hm with hm | hm
        · exact hc hm
        · exact h0 hm.symm
theorem ref_split (s : ByteArray) : Ev (fun k => carlingref24_Split.f k s) (splitR s) := by
  by_cases h1 : 200 < (L s).length
  · unfold splitR
    rw [if_pos h1]
    refine Ev.congr (fun k => ?_) (Ev.now _)
    unfold carlingref24_Split.f
    rw [if_pos (by rw [size_L]; omega)]
  · by_cases h2 : L s = []
    · unfold splitR
      rw [if_neg h1, if_pos (.inl h2)]
      refine Ev.congr (fun k => ?_) (Ev.now _)
      unfold carlingref24_Split.f
      rw [if_neg (by rw [size_L]; omega), if_pos ((toL s).trans h2)]
    · have hs : s.size ≤ 1000 := by rw [size_L]; omega
      have hp : 0 < s.size := by rw [size_L]; exact List.length_pos_iff.2 h2
      have h := rsplit_l0 s hs (splitR s) (fun h3 => ?_) (fun h3 => ?_) s.size 0 (by omega) (by omega) rfl
      · refine Ev.congr (fun k => ?_) h
        unfold carlingref24_Split.f
        rw [if_neg (by rw [size_L]; omega), if_neg (by rw [toL]; exact h2)]
        rfl
      · unfold splitR
        rw [if_neg h1, if_neg (by rintro (h | h); exact h2 h; rw [h3] at h; cases h)]
        have hlen : ((cuts (L s)).map NB.bytes).length ≤ 1001 := by
          rw [List.length_map]
          have := cuts_len (L s)
          omega
        have h := rsplit_l1 s hp ((cuts (L s)).map NB.bytes) hlen _ 0 [] rfl (Nat.zero_le _) (Nat.le_refl _)
        rw [List.drop_zero, long_map, filter_map, List.nil_append] at h
        exact Ev.bind (h := fun k t => carlingref24_Split.l1 k s [] t 0) (cut_ev s hs) h
      · unfold splitR
        rw [if_neg h1, if_pos (.inr h3)]
/-! ### join -/
def J (xs : List (List UInt8)) : List UInt8 := Lib.join xs [47]
def joinL (xs : List (List UInt8)) (ab : Bool) : List UInt8 := if ab = true then 47 :: J xs else J xs
def joinR (l : List ByteArray) (ab : Bool) : ByteArray := NB.bytes (joinL (l.map L) ab)
/-- Few, and short ones. -/
structure Small (l : List ByteArray) : Prop where
  n : l.length ≤ 1000
  s : ∀ p ∈ l, p.size ≤ 300
theorem tail_len : ∀ r : List (List UInt8), (∀ p ∈ r, p.length ≤ 300) → (Lib.joinTail [47] r).length ≤ r.length * 301
  | [], _ => by simp [Lib.joinTail]
  | y :: r, h => by
    have ih := tail_len r (fun p hp => h p (List.mem_cons_of_mem _ hp))
    have hy := h y (List.mem_cons_self ..)
    simp only [Lib.joinTail, List.map_cons, List.flatten_cons, List.length_append, List.length_cons, List.length_nil] at ih ⊢
    omega
theorem J_len (xs : List (List UInt8)) (h : ∀ p ∈ xs, p.length ≤ 300) : (J xs).length ≤ xs.length * 301 := by
  unfold J
  cases xs with
  | nil => simp [Lib.join_nil]
  | cons x r =>
    rw [Lib.join_cons]
    have h1 := tail_len r (fun p hp => h p (List.mem_cons_of_mem _ hp))
    have h2 := h x (List.mem_cons_self ..)
    simp only [List.length_append, List.length_cons]
    omega
theorem Small.map {l : List ByteArray} (h : Small l) : ∀ p ∈ l.map L, p.length ≤ 300 := fun p hp => by
  obtain ⟨q, hq, rfl⟩ := List.mem_map.1 hp
  rw [← size_L]
  exact h.s q hq
theorem name_join (l : List ByteArray) (ab : Bool) (h : Small l) : name_Join.f l ab = some (joinR l ab) := by
  have hj := J_len (l.map L) h.map
  rw [List.length_map] at hj
  have hn := h.n
  unfold name_Join.f
  have hs : strings_Join.f l (⟨#[47]⟩ : ByteArray) = some (NB.bytes (J (l.map L))) := by
    unfold strings_Join.f
    rw [if_pos ⟨by omega, by show (J (l.map L)).length ≤ _; omega⟩]
    rfl
  rw [hs, Option.bind_some]
  unfold joinR joinL
  cases ab with
  | true =>
    rw [if_pos rfl, if_pos rfl, if_pos (by rw [size_L, L_bytes]; omega)]
    congr 1
  | false => rw [if_neg (by decide), if_neg (by decide)]
theorem rjoin_tail (l : List ByteArray) (h : Small l) : ∀ (n i : Nat) (x : ByteArray), l.length - i = n → 0 < i → i ≤ l.length → x.size ≤ 1 + i * 301 →
    Ev (fun k => carlingref24_Join.l0 k l x (i : Int)) (x ++ NB.bytes (Lib.joinTail [47] ((l.drop i).map L)))
  | 0, i, x, hn, h0, hi, hx => by
    refine Ev.step (g' := fun _ => some x) (fun k => ?_) ?_
    · rw [carlingref24_Join.l0]
      rw [if_neg (by omega)]
    · rw [List.drop_eq_nil_of_le (by omega)]
      show Ev (fun _ => some x) (x ++ NB.bytes [])
      rw [append_empty]
      exact Ev.now _
  | n + 1, i, x, hn, h0, hi, hx => by
    have h1 : i < l.length := by omega
    have hd := List.drop_eq_getElem_cons h1
    have hp := h.s l[i] (List.getElem_mem h1)
    have hln := h.n
    rw [hd]
    generalize he : l[i] = p at hd hp
    have hr : rdOf ByteArray.empty l (i : Int) = p := (rdOf_get _ _ _ h1).trans he
    have hs1 : (x ++ (⟨#[47]⟩ : ByteArray)).size = x.size + 1 := by rw [size_L, L_append, List.length_append, ← size_L]; rfl
    have hs2 : ((x ++ (⟨#[47]⟩ : ByteArray)) ++ p).size = x.size + 1 + p.size := by rw [size_L, L_append, List.length_append, ← size_L, ← size_L, hs1]
    have ih := rjoin_tail l h n (i + 1) ((x ++ (⟨#[47]⟩ : ByteArray)) ++ p) (by omega) (by omega) (by omega) (by omega)
    refine Ev.step (g' := fun k => carlingref24_Join.l0 k l ((x ++ (⟨#[47]⟩ : ByteArray)) ++ p) ((i + 1 : Nat) : Int)) (fun k => ?_) ?_
    · rw [carlingref24_Join.l0]
      rw [if_pos (by omega), if_pos (by omega), if_pos (by omega), if_pos (by omega), hr, hs1, if_pos (by omega), w64n (by omega)]
    · have e : x ++ NB.bytes (Lib.joinTail [47] ((p :: l.drop (i + 1)).map L)) = (x ++ (⟨#[47]⟩ : ByteArray)) ++ p ++ NB.bytes (Lib.joinTail [47] ((l.drop (i + 1)).map L)) := L_inj (by
        rw [L_append, L_append, L_append, L_append, L_bytes, L_bytes]
        simp only [Lib.joinTail, List.map_cons, List.flatten_cons, List.append_assoc])
      rw [e]
      exact ih
theorem rjoin_l0 (l : List ByteArray) (h : Small l) (x : ByteArray) (hx : x.size ≤ 1) : Ev (fun k => carlingref24_Join.l0 k l x 0) (x ++ NB.bytes (J (l.map L))) := by
  cases l with
  | nil =>
    refine Ev.step (g' := fun _ => some x) (fun k => ?_) ?_
    · rw [carlingref24_Join.l0]
      rw [if_neg (by decide)]
    · show Ev (fun _ => some x) (x ++ NB.bytes [])
      rw [append_empty]
      exact Ev.now _
  | cons p r =>
    have hp := h.s p (List.mem_cons_self ..)
    have hs1 : (x ++ p).size = x.size + p.size := by rw [size_L, L_append, List.length_append, ← size_L, ← size_L]
    have ht := rjoin_tail (p :: r) h r.length 1 (x ++ p) (by simp) (by decide) (by simp) (by omega)
    refine Ev.step (g' := fun k => carlingref24_Join.l0 k (p :: r) (x ++ p) ((1 : Nat) : Int)) (fun k => ?_) ?_
    · have hr : rdOf ByteArray.empty (p :: r) 0 = p := rfl
      have hw : wrap64 (0 + 1) = ((1 : Nat) : Int) := by unfold wrap64; rfl
      rw [carlingref24_Join.l0]
      rw [if_pos (by simp only [List.length_cons]; omega), if_neg (by decide), if_pos (by decide), hr, if_pos (by omega), hw]
    · have e : x ++ NB.bytes (J ((p :: r).map L)) = (x ++ p) ++ NB.bytes (Lib.joinTail [47] (((p :: r).drop 1).map L)) := L_inj (by
        rw [L_append, L_append, L_append, L_bytes, L_bytes]
        unfold J
        rw [List.map_cons, Lib.join_cons, List.append_assoc]
        rfl)
      rw [e]
      exact ht
theorem ref_join (l : List ByteArray) (ab : Bool) (h : Small l) : Ev (fun k => carlingref24_Join.f k l ab) (joinR l ab) := by
  cases ab with
  | true =>
    have h1 := rjoin_l0 l h (⟨#[47]⟩ : ByteArray) (by decide)
    have e : joinR l true = (⟨#[47]⟩ : ByteArray) ++ NB.bytes (J (l.map L)) := L_inj (by rw [L_append]; rfl)
    rw [e]
    refine Ev.congr (g' := fun k => carlingref24_Join.j0 k l (⟨#[47]⟩ : ByteArray)) (fun k => ?_) (Ev.step (fun k => ?_) h1)
    · unfold carlingref24_Join.f
      rw [if_pos rfl]
    · rw [carlingref24_Join.j0]
  | false =>
    have h1 := rjoin_l0 l h (⟨#[]⟩ : ByteArray) (by decide)
    have e : joinR l false = (⟨#[]⟩ : ByteArray) ++ NB.bytes (J (l.map L)) := L_inj (by rw [L_append]; rfl)
    rw [e]
    refine Ev.congr (g' := fun k => carlingref24_Join.j0 k l (⟨#[]⟩ : ByteArray)) (fun k => ?_) (Ev.step (fun k => ?_) h1)
    · unfold carlingref24_Join.f
      rw [if_neg (by decide)]
    · rw [carlingref24_Join.j0]
/-! ### clean -/
def up : ByteArray := ⟨#[46, 46]⟩
theorem up_iff {x : ByteArray} : x.toList = ([46, 46] : List UInt8) ↔ x = up := toList_eq
/-- One part more. -/
def stepN (ab : Bool) (out : List ByteArray) (p : ByteArray) : List ByteArray :=
  if p ≠ up then out ++ [p] else if out = [] then (if ab = true then out else out ++ [p]) else if out.getLast? = some up then out ++ [p] else out.dropLast
def finish (ab : Bool) (out : List ByteArray) : ByteArray × Int := if out = [] ∧ ab = false then ((⟨#[46]⟩ : ByteArray), 0) else (joinR out ab, 0)
theorem step_mem {ab : Bool} {out : List ByteArray} {p x : ByteArray} (h : x ∈ stepN ab out p) : x ∈ out ∨ x = p := by
  unfold stepN at h
  repeat' split at h
  all_goals first
    | exact .inl h
    | exact .inl (List.dropLast_subset _ h)
    | (rcases List.mem_append.1 h with h | h; exact .inl h; exact .inr (List.mem_singleton.1 h))
theorem step_len {ab : Bool} {out : List ByteArray} {p : ByteArray} : (stepN ab out p).length ≤ out.length + 1 := by
  unfold stepN
  repeat' split
  all_goals simp
  all_goals omega
theorem step_inv {out : List ByteArray} {p : ByteArray} (h : up ∉ out) : up ∉ stepN true out p := by
  unfold stepN
  split
  · rename_i hp
    intro hm
    rcases List.mem_append.1 hm with hm | hm
    · exact h hm
    · exact hp (List.mem_singleton.1 hm).symm
  · split
    · rw [if_pos rfl]; exact h
    · split
      · rename_i hl
        exact absurd (List.mem_of_getLast? hl) h
      · exact fun hm => h (List.dropLast_subset _ hm)
theorem last_get (out : List ByteArray) (h : out ≠ []) : rdOf ByteArray.empty out ((out.length : Int) - 1) = out.getLast h := by
  have hp := List.length_pos_iff.2 h
  rw [show (out.length : Int) - 1 = ((out.length - 1 : Nat) : Int) by omega, rdOf_get _ _ _ (by omega), List.getLast_eq_getElem]
theorem last_up (out : List ByteArray) (h : out ≠ []) : (out.getLast? = some up) ↔ out.getLast h = up := by
  rw [List.getLast?_eq_some_getLast h, Option.some.injEq]
theorem take_last (out : List ByteArray) : out.take (((out.length : Int) - 1).toNat) = out.dropLast := by
  rw [List.dropLast_eq_take]
  congr 1
  omega
theorem fin_ev {ab : Bool} {out : List ByteArray} (h : Small out) (g : Nat → Option ByteArray) (hg : Ev g (joinR out ab)) : Ev (fun k => if (out.length : Int) = 0 then (if ab = true then ((g k).bind fun t => some (t, (0 : Int))) else some ((⟨#[46]⟩ : ByteArray), 0)) else ((g k).bind fun t => some (t, (0 : Int)))) (finish ab out) := by
  have hb := Ev.bind (h := fun _ t => some (t, (0 : Int))) hg (Ev.now _)
  unfold finish
  cases out with
  | nil =>
    cases ab with
    | true =>
      rw [if_neg (by rintro ⟨_, h⟩; cases h)]
      exact hb
    | false =>
      rw [if_pos ⟨rfl, rfl⟩]
      exact Ev.now _
  | cons p r =>
    rw [if_neg (by rintro ⟨h, _⟩; cases h)]
    refine Ev.congr (fun k => ?_) hb
    rw [if_neg (by simp only [List.length_cons]; omega)]
theorem nclean_l0 (ab : Bool) (P : List ByteArray) (hP : Small P) : ∀ (n i : Nat) (out : List ByteArray), P.length - i = n → i ≤ P.length → out.length ≤ i → (∀ x ∈ out, x.size ≤ 300) →
    Ev (fun k => name_Clean.l0 k ab out P (P.length : Int) (i : Int)) (finish ab ((P.drop i).foldl (stepN ab) out))
  | 0, i, out, hn, hi, ho, hs => by
    have hPn := hP.n
    rw [List.drop_eq_nil_of_le (by omega), List.foldl_nil]
    have hsm : Small out := ⟨by omega, hs⟩
    refine Ev.step (fun k => ?_) (fin_ev hsm (fun _ => name_Join.f out ab) (Ev.of_some (name_join out ab hsm)))
    rw [name_Clean.l0]
    rw [if_neg (by omega)]
  | n + 1, i, out, hn, hi, ho, hs => by
    have hPn := hP.n
    have h1 : i < P.length := by omega
    have hd := List.drop_eq_getElem_cons h1
    have hps := hP.s P[i] (List.getElem_mem h1)
    rw [hd, List.foldl_cons]
    generalize he : P[i] = p at hd hps
    have hr : rdOf ByteArray.empty P (i : Int) = p := (rdOf_get _ _ _ h1).trans he
    have ih := nclean_l0 ab P hP n (i + 1) (stepN ab out p) (by omega) (by omega) (Nat.le_trans step_len (by omega)) (fun x hx => by rcases step_mem hx with h | rfl; exact hs x h; exact hps)
    by_cases hup : p = up
    · by_cases h0 : out = []
      · subst h0
        by_cases hab : ab = true
        · have e : stepN ab [] p = [] := by unfold stepN; rw [if_neg (by simpa using hup), if_pos rfl, if_pos hab]
          rw [e] at ih ⊢
          refine Ev.step (g' := fun k => name_Clean.j1 k ab [] p 0 P (P.length : Int) (i : Int) false) (fun k => ?_) (Ev.step (fun k => ?_) ih)
          · rw [name_Clean.l0]
            rw [if_pos (by omega), if_pos (by omega), if_pos (by omega), hr, if_pos (up_iff.2 hup), if_pos (by rfl), if_pos hab, if_neg (by decide)]
            rfl
          · rw [name_Clean.j1]
            rw [if_neg (by decide), if_neg (by decide), w64n (by omega)]
        · have e : stepN ab [] p = [] ++ [p] := by unfold stepN; rw [if_neg (by simpa using hup), if_pos rfl, if_neg hab]
          rw [e] at ih ⊢
          refine Ev.step (g' := fun k => name_Clean.j1 k ab [] p 0 P (P.length : Int) (i : Int) true) (fun k => ?_) (Ev.step (fun k => ?_) ih)
          · rw [name_Clean.l0]
            rw [if_pos (by omega), if_pos (by omega), if_pos (by omega), hr, if_pos (up_iff.2 hup), if_pos (by rfl), if_neg hab]
            rfl
          · rw [name_Clean.j1]
            rw [if_pos rfl, if_pos (by decide), w64n (by omega)]
      · have hpos := List.length_pos_iff.2 h0
        have hw : wrap64 ((out.length : Int) - 1) = (out.length : Int) - 1 := w64p (by omega)
        by_cases hl : out.getLast h0 = up
        · have e : stepN ab out p = out ++ [p] := by unfold stepN; rw [if_neg (by simpa using hup), if_neg h0, if_pos ((last_up out h0).2 hl)]
          rw [e] at ih ⊢
          refine Ev.step (g' := fun k => name_Clean.j1 k ab out p (out.length : Int) P (P.length : Int) (i : Int) true) (fun k => ?_) (Ev.step (fun k => ?_) ih)
          · rw [name_Clean.l0]
            rw [if_pos (by omega), if_pos (by omega), if_pos (by omega), hr, if_pos (up_iff.2 hup), if_neg (by omega), if_pos (by omega), hw, if_pos (by omega), if_pos (by omega), last_get out h0, beq_iff_eq.2 (up_iff.2 hl)]
          · rw [name_Clean.j1]
            rw [if_pos rfl, if_pos (by omega), w64n (by omega)]
        · have e : stepN ab out p = out.dropLast := by unfold stepN; rw [if_neg (by simpa using hup), if_neg h0, if_neg (fun h => hl ((last_up out h0).1 h))]
          rw [e] at ih ⊢
          refine Ev.step (g' := fun k => name_Clean.j1 k ab out p (out.length : Int) P (P.length : Int) (i : Int) false) (fun k => ?_) (Ev.step (fun k => ?_) ih)
          · rw [name_Clean.l0]
            rw [if_pos (by omega), if_pos (by omega), if_pos (by omega), hr, if_pos (up_iff.2 hup), if_neg (by omega), if_pos (by omega), hw, if_pos (by omega), if_pos (by omega), last_get out h0, beq_eq_false_iff_ne.2 (fun h => hl (up_iff.1 h))]
          · rw [name_Clean.j1]
            rw [if_neg (by decide), if_pos (by omega), hw, if_pos (by omega), if_pos (by omega), take_last, w64n (by omega)]
    · have e : stepN ab out p = out ++ [p] := by unfold stepN; rw [if_pos hup]
      rw [e] at ih ⊢
      refine Ev.step (g' := fun k => name_Clean.j1 k ab out p (out.length : Int) P (P.length : Int) (i : Int) true) (fun k => ?_) (Ev.step (fun k => ?_) ih)
      · rw [name_Clean.l0]
        rw [if_pos (by omega), if_pos (by omega), if_pos (by omega), hr, if_neg (fun h => hup (up_iff.1 h))]
      · rw [name_Clean.j1]
        rw [if_pos rfl, if_pos (by omega), w64n (by omega)]
theorem rclean_l0 (ab : Bool) (P : List ByteArray) (hP : Small P) : ∀ (n i : Nat) (out : List ByteArray), P.length - i = n → i ≤ P.length → out.length ≤ i → (∀ x ∈ out, x.size ≤ 300) → (ab = true → up ∉ out) →
    Ev (fun k => carlingref24_Clean.l0 k P ab out (i : Int)) (finish ab ((P.drop i).foldl (stepN ab) out))
  | 0, i, out, hn, hi, ho, hs, hv => by
    have hPn := hP.n
    rw [List.drop_eq_nil_of_le (by omega), List.foldl_nil]
    have hsm : Small out := ⟨by omega, hs⟩
    refine Ev.step (fun k => ?_) (fin_ev hsm (fun k => carlingref24_Join.f k out ab) (ref_join out ab hsm))
    rw [carlingref24_Clean.l0]
    rw [if_neg (by omega)]
  | n + 1, i, out, hn, hi, ho, hs, hv => by
    have hPn := hP.n
    have h1 : i < P.length := by omega
    have hd := List.drop_eq_getElem_cons h1
    have hps := hP.s P[i] (List.getElem_mem h1)
    rw [hd, List.foldl_cons]
    generalize he : P[i] = p at hd hps
    have hr : rdOf ByteArray.empty P (i : Int) = p := (rdOf_get _ _ _ h1).trans he
    have ih := rclean_l0 ab P hP n (i + 1) (stepN ab out p) (by omega) (by omega) (Nat.le_trans step_len (by omega)) (fun x hx => by rcases step_mem hx with h | rfl; exact hs x h; exact hps) (fun h => by subst h; exact step_inv (hv rfl))
    by_cases hup : p = up
    · by_cases h0 : out = []
      · subst h0
        by_cases hab : ab = true
        · have e : stepN ab [] p = [] := by unfold stepN; rw [if_neg (by simpa using hup), if_pos rfl, if_pos hab]
          rw [e] at ih ⊢
          refine Ev.step (g' := fun k => carlingref24_Clean.j1 k P ab [] (i : Int) 0 false) (fun k => ?_) (Ev.step (fun k => ?_) ih)
          · rw [carlingref24_Clean.l0]
            rw [if_pos (by omega), if_pos (by omega), hr, if_pos (up_iff.2 hup), if_neg (by decide)]
            rfl
          · rw [carlingref24_Clean.j1]
            rw [if_neg (by decide), if_pos hab, w64n (by omega)]
        · have e : stepN ab [] p = [] ++ [p] := by unfold stepN; rw [if_neg (by simpa using hup), if_pos rfl, if_neg hab]
          rw [e] at ih ⊢
          refine Ev.step (g' := fun k => carlingref24_Clean.j1 k P ab [] (i : Int) 0 false) (fun k => ?_) (Ev.step (fun k => ?_) ih)
          · rw [carlingref24_Clean.l0]
            rw [if_pos (by omega), if_pos (by omega), hr, if_pos (up_iff.2 hup), if_neg (by decide)]
            rfl
          · rw [carlingref24_Clean.j1]
            rw [if_neg (by decide), if_neg hab, if_pos (by decide), w64n (by omega), hup]
            rfl
      · have hpos := List.length_pos_iff.2 h0
        have hw : wrap64 ((out.length : Int) - 1) = (out.length : Int) - 1 := w64p (by omega)
        by_cases hl : out.getLast h0 = up
        · have hab : ¬ ab = true := fun h => hv h (hl ▸ List.getLast_mem h0)
          have e : stepN ab out p = out ++ [p] := by unfold stepN; rw [if_neg (by simpa using hup), if_neg h0, if_pos ((last_up out h0).2 hl)]
          rw [e] at ih ⊢
          refine Ev.step (g' := fun k => carlingref24_Clean.j1 k P ab out (i : Int) (out.length : Int) false) (fun k => ?_) (Ev.step (fun k => ?_) ih)
          · rw [carlingref24_Clean.l0]
            rw [if_pos (by omega), if_pos (by omega), hr, if_pos (up_iff.2 hup), if_pos (by omega), hw, if_pos (by omega), if_pos (by omega), last_get out h0, bne_eq_false_iff_eq.2 (up_iff.2 hl)]
          · rw [carlingref24_Clean.j1]
            rw [if_neg (by decide), if_neg hab, if_pos (by omega), w64n (by omega), hup]
            rfl
        · have e : stepN ab out p = out.dropLast := by unfold stepN; rw [if_neg (by simpa using hup), if_neg h0, if_neg (fun h => hl ((last_up out h0).1 h))]
          rw [e] at ih ⊢
          refine Ev.step (g' := fun k => carlingref24_Clean.j1 k P ab out (i : Int) (out.length : Int) true) (fun k => ?_) (Ev.step (fun k => ?_) ih)
          · rw [carlingref24_Clean.l0]
            rw [if_pos (by omega), if_pos (by omega), hr, if_pos (up_iff.2 hup), if_pos (by omega), hw, if_pos (by omega), if_pos (by omega), last_get out h0, bne_iff_ne.2 (fun h => hl (up_iff.1 h))]
          · rw [carlingref24_Clean.j1]
            rw [if_pos rfl, hw, if_pos (by omega), if_pos (by omega), take_last, w64n (by omega)]
    · have e : stepN ab out p = out ++ [p] := by unfold stepN; rw [if_pos hup]
      rw [e] at ih ⊢
      refine Ev.step (g' := fun k => carlingref24_Clean.l0 k P ab (out ++ [p]) ((i + 1 : Nat) : Int)) (fun k => ?_) ih
      rw [carlingref24_Clean.l0]
      rw [if_pos (by omega), if_pos (by omega), hr, if_neg (fun h => hup (up_iff.1 h)), if_pos (by omega), w64n (by omega)]
/-- What a path is cleaned to. -/
def cleanR (s : ByteArray) : ByteArray × Int := if (splitR s).2.2 = 0 then finish (splitR s).2.1 ((splitR s).1.foldl (stepN (splitR s).2.1) []) else ((⟨#[]⟩ : ByteArray), (splitR s).2.2)
theorem split_small (s : ByteArray) : Small (splitR s).1 ∧ ((splitR s).1).length ≤ 201 := by
  unfold splitR
  split
  · exact ⟨⟨Nat.zero_le _, fun p hp => by cases hp⟩, Nat.zero_le _⟩
  · rename_i h1
    split
    · exact ⟨⟨Nat.zero_le _, fun p hp => by cases hp⟩, Nat.zero_le _⟩
    · split
      · exact ⟨⟨Nat.zero_le _, fun p hp => by cases hp⟩, Nat.zero_le _⟩
      · rename_i h3
        have hl : ((parts (L s)).map NB.bytes).length ≤ 201 := by
          rw [List.length_map]
          have h4 := List.length_filter_le keep (cuts (L s))
          have h5 := cuts_len (L s)
          unfold parts
          omega
        refine ⟨⟨Nat.le_trans hl (by decide), fun p hp => ?_⟩, hl⟩
        obtain ⟨q, hq, rfl⟩ := List.mem_map.1 hp
        have hq2 := (List.mem_filter.1 hq).1
        rw [size_L, L_bytes]
        rcases Nat.lt_or_ge 24 q.length with h6 | h6
        · exact absurd (List.any_eq_true.2 ⟨q, hq2, decide_eq_true h6⟩) h3
        · omega
theorem name_clean (s : ByteArray) : Ev (fun k => name_Clean.f k s) (cleanR s) := by
  refine Ev.bind (h := fun k bt => if bt.2.2 = 0 then (name_Clean.l0 k bt.2.1 ([] : List ByteArray) bt.1 (bt.1.length : Int) 0) else (some ((⟨#[]⟩ : ByteArray), bt.2.2))) (name_split s) ?_
  unfold cleanR
  by_cases h : (splitR s).2.2 = 0
  · rw [if_pos h]
    have h1 := nclean_l0 (splitR s).2.1 (splitR s).1 (split_small s).1 _ 0 [] rfl (Nat.zero_le _) (Nat.le_refl _) (fun x hx => by cases hx)
    rw [List.drop_zero] at h1
    refine Ev.congr (fun k => ?_) h1
    rw [if_pos h]
    rfl
  · rw [if_neg h]
    refine Ev.congr (fun k => ?_) (Ev.now _)
    rw [if_neg h]
theorem ref_clean (s : ByteArray) : Ev (fun k => carlingref24_Clean.f k s) (cleanR s) := by
  refine Ev.bind (h := fun k bt => if bt.2.2 = 0 then (carlingref24_Clean.l0 k bt.1 bt.2.1 ([] : List ByteArray) 0) else (some ((⟨#[]⟩ : ByteArray), bt.2.2))) (ref_split s) ?_
  unfold cleanR
  by_cases h : (splitR s).2.2 = 0
  · rw [if_pos h]
    have h1 := rclean_l0 (splitR s).2.1 (splitR s).1 (split_small s).1 _ 0 [] rfl (Nat.zero_le _) (Nat.le_refl _) (fun x hx => by cases hx) (fun _ hx => by cases hx)
    rw [List.drop_zero] at h1
    refine Ev.congr (fun k => ?_) h1
    rw [if_pos h]
    rfl
  · rw [if_neg h]
    refine Ev.congr (fun k => ?_) (Ev.now _)
    rw [if_neg h]
end Go.Proofs.YtkmdccbjgnedjaaDoor.ND
