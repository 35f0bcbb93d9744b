/- What the printed functions of the map return, as plain functions on lists. -/
import Derived.Test.YtlcbdalgifjocaaBC
import Derived.Test.YtlcbdalgifjocaaPBx
namespace Go.Proofs.Ytlcbdalgifjocaa.BD
open Go.RowKit Go.Proofs.YtlcbdalgifjocaaW.PrintWords Go.Proofs.YtlcbdalgifjocaaW.PrintLast Go.Proofs.YtlcbdalgifjocaaW.PrintMore Go.Proofs.Ytlcbdalgifjocaa.PB Go.Proofs.Ytlcbdalgifjocaa.BC

def I64 (n : Int) : Prop := -9223372036854775808 ≤ n ∧ n ≤ 9223372036854775807
theorem i64_of {n : Int} (h : (Lit.int .i64 n).wf = true) : I64 n := by
  simp [Lit.wf, IntKind.min, IntKind.max, IntKind.signed, IntKind.bits] at h
  exact ⟨by omega, by omega⟩
theorem u8_of {n : Int} (h : (Lit.int .u8 n).wf = true) : 0 ≤ n ∧ n ≤ 255 := by
  simp [Lit.wf, IntKind.min, IntKind.max, IntKind.signed, IntKind.bits] at h
  exact ⟨by omega, by omega⟩
theorem w64 {n : Int} (h0 : -9223372036854775808 ≤ n) (h1 : n ≤ 9223372036854775807) : wrap64 n = n := by unfold wrap64; omega
theorem td8 {n : Int} (h : 0 ≤ n) : Int.tdiv n 8 = n / 8 := Int.tdiv_eq_ediv_of_nonneg h
theorem tm8 {n : Int} (h : 0 ≤ n) : Int.tmod n 8 = n % 8 := Int.tmod_eq_emod_of_nonneg h
theorem wd8 {n : Int} (h : 0 ≤ n) (hn : I64 n) : wrap64 (Int.tdiv n 8) = n / 8 := by rw [td8 h]; have := hn.2; exact w64 (by omega) (by omega)

theorem has_eq {x : List Int} {n : Int} (hn : I64 n) : bitmap_has.f x n = some (decide (0 ≤ n) && decide (n / 8 < x.length)) := by
  unfold bitmap_has.f
  by_cases h : 0 ≤ n
  · rw [if_pos h, wd8 h hn]; simp [h]
  · rw [if_neg h]; simp [h]
theorem get_eq {x : List Int} (hx : By x) {n : Int} (hn : I64 n) : bitmap_Get.f x n = some (gB x n) := by
  unfold bitmap_Get.f
  rw [has_eq hn, Option.bind_some]
  by_cases h : 0 ≤ n
  · by_cases h1 : n / 8 < x.length
    · have hr := rd_rng hx (i := n / 8) (by omega) h1
      simp only [h, h1, decide_true, Bool.and_self, if_true, wd8 h hn, tm8 h]
      rw [if_pos (by omega), if_pos (by omega), get_b hr.1 hr.2 (by omega) (by omega)]
      simp [gB, h, h1]
    · simp [h, h1, gB]
  · simp [h, gB]
theorem rget_eq {x : List Int} (hx : By x) {n : Int} (hn : I64 n) : carlingref20_Get.f x n = some (gB x n) := by
  unfold carlingref20_Get.f
  by_cases h : 0 ≤ n
  · rw [if_neg (by omega), wd8 h hn]
    by_cases h1 : n / 8 < x.length
    · have hr := rd_rng hx (i := n / 8) (by omega) h1
      rw [if_neg (by omega), if_pos (by omega), if_pos h1, tm8 h, if_pos (by omega), get_r hr.1 hr.2 (by omega) (by omega)]
      simp [gB, h, h1]
    · rw [if_pos (by omega)]; simp [h1, gB]
  · rw [if_pos (by omega)]; simp [h, gB]
theorem clone_eq {x : List Int} (hx : By x) : bytes_Clone.f x = some x := by
  unfold bytes_Clone.f
  rw [if_pos (by have := hx.1; omega)]
theorem ok_i64 {x : List Int} (hx : By x) {n : Int} (hn : Ok x n) : I64 n := ⟨by have := hn.1; omega, by have := hn.2; have := hx.1; omega⟩
/-- A valid place set, or cleared: the reference's. -/
theorem rset_eq {x : List Int} (hx : By x) {n : Int} (hn : Ok x n) (b : Bool) (k : Nat) : carlingref20_Set.f (k + 1) x n b = some (upd x n b, 0) := by
  have h := hn.1
  have h1 := hn.2
  have hi := ok_i64 hx hn
  have hr := rd_rng hx (i := n / 8) (by omega) h1
  unfold carlingref20_Set.f
  rw [if_neg (by omega), wd8 h hi]
  simp only [carlingref20_Set.j0]
  rw [if_neg (by simp; omega), if_pos (by simp; have := hx.1; omega)]
  simp only [List.nil_append, Option.bind_some]
  rw [rget_eq hx hi, Option.bind_some, wd8 h hi, tm8 h, xor_e hr.1 hr.2 (by omega) (by omega)]
  have hg : gB x n = bitAt (rd x (n / 8)) (n % 8).toNat := by simp [gB, h, h1]
  by_cases e : gB x n = b
  · rw [if_neg (by simp [e]), upd_self hx hn e]
  · rw [if_pos (by simp [e]), if_pos (by omega), if_pos h1, if_pos (by omega), ← hg]
    unfold upd
    cases b <;> cases hgb : gB x n <;> simp_all
theorem rset_no {x : List Int} {n : Int} (hI : I64 n) (hn : ¬ Ok x n) (b : Bool) (k : Nat) : carlingref20_Set.f (k + 1) x n b = some ([], 1) := by
  unfold carlingref20_Set.f
  by_cases h : n < 0
  · rw [if_pos h]; simp only [carlingref20_Set.j0, if_true]
  · rw [if_neg h, wd8 (by omega) hI]
    have : (x.length : Int) ≤ n / 8 := by
      have h2 : ¬ n / 8 < x.length := fun h1 => hn ⟨by omega, h1⟩
      omega
    simp only [carlingref20_Set.j0]
    rw [if_pos (by simpa using this)]
theorem or_upd {x : List Int} (hx : By x) {n : Int} (hn : Ok x n) : x.set (n / 8).toNat (Go.bits .or .u8 (rd x (n / 8)) (shl .u8 1 (n % 8))) = upd x n true := by
  have hr := rd_rng hx (i := n / 8) (by have := hn.1; omega) hn.2
  rw [or_e hr.1 hr.2 (by omega) (by omega)]; rfl
theorem andNot_upd {x : List Int} (hx : By x) {n : Int} (hn : Ok x n) : x.set (n / 8).toNat (Go.bits .andNot .u8 (rd x (n / 8)) (shl .u8 1 (n % 8))) = upd x n false := by
  have hr := rd_rng hx (i := n / 8) (by have := hn.1; omega) hn.2
  rw [andNot_e hr.1 hr.2 (by omega) (by omega)]; rfl
theorem upd_upd {x : List Int} (hx : By x) {n : Int} (hn : Ok x n) (a b : Bool) : upd (upd x n a) n b = upd x n b := by
  have hn' : Ok (upd x n a) n := ⟨hn.1, by rw [upd_length]; exact hn.2⟩
  have hx' := upd_By hx hn a
  apply map_ext (upd_By hx' hn' b) (upd_By hx hn b) (by simp only [upd_length])
  intro m _
  rw [gB_upd hx' hn', gB_upd hx hn, gB_upd hx hn]
  split <;> rfl

/-! ### same -/
theorem Same_self {x : List Int} (hx : x.length ≤ 4096) : Ev (fun k => carlingref02_Same.f k x x) true := by
  have loop : ∀ (d : Nat) (i : Int), 0 ≤ i → i ≤ x.length → (x.length : Int) - i = d → Ev (fun k => carlingref02_Same.l0 k x x i) true := by
    intro d
    induction d with
    | zero =>
      intro i h0 h1 hd
      exact Ev.step (f := fun _ => some true) (fun k => by simp only [carlingref02_Same.l0]; rw [if_neg (by omega)]) (Ev.now _)
    | succ d ih =>
      intro i h0 h1 hd
      refine Ev.step (f := fun k => carlingref02_Same.l0 k x x (i + 1)) (fun k => ?_) (ih (i + 1) (by omega) (by omega) (by omega))
      simp only [carlingref02_Same.l0]
      rw [if_pos (by omega), if_pos h0, if_pos (by omega), if_pos trivial, w64 (by omega) (by omega)]
  exact Ev.congr (fun k => by unfold carlingref02_Same.f; rw [if_pos rfl]) (loop x.length 0 (by omega) (by omega) (by omega))
theorem same_self {x : List Int} (hx : x.length ≤ 40960) : Ev (fun k => carlinglaw20_same.f k x x) true := by
  have loop : ∀ (d : Nat) (i : Int), 0 ≤ i → i ≤ x.length → (x.length : Int) - i = d → Ev (fun k => carlinglaw20_same.l0 k x x x.length i) true := by
    intro d
    induction d with
    | zero =>
      intro i h0 h1 hd
      exact Ev.step (f := fun _ => some true) (fun k => by simp only [carlinglaw20_same.l0]; rw [if_neg (by omega)]) (Ev.now _)
    | succ d ih =>
      intro i h0 h1 hd
      refine Ev.step (f := fun k => carlinglaw20_same.l0 k x x x.length (i + 1)) (fun k => ?_) (ih (i + 1) (by omega) (by omega) (by omega))
      simp only [carlinglaw20_same.l0]
      rw [if_pos (by omega), if_pos h0, if_pos (by omega), if_pos (by omega), if_pos trivial, w64 (by omega) (by omega)]
  exact Ev.congr (fun k => by unfold carlinglaw20_same.f; rw [if_pos rfl]) (loop x.length 0 (by omega) (by omega) (by omega))
theorem alive_ev : Ev (fun k => carlinglaw20_alive.f k) true := Ev.of (k := 40) (fun k => carlinglaw20_alive.mono k) (by decide +kernel)

/-! ### the first free place, and how many -/
/-- The end of a search. -/
def top (x : List Int) (b : Int) : Int := mn b (8 * x.length)
def from0 (a : Int) : Int := mx a 0
/-- How many places a search looks at. -/
def wide (x : List Int) (a b : Int) : Nat := (top x b - from0 a).toNat
/-- All free places of a search. -/
def all (x : List Int) (a b : Int) : List Int := frees x (from0 a) (wide x a b)
theorem top_le (x : List Int) (b : Int) : top x b ≤ 8 * x.length ∧ top x b ≤ b := by unfold top mn; split <;> omega
theorem top_or (x : List Int) (b m : Int) (h0 : m < 8 * x.length) (h1 : m < b) : m < top x b := by unfold top mn; split <;> omega
theorem from0_le (a : Int) : 0 ≤ from0 a ∧ a ≤ from0 a := by unfold from0 mx; split <;> omega
theorem from0_or (a m : Int) (h0 : 0 ≤ m) (h1 : a ≤ m) : from0 a ≤ m := by unfold from0 mx; split <;> omega
theorem all_mem {x : List Int} {a b m : Int} : m ∈ all x a b ↔ a ≤ m ∧ m < b ∧ Ok x m ∧ gB x m = false := by
  unfold all
  rw [frees_mem]
  have h1 := top_le x b
  have h2 := from0_le a
  unfold wide Ok
  constructor
  · rintro ⟨h3, h4, h5⟩; exact ⟨by omega, by omega, ⟨by omega, by omega⟩, h5⟩
  · rintro ⟨h3, h4, ⟨h5, h6⟩, h7⟩
    have := top_or x b m (by omega) h4
    have := from0_or a m h5 h3
    exact ⟨by omega, by omega, h7⟩
def headOr (l : List Int) : Int × Bool := match l with | [] => (-1, false) | n :: _ => (n, true)
theorem First_loop {x : List Int} (hx : By x) (b : Int) : ∀ d (i : Int), 0 ≤ i → i ≤ 9223372036854775807 → (top x b - i).toNat = d → Ev (fun k => bitmap_First.l0 k x b i) (headOr (frees x i d)) := by
  have hl := hx.1
  have ht := top_le x b
  intro d
  induction d with
  | zero =>
    intro i h0 h1 hd
    exact Ev.step (f := fun _ => some (-1, false)) (fun k => by simp only [bitmap_First.l0]; rw [w64 (by omega) (by omega)]; rw [if_neg (by change ¬ i < top x b; omega)]) (Ev.now _)
  | succ d ih =>
    intro i h0 h1 hd
    have hI : I64 i := ⟨by omega, by omega⟩
    unfold frees
    cases hg : gB x i
    · refine Ev.step (f := fun _ => some (i, true)) (fun k => ?_) (Ev.now _)
      simp only [bitmap_First.l0]
      rw [w64 (by omega) (by omega), if_pos (by change i < top x b; omega), get_eq hx hI, hg]; rfl
    · refine Ev.step (f := fun k => bitmap_First.l0 k x b (i + 1)) (fun k => ?_) (ih (i + 1) (by omega) (by omega) (by omega))
      simp only [bitmap_First.l0]
      rw [w64 (n := 8 * _) (by omega) (by omega), if_pos (by change i < top x b; omega), get_eq hx hI, hg, Option.bind_some, if_pos rfl, w64 (by omega) (by omega)]
theorem First_eq {x : List Int} (hx : By x) {a : Int} (ha : I64 a) (b : Int) : Ev (fun k => bitmap_First.f k x a b) (headOr (all x a b)) := by
  have h2 := from0_le a
  have h3 : from0 a ≤ 9223372036854775807 := by have := ha.2; unfold from0 mx; split <;> omega
  exact First_loop hx b _ (from0 a) h2.1 h3 rfl
theorem frees_skip {x : List Int} {b : Int} {n : Int} {l : List Int} : ∀ {d : Nat} {i : Int}, frees x i d = n :: l → (top x b - i).toNat = d → frees x (n + 1) (top x b - (n + 1)).toNat = l := by
  intro d
  induction d with
  | zero => intro i h _; simp [frees] at h
  | succ d ih =>
    intro i h hd
    unfold frees at h
    split at h
    · exact ih h (by omega)
    · injection h with h1 h2
      subst h1
      rw [← h2]
      congr 1
      omega
theorem Free_loop {x : List Int} (hx : By x) (b : Int) : ∀ (l : List Int) (a : Int) (m : Int), I64 a → all x a b = l → 0 ≤ m → m + l.length ≤ 9223372036854775807 → ∀ p : Int × Bool, headOr l = p → Ev (fun k => bitmap_Free.l0 k x b m p.1 p.2) (m + l.length) := by
  intro l
  induction l with
  | nil =>
    intro a m ha hl hm0 hm1 p hp
    subst hp
    exact Ev.step (f := fun _ => some m) (fun k => by simp only [bitmap_Free.l0, headOr]; rfl) (by simpa using Ev.now m)
  | cons n l ih =>
    intro a m ha hl hm0 hm1 p hp
    subst hp
    have hn := all_mem.1 (hl ▸ List.mem_cons_self : n ∈ all x a b)
    have hI := ok_i64 hx hn.2.2.1
    have hN := hn.2.2.1.2
    have hN0 := hn.2.2.1.1
    have hx1 := hx.1
    have hne : I64 (n + 1) := ⟨by omega, by omega⟩
    have hnext : all x (n + 1) b = l := by
      have := frees_skip (b := b) hl rfl
      unfold all wide
      rw [show from0 (n + 1) = n + 1 from by unfold from0 mx; rw [if_neg (by omega)]]
      exact this
    simp only [List.length_cons] at hm1
    refine Ev.step (f := fun k => (bitmap_First.f k x (n + 1) b).bind fun bt => bitmap_Free.l0 k x b (m + 1) bt.1 bt.2) (fun k => ?_) ?_
    · simp only [bitmap_Free.l0, headOr]
      rw [if_pos trivial, w64 (n := n + 1) (by omega) (by omega), w64 (n := m + 1) (by omega) (by omega)]
    · have := Ev.bind (f := fun k (bt : Int × Bool) => bitmap_Free.l0 k x b (m + 1) bt.1 bt.2) (First_eq hx hne b) (ih (n + 1) (m + 1) hne hnext (by omega) (by omega) _ (by rw [hnext]))
      rw [show m + ((n :: l).length : Int) = m + 1 + l.length from by simp only [List.length_cons]; omega]
      exact this
theorem all_len {x : List Int} (hx : By x) {a b : Int} : (all x a b).length ≤ 40000 := by
  have h := frees_len_le (x := x) (d := wide x a b) (a := from0 a)
  have h1 := top_le x b
  have h2 := from0_le a
  have h3 := hx.1
  unfold all
  have : wide x a b ≤ 8 * x.length := by unfold wide; omega
  omega
theorem Free_eq {x : List Int} (hx : By x) {a : Int} (ha : I64 a) (b : Int) : Ev (fun k => bitmap_Free.f k x a b) ((all x a b).length : Int) := by
  have h := all_len hx (a := a) (b := b)
  have := Ev.bind (f := fun k (bt : Int × Bool) => bitmap_Free.l0 k x b 0 bt.1 bt.2) (First_eq hx ha b) (Free_loop hx b _ a 0 ha rfl (by omega) (by omega) _ rfl)
  rw [Int.zero_add] at this
  exact this
/-! ### the reference's list -/
theorem All_loop {x : List Int} (hx : By x) (b : Int) : ∀ d (i : Int) (acc : List Int), 0 ≤ i → i ≤ 9223372036854775807 → (top x b - i).toNat = d → acc.length + d ≤ 40000 → Ev (fun k => carlingref20_All.l0 k x b acc i) (acc ++ frees x i d) := by
  have hl := hx.1
  have ht := top_le x b
  intro d
  induction d with
  | zero =>
    intro i acc h0 h1 hd hb
    have hcut : ∀ k, carlingref20_All.l0 (k + 2) x b acc i = some acc := by
      intro k
      simp only [carlingref20_All.l0]
      rw [w64 (by omega) (by omega)]
      by_cases hb2 : i < b
      · rw [if_pos hb2]
        have : ¬ i < 8 * (x.length : Int) := fun h => by have := top_or x b i h hb2; omega
        simp only [carlingref20_All.j1]
        rw [if_neg (by simpa using this)]
      · rw [if_neg hb2]
        simp only [carlingref20_All.j1]
        rw [if_neg (by simp)]
    refine ⟨2, fun k hk => ?_⟩
    obtain ⟨k, rfl⟩ : ∃ m, k = m + 2 := ⟨k - 2, by omega⟩
    show carlingref20_All.l0 (k + 2) x b acc i = _
    rw [hcut]; simp [frees]
  | succ d ih =>
    intro i acc h0 h1 hd hb
    have hI : I64 i := ⟨by omega, by omega⟩
    have hib : i < b := by omega
    have hi8 : i < 8 * (x.length : Int) := by omega
    unfold frees
    cases hg : gB x i
    · have := ih (i + 1) (acc ++ [i]) (by omega) (by omega) (by omega) (by simp; omega)
      simp only [Bool.false_eq_true, if_false]
      rw [List.append_assoc, List.singleton_append] at this
      refine Ev.step (f := fun k => carlingref20_All.j1 k x b acc i true) (fun k => ?_) (Ev.step (f := fun k => carlingref20_All.l0 k x b (acc ++ [i]) (i + 1)) (fun k => ?_) this)
      · simp only [carlingref20_All.l0]
        rw [if_pos hib, w64 (by omega) (by omega), decide_eq_true hi8]
      · simp only [carlingref20_All.j1]
        rw [if_pos trivial, rget_eq hx hI, hg, Option.bind_some, if_neg (by simp), if_pos (by omega), w64 (by omega) (by omega)]
    · have := ih (i + 1) acc (by omega) (by omega) (by omega) (by omega)
      simp only [if_true]
      refine Ev.step (f := fun k => carlingref20_All.j1 k x b acc i true) (fun k => ?_) (Ev.step (f := fun k => carlingref20_All.l0 k x b acc (i + 1)) (fun k => ?_) this)
      · simp only [carlingref20_All.l0]
        rw [if_pos hib, w64 (by omega) (by omega), decide_eq_true hi8]
      · simp only [carlingref20_All.j1]
        rw [if_pos trivial, rget_eq hx hI, hg, Option.bind_some, if_pos rfl, w64 (by omega) (by omega)]
theorem wide_le {x : List Int} (hx : By x) (a b : Int) : wide x a b ≤ 32768 := by
  have h1 := top_le x b
  have h2 := from0_le a
  have h3 := hx.1
  unfold wide; omega
theorem All_eq {x : List Int} (hx : By x) {a : Int} (ha : I64 a) (b : Int) : Ev (fun k => carlingref20_All.f k x a b) (all x a b) := by
  have h2 := from0_le a
  have h3 : from0 a ≤ 9223372036854775807 := by have := ha.2; unfold from0 mx; split <;> omega
  have := All_loop hx b _ (from0 a) [] h2.1 h3 rfl (by have := wide_le hx a b; unfold wide at this; simp; omega)
  rw [List.nil_append] at this
  exact this
end Go.Proofs.Ytlcbdalgifjocaa.BD
