/- The four statements on maps of places, over numbers and lists alone: each answers true. -/
import Derived.Test.YtlcbdalgifjocaaBE
namespace Go.Proofs.Ytlcbdalgifjocaa.BF
open Go.RowKit Go.Proofs.YtlcbdalgifjocaaW.PrintWords Go.Proofs.YtlcbdalgifjocaaW.PrintLast Go.Proofs.YtlcbdalgifjocaaW.PrintMore Go.Proofs.Ytlcbdalgifjocaa.PB Go.Proofs.Ytlcbdalgifjocaa.BC Go.Proofs.Ytlcbdalgifjocaa.BD Go.Proofs.Ytlcbdalgifjocaa.BE

theorem far_eq (x : List Int) : carlinglaw20_far.f x = some (decide ((x.length : Int) > 64)) := rfl
theorem by_of {x : List Int} (hw : ∀ e ∈ x, (Lit.int .u8 e).wf = true) (h : ¬ (x.length : Int) > 64) : By x := ⟨by omega, fun e he => u8_of (hw e he)⟩
theorem giveR_len {x l : List Int} (hx : x.length ≤ 64) : (giveR x l).1.length ≤ 64 := Nat.le_trans giveR_length hx

theorem Gives (x l : List Int) (hw : ∀ e ∈ x, (Lit.int .u8 e).wf = true) (hl : ∀ n ∈ l, (Lit.int .i64 n).wf = true) : ∃ k, carlinglaw20_BitmapGives.f k x l = some true := by
  obtain ⟨Ka, ha⟩ := Ev.out alive_ev
  by_cases h : (x.length : Int) > 64
  · refine ⟨Ka + 1, ?_⟩
    unfold carlinglaw20_BitmapGives.f
    rw [far_eq, Option.bind_some, if_pos (decide_eq_true h)]
    simp only [carlinglaw20_BitmapGives.j0, if_true]
    rw [ha Ka (by omega)]; rfl
  · have hx := by_of hw h
    by_cases h2 : (l.length : Int) > 60
    · refine ⟨Ka + 1, ?_⟩
      unfold carlinglaw20_BitmapGives.f
      rw [far_eq, Option.bind_some, if_neg (by simpa using h)]
      simp only [carlinglaw20_BitmapGives.j0]
      rw [if_pos (decide_eq_true h2), ha Ka (by omega)]; rfl
    · have hI : ∀ n ∈ l, I64 n := fun n hn => i64_of (hl n hn)
      obtain ⟨K1, h1⟩ := Ev.out (Give_eq hx (by omega) hI)
      obtain ⟨K2, h22⟩ := Ev.out (rGive_loop l x l 0 hx hI (by omega) (by omega) rfl)
      obtain ⟨K3, h3⟩ := Ev.out (Same_self (x := (giveR x l).1) (by have := giveR_length (x := x) (l := l); omega))
      refine ⟨Ka + K1 + K2 + K3 + 1, ?_⟩
      unfold carlinglaw20_BitmapGives.f
      rw [far_eq, Option.bind_some, if_neg (by simpa using h)]
      simp only [carlinglaw20_BitmapGives.j0]
      unfold carlingref20_Give.f
      rw [if_neg (by simpa using h2), h1 _ (by omega), Option.bind_some, h22 _ (by omega), Option.bind_some, h3 _ (by omega), Option.bind_some, if_pos rfl, if_pos rfl, ha _ (by omega)]; rfl

theorem headOr_all {l : List Int} : (headOr l).2 = decide ((l.length : Int) > 0) ∧ (headOr l).1 = (if (l.length : Int) > 0 then rd l 0 else -1) := by
  cases l with
  | nil => exact ⟨rfl, rfl⟩
  | cons n l =>
    have : ((n :: l).length : Int) > 0 := by simp only [List.length_cons]; omega
    rw [decide_eq_true this, if_pos this]; exact ⟨rfl, rfl⟩
theorem takeR_len {x : List Int} (hx : By x) {many a b : Int} : (takeR x many a b).1.length ≤ 40000 ∧ (takeR x many a b).2.1.length ≤ x.length := by
  have := all_len hx (a := a) (b := b)
  unfold takeR
  split
  · simp
  · simp only [updAll_length, List.length_take]; omega

theorem Takes (x : List Int) (many a b : Int) (hw : ∀ e ∈ x, (Lit.int .u8 e).wf = true) (hA : (Lit.int .i64 a).wf = true) : ∃ k, carlinglaw20_BitmapTakes.f k x many a b = some true := by
  obtain ⟨Ka, ha⟩ := Ev.out alive_ev
  by_cases h : (x.length : Int) > 64
  · refine ⟨Ka, ?_⟩
    unfold carlinglaw20_BitmapTakes.f
    rw [far_eq, Option.bind_some, if_pos (decide_eq_true h), ha Ka (by omega)]; rfl
  · have hx := by_of hw h
    have hI := i64_of hA
    obtain ⟨K1, h1⟩ := Ev.out (Take_eq hx hI many b)
    obtain ⟨K2, h2⟩ := Ev.out (rTake_eq hx hI many b)
    obtain ⟨K3, h3⟩ := Ev.out (All_eq hx hI b)
    obtain ⟨K4, h4⟩ := Ev.out (First_eq hx hI b)
    obtain ⟨K5, h5⟩ := Ev.out (Free_eq hx hI b)
    obtain ⟨K6, h6⟩ := Ev.out (Count_eq hx)
    obtain ⟨K7, h7⟩ := Ev.out (rCount_eq hx)
    have hlen := takeR_len hx (many := many) (a := a) (b := b)
    obtain ⟨K8, h8⟩ := Ev.out (same_self (x := (takeR x many a b).1) (by omega))
    obtain ⟨K9, h9⟩ := Ev.out (Same_self (x := (takeR x many a b).2.1) (by have := hx.1; omega))
    have hh := headOr_all (l := all x a b)
    refine ⟨Ka + K1 + K2 + K3 + K4 + K5 + K6 + K7 + K8 + K9 + 1, ?_⟩
    have key : ∀ w, w = (headOr (all x a b)).1 → carlinglaw20_BitmapTakes.j0 (Ka + K1 + K2 + K3 + K4 + K5 + K6 + K7 + K8 + K9 + 1) x (takeR x many a b).1 (takeR x many a b).2.1 (takeR x many a b).2.2 (takeR x many a b).1 (takeR x many a b).2.1 (takeR x many a b).2.2 (all x a b) (headOr (all x a b)).1 (headOr (all x a b)).2 w many a b = some true := by
      intro w hw2
      subst hw2
      simp only [carlinglaw20_BitmapTakes.j0]
      rw [h8 _ (by omega), Option.bind_some, if_pos rfl, h9 _ (by omega), Option.bind_some, if_pos rfl, if_pos trivial, if_pos trivial, if_pos (by rw [hh.1]; simp), h5 _ (by omega), Option.bind_some, if_pos rfl, h6 _ (by omega), Option.bind_some, h7 _ (by omega), Option.bind_some, if_pos rfl, ha _ (by omega)]; rfl
    unfold carlinglaw20_BitmapTakes.f
    rw [far_eq, Option.bind_some, if_neg (by simpa using h), h1 _ (by omega), Option.bind_some, h2 _ (by omega), Option.bind_some, h3 _ (by omega), Option.bind_some, h4 _ (by omega), Option.bind_some]
    by_cases hp : ((all x a b).length : Int) > 0
    · rw [if_pos hp, if_pos hp]
      exact key _ (by rw [hh.2, if_pos hp])
    · rw [if_neg hp]
      exact key _ (by rw [hh.2, if_neg hp])

theorem Back_loop {x x2 l : List Int} (hx : By x) (hx2 : By x2) {many a b : Int} (hl : l.length ≤ 40000) (hp : l.Pairwise (· < ·)) (hin : ∀ n ∈ l, a ≤ n ∧ n < b ∧ Ok x n ∧ gB x n = false ∧ gB x2 n = true)
    (hend : Ev (fun k => carlinglaw20_BitmapBack.l0 k x l x2 l l.length l.length many a b) true) :
    ∀ (d : Nat) (i : Int), 0 ≤ i → (l.length : Int) - i = d → Ev (fun k => carlinglaw20_BitmapBack.l0 k x l x2 l l.length i many a b) true := by
  intro d
  induction d with
  | zero =>
    intro i h0 hd
    rw [show i = (l.length : Int) from by omega]
    exact hend
  | succ d ih =>
    intro i h0 hd
    have hlt : i.toNat < l.length := by omega
    have hrd : ∀ j : Int, 0 ≤ j → ∀ hj : j.toNat < l.length, rd l j = l[j.toNat] := fun j _ hj => by unfold rd; rw [List.getD_eq_getElem?_getD, List.getElem?_eq_getElem hj]; rfl
    have hm : rd l i ∈ l := by rw [hrd i h0 hlt]; exact List.getElem_mem hlt
    obtain ⟨g1, g2, g3, g4, g5⟩ := hin _ hm
    have hI := ok_i64 hx g3
    refine Ev.step (f := fun k => carlinglaw20_BitmapBack.l0 k x l x2 l l.length (i + 1) many a b) (fun k => ?_) (ih (i + 1) (by omega) (by omega))
    simp only [carlinglaw20_BitmapBack.l0]
    rw [if_pos (by omega), if_pos h0, if_pos (by omega), get_eq hx hI, g4, Option.bind_some, if_neg (by simp), get_eq hx2 hI, g5, Option.bind_some, if_pos rfl, if_neg (by omega), if_neg (by omega), w64 (n := i + 1) (by omega) (by omega)]
    by_cases hi : i > 0
    · rw [if_pos hi, w64 (by omega) (by omega), if_pos (by omega), if_pos (by omega), if_neg]
      rw [hrd i h0 hlt, hrd (i - 1) (by omega) (by omega)]
      have := (List.pairwise_iff_getElem.1 hp) (i - 1).toNat i.toNat (by omega) hlt (by omega)
      omega
    · rw [if_neg hi]

theorem Back (x : List Int) (many a b : Int) (hw : ∀ e ∈ x, (Lit.int .u8 e).wf = true) (hA : (Lit.int .i64 a).wf = true) : ∃ k, carlinglaw20_BitmapBack.f k x many a b = some true := by
  obtain ⟨Ka, ha⟩ := Ev.out alive_ev
  by_cases h : (x.length : Int) > 64
  · refine ⟨Ka, ?_⟩
    unfold carlinglaw20_BitmapBack.f
    rw [far_eq, Option.bind_some, if_pos (decide_eq_true h), ha Ka (by omega)]; rfl
  · have hx := by_of hw h
    have hI := i64_of hA
    obtain ⟨K1, h1⟩ := Ev.out (Take_eq hx hI many b)
    by_cases hf : ((all x a b).length : Int) < many
    · have ht : takeR x many a b = ([], [], 8) := if_pos hf
      obtain ⟨K5, h5⟩ := Ev.out (Free_eq hx hI b)
      refine ⟨Ka + K1 + K5, ?_⟩
      unfold carlinglaw20_BitmapBack.f
      rw [far_eq, Option.bind_some, if_neg (by simpa using h), h1 _ (by omega), ht, Option.bind_some, if_neg (by simp), if_pos rfl, h5 _ (by omega), Option.bind_some, if_pos hf, ha _ (by omega)]; rfl
    · obtain ⟨l, hl⟩ : ∃ l, l = (all x a b).take many.toNat := ⟨_, rfl⟩
      have ht : takeR x many a b = (l, updAll x l true, 0) := by rw [hl]; exact if_neg hf
      have hmem : ∀ n ∈ l, a ≤ n ∧ n < b ∧ Ok x n ∧ gB x n = false := fun n hn => all_mem.1 (List.mem_of_mem_take (hl ▸ hn))
      have hp : l.Pairwise (· < ·) := by rw [hl]; exact frees_sorted.sublist (List.take_sublist _ _)
      have hok : ∀ n ∈ l, Ok x n := fun n hn => (hmem n hn).2.2.1
      have hx2 := updAll_By (b := true) hx hok
      have hll : l.length ≤ 40000 := by have := all_len hx (a := a) (b := b); rw [hl, List.length_take]; omega
      have hgv := give_back hx hp (fun n hn => (hmem n hn).2.2)
      have hIs : ∀ n ∈ l, I64 n := fun n hn => ok_i64 hx (hok n hn)
      obtain ⟨K2, h2⟩ := Ev.out (Give_eq hx2 hll hIs)
      obtain ⟨K3, h3⟩ := Ev.out (Same_self (x := x) hx.1)
      obtain ⟨K4, h4⟩ := Ev.out (Count_eq hx)
      obtain ⟨K5, h5⟩ := Ev.out (Count_eq hx2)
      have hc := cnt_updAll hx (fun n hn => (hmem n hn).2.2) hp
      have hlen : (l.length : Int) = mx many 0 := by
        have : l.length = min many.toNat (all x a b).length := by rw [hl, List.length_take]
        unfold mx; split <;> omega
      have hcb : cnt x ≤ 40000 := by have := hx.1; unfold cnt; omega
      have hend : Ev (fun k => carlinglaw20_BitmapBack.l0 k x l (updAll x l true) l l.length l.length many a b) true := by
        refine Ev.mk (Ka + K2 + K3 + K4 + K5 + 1) (fun k hk => ?_)
        obtain ⟨k, rfl⟩ : ∃ m, k = m + 1 := ⟨k - 1, by omega⟩
        simp only [carlinglaw20_BitmapBack.l0]
        rw [if_neg (by omega), h2 _ (by omega), hgv, Option.bind_some, if_pos rfl, h3 _ (by omega), Option.bind_some, if_pos rfl, if_pos hlen, h5 _ (by omega), Option.bind_some, h4 _ (by omega), Option.bind_some, if_pos (by rw [w64 (by omega) (by omega), hc]; omega), ha _ (by omega)]; rfl
      obtain ⟨K6, h6⟩ := Ev.out (Back_loop hx hx2 hll hp (fun n hn => ⟨(hmem n hn).1, (hmem n hn).2.1, (hmem n hn).2.2.1, (hmem n hn).2.2.2, by rw [gB_updAll n hx hok, if_pos hn]⟩) hend l.length 0 (by omega) (by omega))
      refine ⟨Ka + K1 + K6, ?_⟩
      unfold carlinglaw20_BitmapBack.f
      rw [far_eq, Option.bind_some, if_neg (by simpa using h), h1 _ (by omega), ht, Option.bind_some, if_pos rfl]
      exact h6 _ (by omega)

/-! ### bits, and maps -/
theorem setf_eq {x : List Int} (hx : By x) {n : Int} (hI : I64 n) (b : Bool) : bitmap_Set.f x n b = some (if 0 ≤ n ∧ n / 8 < x.length then (upd x n b, 0) else ([], 1)) := by
  unfold bitmap_Set.f
  rw [has_eq hI, Option.bind_some]
  by_cases hn : 0 ≤ n ∧ n / 8 < x.length
  · have h := hn.1
    have h1 := hn.2
    have hx1 := upd_By hx hn false
    have hn1 : Ok (upd x n false) n := ok_upd.2 hn
    rw [if_pos (by simp [h, h1]), clone_eq hx, Option.bind_some, wd8 h hI, if_pos (by omega), if_pos h1, tm8 h, if_pos (by omega), andNot_upd hx hn, Option.bind_some, if_pos hn, or_upd hx1 hn1, upd_upd hx hn]
    cases b <;> rfl
  · rw [if_neg hn, if_neg]
    simpa using hn
theorem New_eq {n : Int} (_hI : I64 n) : bitmap_New.f n = some (if n < 0 ∨ n > 2048 then ([], 1) else (List.replicate ((n + 7) / 8).toNat 0, 0)) := by
  unfold bitmap_New.f
  by_cases h0 : n < 0
  · rw [if_pos h0, if_pos (.inl h0)]
  · by_cases h1 : n > 2048
    · rw [if_neg h0, if_pos h1, if_pos (.inr h1)]
    · rw [if_neg h0, if_neg h1, w64 (n := n + 8) (by omega) (by omega), w64 (n := n + 8 - 1) (by omega) (by omega), td8 (by omega), show n + 8 - 1 = n + 7 from by omega, w64 (by omega) (by omega), if_pos (by omega), if_pos (by omega), if_neg (by omega)]
open Classical in
/-- Are bytes a map of n places? -/
noncomputable def isMap (x : List Int) (n : Int) : Bool := decide (0 ≤ n ∧ n ≤ 2048 ∧ (x.length : Int) = (n + 7) / 8 ∧ ∀ m, n ≤ m → m < 8 * (x.length : Int) → gB x m = false)
open Classical in
theorem Right_loop {x : List Int} (hx : By x) : ∀ (d : Nat) (i : Int), 0 ≤ i → (8 * x.length : Int) - i = d → Ev (fun k => carlingref20_Right.l0 k x i) (decide (∀ m, i ≤ m → m < 8 * (x.length : Int) → gB x m = false)) := by
  have hl := hx.1
  intro d
  induction d with
  | zero =>
    intro i h0 hd
    refine Ev.step (f := fun _ => some true) (fun k => ?_) ?_
    · simp only [carlingref20_Right.l0]
      rw [w64 (by omega) (by omega), if_neg (by omega)]
    · rw [decide_eq_true (fun m h1 h2 => absurd h2 (by omega))]; exact Ev.now _
  | succ d ih =>
    intro i h0 hd
    have hI : I64 i := ⟨by omega, by omega⟩
    cases hg : gB x i
    · refine Ev.step (f := fun k => carlingref20_Right.l0 k x (i + 1)) (fun k => ?_) ?_
      · simp only [carlingref20_Right.l0]
        rw [w64 (n := 8 * _) (by omega) (by omega), if_pos (by omega), rget_eq hx hI, hg, Option.bind_some, if_neg (by simp), w64 (by omega) (by omega)]
      · rw [show decide (∀ m, i ≤ m → m < 8 * (x.length : Int) → gB x m = false) = decide (∀ m, i + 1 ≤ m → m < 8 * (x.length : Int) → gB x m = false) from decide_eq_decide.2 ⟨fun h m h1 h2 => h m (by omega) h2, fun h m h1 h2 => by
          by_cases e : m = i
          · rw [e]; exact hg
          · exact h m (by omega) h2⟩]
        exact ih (i + 1) (by omega) (by omega)
    · refine Ev.step (f := fun _ => some false) (fun k => ?_) ?_
      · simp only [carlingref20_Right.l0]
        rw [w64 (n := 8 * _) (by omega) (by omega), if_pos (by omega), rget_eq hx hI, hg]; rfl
      · rw [decide_eq_false (fun h => by have := h i (by omega) (by omega); rw [hg] at this; cases this)]; exact Ev.now _
open Classical in
theorem rRight_eq {x : List Int} (hx : By x) {n : Int} (_hI : I64 n) : Ev (fun k => carlingref20_Right.f k x n) (isMap x n) := by
  unfold isMap
  by_cases h : 0 ≤ n ∧ n ≤ 2048 ∧ (x.length : Int) = (n + 7) / 8
  · obtain ⟨h1, h2, h3⟩ := h
    rw [show decide (0 ≤ n ∧ n ≤ 2048 ∧ (x.length : Int) = (n + 7) / 8 ∧ ∀ m, n ≤ m → m < 8 * (x.length : Int) → gB x m = false) = decide (∀ m, n ≤ m → m < 8 * (x.length : Int) → gB x m = false) from decide_eq_decide.2 ⟨fun h => h.2.2.2, fun h => ⟨h1, h2, h3, h⟩⟩]
    obtain ⟨K, hK⟩ := Ev.out (Right_loop hx (8 * (x.length : Int) - n).toNat n h1 (by omega))
    refine Ev.mk (K + 1) (fun k hk => ?_)
    obtain ⟨k, rfl⟩ : ∃ m, k = m + 1 := ⟨k - 1, by omega⟩
    unfold carlingref20_Right.f
    rw [if_neg (by omega), if_neg (by omega), w64 (n := n + 7) (by omega) (by omega), td8 (by omega), w64 (by omega) (by omega)]
    simp only [carlingref20_Right.j0]
    rw [if_neg (by simp [h3])]
    exact hK k (by omega)
  · rw [decide_eq_false (fun hh => h ⟨hh.1, hh.2.1, hh.2.2.1⟩)]
    refine Ev.mk 1 (fun k hk => ?_)
    obtain ⟨k, rfl⟩ : ∃ m, k = m + 1 := ⟨k - 1, by omega⟩
    unfold carlingref20_Right.f
    by_cases h0 : n < 0
    · rw [if_pos h0]; simp only [carlingref20_Right.j0, if_true]
    · by_cases h1 : n > 2048
      · rw [if_neg h0, if_pos h1]; simp only [carlingref20_Right.j0, if_true]
      · rw [if_neg h0, if_neg h1, w64 (n := n + 7) (by omega) (by omega), td8 (by omega), w64 (by omega) (by omega)]
        simp only [carlingref20_Right.j0]
        rw [if_pos (by simp; omega)]
open Classical in
theorem Right_eq {x : List Int} (hx : By x) {n : Int} (hI : I64 n) : bitmap_Right.f x n = some (isMap x n) := by
  unfold bitmap_Right.f isMap
  rw [New_eq hI, Option.bind_some]
  by_cases h : n < 0 ∨ n > 2048
  · rw [if_pos h, if_neg (by simp), decide_eq_false (by omega)]
  · rw [if_neg h, if_pos rfl]
    have hl : (((List.replicate ((n + 7) / 8).toNat (0 : Int)).length : Nat) : Int) = (n + 7) / 8 := by rw [List.length_replicate]; omega
    rw [hl]
    by_cases h1 : (n + 7) / 8 = (x.length : Int)
    · rw [if_pos h1, tm8 (by omega)]
      by_cases h2 : n % 8 = 0
      · rw [if_pos h2, decide_eq_true ⟨by omega, by omega, by omega, fun m h3 h4 => absurd h4 (by omega)⟩]
      · have hr := rd_rng hx (i := (x.length : Int) - 1) (by omega) (by omega)
        rw [if_neg h2, w64 (by omega) (by omega), if_pos (by omega), if_pos (by omega), if_pos (by omega), shr_e hr.1 hr.2 (by omega) (by omega)]
        congr 1
        apply decide_eq_decide.2
        have g := gB_byte (x := x) (i := (x.length : Int) - 1) (by omega) (by omega)
        constructor
        · intro hh
          refine ⟨by omega, by omega, by omega, fun m h3 h4 => ?_⟩
          have hm := g (m - 8 * ((x.length : Int) - 1)).toNat (by omega)
          rw [show 8 * ((x.length : Int) - 1) + (((m - 8 * ((x.length : Int) - 1)).toNat : Nat) : Int) = m from by omega] at hm
          rw [hm]
          exact hh ⟨(m - 8 * ((x.length : Int) - 1)).toNat, by omega⟩ (by simp only; omega)
        · intro hh i hi
          rw [← g i.val i.isLt]
          exact hh.2.2.2 _ (by omega) (by omega)
    · rw [if_neg h1, decide_eq_false (fun hh => h1 hh.2.2.1.symm)]
theorem zeros_gB (d : Nat) (m : Int) : gB (List.replicate d 0) m = false := by
  have : rd (List.replicate d 0) (m / 8) = 0 := by
    unfold rd
    rw [List.getD_eq_getElem?_getD, List.getElem?_replicate]
    split <;> rfl
  unfold gB
  rw [this, bit_zero0 ⟨(m % 8).toNat, by omega⟩]
  simp
theorem zeros_cnt (d : Nat) : cnt (List.replicate d 0) = 0 := by
  have : ∀ (q : Nat) (a : Int), (frees (List.replicate d 0) a q).length = q := by
    intro q
    induction q with
    | zero => intro a; rfl
    | succ q ih => intro a; unfold frees; rw [zeros_gB]; simp [ih]
  unfold cnt
  rw [this]; omega
open Classical in
theorem Bits (x : List Int) (n : Int) (b : Bool) (hw : ∀ e ∈ x, (Lit.int .u8 e).wf = true) (hn : (Lit.int .i64 n).wf = true) : ∃ k, carlinglaw20_BitmapBits.f k x n b = some true := by
  obtain ⟨Ka, ha⟩ := Ev.out alive_ev
  by_cases h : (x.length : Int) > 64
  · refine ⟨Ka, ?_⟩
    unfold carlinglaw20_BitmapBits.f
    rw [far_eq, Option.bind_some, if_pos (decide_eq_true h), ha Ka (by omega)]; rfl
  · have hx := by_of hw h
    have hI := i64_of hn
    obtain ⟨y, hy⟩ : ∃ y, y = (if 0 ≤ n ∧ n / 8 < x.length then (upd x n b, (0 : Int)) else ([], 1)) := ⟨_, rfl⟩
    have hset : ∀ k, carlingref20_Set.f (k + 1) x n b = some y := by
      intro k
      rw [hy]
      by_cases ho : 0 ≤ n ∧ n / 8 < x.length
      · rw [if_pos ho]; exact rset_eq hx ho b k
      · rw [if_neg ho]; exact rset_no hI ho b k
    have hyl : y.1.length ≤ 4096 := by
      have := hx.1
      rw [hy]; split
      · simp only [upd_length]; omega
      · simp
    obtain ⟨z, hz⟩ : ∃ z, z = (if n < 0 ∨ n > 2048 then (([] : List Int), (1 : Int)) else (List.replicate ((n + 7) / 8).toNat 0, 0)) := ⟨_, rfl⟩
    have hzB : By z.1 := by
      rw [hz]; split
      · exact ⟨by simp, fun e he => by cases he⟩
      · refine ⟨by simp only [List.length_replicate]; omega, fun e he => ?_⟩
        have := List.eq_of_mem_replicate he
        omega
    obtain ⟨K1, h1⟩ := Ev.out (Same_self (x := y.1) hyl)
    obtain ⟨K2, h2⟩ := Ev.out (rRight_eq hx hI)
    obtain ⟨K3, h3⟩ := Ev.out (rRight_eq hzB hI)
    obtain ⟨K4, h4⟩ := Ev.out (Count_eq hzB)
    obtain ⟨K, hK⟩ : ∃ K, K = Ka + K1 + K2 + K3 + K4 := ⟨_, rfl⟩
    have hmay : isMap z.1 n = decide (0 ≤ n ∧ n ≤ 2048) := by
      unfold isMap
      apply decide_eq_decide.2
      constructor
      · rintro ⟨a1, a2, _⟩; exact ⟨a1, a2⟩
      · rintro ⟨a1, a2⟩
        rw [hz, if_neg (by omega)]
        exact ⟨a1, a2, by simp only [List.length_replicate]; omega, fun m _ _ => zeros_gB _ _⟩
    have hend : ∀ k, K + 1 ≤ k → carlinglaw20_BitmapBits.j1 k x n y.1 y.2 y.1 y.2 z.1 (decide (0 ≤ n ∧ n ≤ 2048)) false = some true := by
      intro k hk
      obtain ⟨k, rfl⟩ : ∃ m, k = m + 1 := ⟨k - 1, by omega⟩
      simp only [carlinglaw20_BitmapBits.j1]
      rw [if_neg (by simp), get_eq hx hI, Option.bind_some, rget_eq hx hI, Option.bind_some, if_pos (by simp), h1 _ (by omega), Option.bind_some, if_pos rfl, if_pos trivial, Right_eq hx hI, Option.bind_some, h2 _ (by omega), Option.bind_some, if_pos (by simp), Right_eq hzB hI, Option.bind_some, hmay, if_pos (by simp), ha _ (by omega)]; rfl
    have hj : carlinglaw20_BitmapBits.j0 (K + 2) x n y.1 y.2 y.1 y.2 z.1 z.2 (decide (0 ≤ n ∧ n ≤ 2048)) = some true := by
      simp only [carlinglaw20_BitmapBits.j0]
      by_cases hm : 0 ≤ n ∧ n ≤ 2048
      · have hz2 : z = (List.replicate ((n + 7) / 8).toNat 0, 0) := by rw [hz, if_neg (by omega)]
        have hz0 : z.2 = 0 := by rw [hz2]
        have hc0 : cnt z.1 = 0 := by rw [hz2]; exact zeros_cnt _
        rw [if_neg (by simp [hz0, hm]), if_pos (decide_eq_true hm), h3 _ (by omega), hmay, Option.bind_some, if_pos (decide_eq_true hm), h4 _ (by omega), hc0, Option.bind_some, if_pos (by rfl)]
        exact hend _ (by omega)
      · have hz2 : z = ([], 1) := by rw [hz, if_pos (by omega)]
        have hz0 : z.2 = 1 := by rw [hz2]
        have hz1 : z.1.length = 0 := by rw [hz2]; rfl
        rw [if_neg (by simp [hz0, hm]), if_neg (by simp [hm]), hz1]
        exact hend _ (by omega)
    refine ⟨K + 2, ?_⟩
    unfold carlinglaw20_BitmapBits.f
    rw [far_eq, Option.bind_some, if_neg (by simpa using h), setf_eq hx hI, ← hy, Option.bind_some, show K + 2 = (K + 1) + 1 from rfl, hset, Option.bind_some, New_eq hI, ← hz, Option.bind_some]
    by_cases hp : n ≥ 0
    · rw [if_pos hp, show decide (n ≤ 2048) = decide (0 ≤ n ∧ n ≤ 2048) from decide_eq_decide.2 (by omega)]
      exact hj
    · rw [if_neg hp, show false = decide (0 ≤ n ∧ n ≤ 2048) from (decide_eq_false (by omega)).symm]
      exact hj
end Go.Proofs.Ytlcbdalgifjocaa.BF
