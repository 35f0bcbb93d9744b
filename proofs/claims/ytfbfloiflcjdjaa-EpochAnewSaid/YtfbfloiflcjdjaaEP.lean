/- The document's Use: its walk. -/
import Derived.Test.YtfbfloiflcjdjaaEO
namespace Go.Proofs.Ytfbfloiflcjdjaa.EO
open Go.RowKit Go.Maps Go.Proofs.YtfbfloiflcjdjaaW.PrintWords Go.Proofs.YtfbfloiflcjdjaaW.PrintLast Go.Proofs.YtfbfloiflcjdjaaW.PrintMore Go.Proofs.Ytfbfloiflcjdjaa.PE Go.Proofs.Ytfbfloiflcjdjaa.EM Go.Proofs.Ytfbfloiflcjdjaa.EN
attribute [local go_sem high] eqA48
set_option linter.unusedVariables false
set_option linter.unusedSimpArgs false
/-- A block of one element's cells. -/
def OneRow (w : World) (g : Nat) (cs : List Value) : Prop := ReadsRow (fun (_ : Unit) c => c = cs) cs.length w (some ⟨g, 0, none⟩) 1 [()]
theorem one_row (w : World) (e : TypeId) (cs : List Value) : OneRow (w.alloc (.cells cs.toArray e)) w.heap.size cs := by
  refine ⟨rfl, by decide, fun _ => ⟨_, rfl, fun j p hj => ⟨cs, rfl, rfl, fun i u hu => ?_⟩⟩⟩
  obtain rfl : j = 0 := by
    have := (List.getElem?_eq_some_iff.1 hj).1
    simp at this
    exact this
  have := blk_cell (blk_new w (.cells cs.toArray e)) i
  have e2 : (Addr.mk w.heap.size 0 none).add (0 * cs.length + i) = ⟨w.heap.size, i, none⟩ := by
    rcases Nat.eq_zero_or_pos i with h | h
    · subst h; simp [Addr.add]
    · have hi : i ≠ 0 := by omega
      simp [Addr.add, hi]
  rw [e2, this]
  simpa using hu
theorem oneU {w : World} {g : Nat} {x : Use} (h : OneRow w g [.int .u32 x.e, .int .i64 x.b]) : ReadsRow (kU.K w) 2 w (some ⟨g, 0, none⟩) 1 [x] := by
  obtain ⟨_, h2, h3⟩ := h
  refine ⟨rfl, h2, fun h0 => ?_⟩
  obtain ⟨ad, e, hc⟩ := h3 h0
  refine ⟨ad, e, fun j p hj => ?_⟩
  have hj0 : j < 1 := by have := (List.getElem?_eq_some_iff.1 hj).1; simpa using this
  obtain rfl : j = 0 := by omega
  obtain ⟨c, hs, hr, hcell⟩ := hc 0 () rfl
  obtain rfl : x = p := by simpa using hj
  exact ⟨c, hs, by rw [hr]; exact ⟨_, _, rfl, rfl, rfl⟩, hcell⟩
theorem below_of_grown {w w1 : World} (hg : w.grownBy w1 (Value.slice none 0 0).ownBlock) : Below w.heap.size w w1 := by
  exact (Below.refl _ _).grown hg (Nat.le_refl _) (fun j hj => by cases hj)
theorem Rm.c2' {base B n c : Nat} {A : Option Addr} {m : RS} {w : World} (h : Rm base B m w (.slice A m.l.length c)) (hn : n = m.l.length) : w.cell? ⟨B, 2, none⟩ = some (.slice A n c) := by rw [hn]; exact h.c2
theorem AfterR.drewN {base B : Nat} {m : RS} {w : World} {vl : Value} (h : Rm base B m w vl) (q : Nat) : AfterR base B m w (w.drewN q) vl := ⟨vl, h.below (pw_below_drewN (Below.refl _ _) q), Kept.refl _ _, .inl rfl, pw_below_drewN (Below.refl base w) q⟩
theorem kept_then {w w1 w2 : World} {S : Nat → Prop} (h : Kept w w1 S) (hb : Below w1.heap.size w1 w2) : Kept w w2 S :=
  ⟨Nat.le_trans h.1 hb.size, fun i hi hn => (hb.block i (Nat.lt_of_lt_of_le hi h.1)).trans (h.2 i hi hn)⟩
theorem AfterR.put {base B n7 c7 : Nat} {A7 : Option Addr} {m : RS} {u : Use} {w wD w7 : World} {vl vl0 : Value} (h : Rm base B m wD vl) (ho : Kd.R kU 48 w7 wD.heap.size (fun _ => True) (.slice A7 n7 c7) (m.l ++ [u])) (hb : Below wD.heap.size wD w7) (hk : Kept w wD (fun k => k = B)) (hw : Below base w wD) :
    AfterR base B ⟨m.last, m.now, m.l ++ [u]⟩ w (w7.setCell ⟨B, 2, none⟩ (.slice A7 n7 c7)) vl0 := by
  have hown : ∀ k, (Value.slice A7 n7 c7).ownBlock = some k → wD.heap.size ≤ k := fun k hk => ((Kd.R_bound ho).1 k hk).2.1
  have hlt := h.lt
  refine ⟨_, ⟨blk_put (h.below hb).box 2 _ rfl, h.hB, ?_⟩, kept_own (kept_then hk hb) _ _, .inr (fun k hk2 => Nat.le_trans hk.1 (hown k hk2)), (below_then hw (Nat.le_trans h.hB (Nat.le_of_lt hlt)) hb).setCell (p := ⟨B, 2, none⟩) h.hB _⟩
  refine rowU_move (Kd.R_lower ho (Nat.le_trans h.hB (Nat.le_of_lt hlt))) (fun k hk2 => Below.heap_setCell w7 ⟨B, 2, none⟩ _ k ?_) (fun k hk2 => ?_)
  · have := hown k hk2
    show k ≠ B
    omega
  · have := hown k hk2
    show k ≠ B
    omega
section
variable {base B : Nat} {m : RS} {w w' : World} {vl : Value}
set_option maxHeartbeats 4000000 in
theorem ruse_calls (b : Int) (w : World) (h : Rm base B m w vl) (hul : m.l.length ≤ 1000000) :
    Calls Try.prog 14 #[.pointer (some ⟨B, 0, none⟩), .int .i64 b] w fun e w' => e = .returned (.int .i64 (m.use b).2) ∧ AfterR base B (m.use b).1 w w' vl := by
  have h1 := h.c1
  have h2 := h.c2
  have hf2 := blk_frozen h.box 2
  obtain ⟨A, c, rfl⟩ := Kd.R_slice h.row
  have HM := Aside0.mk h
  clear h
  unfold RS.use
  by_cases hn : m.now = 0
  · rw [if_pos (.inl hn)]
    rw [hn] at h1
    go_enter Try.func14, Try.ntmps14
    go_wp2
    go_ret
    exact ⟨rfl, AfterR.same HM.out⟩
  · have hnb : (m.now == 0) = false := beq_eq_false_iff_ne.mpr hn
    by_cases hb : b < 0
    · rw [if_pos (.inr hb)]
      have hbb : decide (b < 0) = true := decide_eq_true hb
      clear hb
      go_enter Try.func14, Try.ntmps14
      go_wp2
      go_ret
      exact ⟨rfl, AfterR.same HM.out⟩
    · rw [if_neg (by omega)]
      have hbb : decide (b < 0) = false := decide_eq_false hb
      clear hb hn
      obtain ⟨n, hnl⟩ : ∃ n, n = m.l.length := ⟨_, rfl⟩
      have HN := Aside0.mk hnl
      have hn6 : (n : Int) ≤ 1000000 := by omega
      have hC := (Kd.R_reads' HM.out.row).2.2
      rw [← hnl] at hC h2
      have HC := Aside0.mk hC
      clear hC hnl hul
      go_enter Try.func14, Try.ntmps14
      go_wp2
      go_loopg [5] n (fun gk v5 w' => ∃ k : Nat, v5 = .int .i64 (k : Int) ∧ k + gk = n ∧ Aside0 ((⟨m.now, b⟩ : Use) ∉ m.l.take k ∧ ∃ q, w' = w.drewN q))
      case atStart => exact ⟨0, rfl, by omega, ⟨by simp, 0, rfl⟩⟩
      case round =>
        obtain ⟨k, rfl, hkn, HR⟩ := hrel
        obtain ⟨q, hq⟩ := HR.out.2
        have HR1 := Aside0.mk HR.out.1
        clear HR
        subst hq
        by_cases hlt : k < n
        · obtain ⟨ad, rfl, g0, g1⟩ := at_U (Kd.C_drewN HC.out q) k hlt
          have hge : decide ((k : Int) < (n : Int)) = true := decide_eq_true (by omega)
          have hk0 : (0 : Int) ≤ (k : Int) := by omega
          have hk1 : (k : Int) < (n : Int) := by omega
          have hmemb : (uAt m.l k) ∈ m.l := by
            have hl2 : k < m.l.length := by rw [← HN.out]; exact hlt
            unfold uAt
            rw [List.getD_eq_getElem?_getD, List.getElem?_eq_getElem hl2]
            exact List.getElem_mem hl2
          have htk := uAt_take (xs := m.l) (k := k) (by rw [← HN.out]; exact hlt)
          generalize hu : uAt m.l k = u at g0 g1 hmemb htk
          clear hu
          have HU := Aside0.mk (And.intro hmemb htk)
          clear hmemb htk
          obtain ⟨ue, ub⟩ := u
          by_cases he : ue = m.now ∧ ub = b
          · have t0 : (ue == m.now) = true := beq_iff_eq.mpr he.1
            have t1 : (ub == b) = true := beq_iff_eq.mpr he.2
            have HE := Aside0.mk he
            clear he
            have hin : (⟨m.now, b⟩ : Use) ∈ m.l := by
              have := HU.out.1
              rw [HE.out.1, HE.out.2] at this
              exact this
            go_wp2
            refine start_ (n := 14) (S := fun w' => w'.cell? ⟨B, 2, none⟩ = some (.slice (some ad) n c) ∧ w'.cell? ⟨B, 1, none⟩ = some (.int .u32 m.now) ∧ w'.cell? (ad.add (k * 2)) = some (.int .u32 ue) ∧ w'.cell? ⟨(ad.add (k * 2)).block, (ad.add (k * 2)).off + 1, none⟩ = some (.int .i64 ub)) (ds := []) #[false, false, false, false, false, false, false, false, false, false, false, false, false, false] (by kernel_rfl) rfl rfl ⟨h2, h1, g0, g1⟩ (fun hHeld => ?_)
            refine pure_ (i := 0) (N := some 24) (v := ?_) (a' := ?_) #[true, false, false, false, false, false, false, false, false, false, false, false, false, false] rfl rfl (by kernel_rfl) (fun _ _ _ h => h) (Or.inl ⟨by rfl, ?_⟩) ?_ ?_
            rotate_left
            · intro w'
              go_simp
              with_reducible rfl
            rotate_left
            · simp only [Act.put, List.setIfInBounds_toArray, List.set_cons_zero, List.set_cons_succ, i64_w, i32_w]
              rfl
            refine pure_ (i := 1) (N := some 25) (v := ?_) (a' := ?_) #[true, true, false, false, false, false, false, false, false, false, false, false, false, false] rfl rfl (by kernel_rfl) (fun _ _ _ h => h) (Or.inl ⟨by rfl, ?_⟩) ?_ ?_
            rotate_left
            · intro w'
              go_simp
              with_reducible rfl
            rotate_left
            · simp only [Act.put, List.setIfInBounds_toArray, List.set_cons_zero, List.set_cons_succ, i64_w, i32_w]
              rfl
            refine pure_ (i := 2) (N := some 26) (v := ?_) (a' := ?_) #[true, true, true, false, false, false, false, false, false, false, false, false, false, false] rfl rfl (by kernel_rfl) (fun _ _ _ h => h) (Or.inl ⟨by rfl, ?_⟩) ?_ ?_
            rotate_left
            · intro w'
              go_simp
              with_reducible rfl
            rotate_left
            · simp only [Act.put, List.setIfInBounds_toArray, List.set_cons_zero, List.set_cons_succ, i64_w, i32_w]
              rfl
            refine pure_ (i := 4) (N := some 28) (v := ?_) (a' := ?_) #[true, true, true, false, true, false, false, false, false, false, false, false, false, false] rfl rfl (by kernel_rfl) (fun _ _ _ h => h) (Or.inl ⟨by rfl, ?_⟩) ?_ ?_
            rotate_left
            · intro w'
              go_simp
              with_reducible rfl
            rotate_left
            · simp only [Act.put, List.setIfInBounds_toArray, List.set_cons_zero, List.set_cons_succ, i64_w, i32_w]
              rfl
            refine pure_ (i := 7) (N := some 31) (v := ?_) (a' := ?_) #[true, true, true, false, true, false, false, true, false, false, false, false, false, false] rfl rfl (by kernel_rfl) (fun _ _ _ h => h) (Or.inl ⟨by rfl, ?_⟩) ?_ ?_
            rotate_left
            · intro w'
              go_simp
              with_reducible rfl
            rotate_left
            · simp only [Act.put, List.setIfInBounds_toArray, List.set_cons_zero, List.set_cons_succ, i64_w, i32_w]
              rfl
            refine pure_ (i := 8) (N := some 32) (v := ?_) (a' := ?_) #[true, true, true, false, true, false, false, true, true, false, false, false, false, false] rfl rfl (by kernel_rfl) (fun _ _ _ h => h) (Or.inl ⟨by rfl, ?_⟩) ?_ ?_
            rotate_left
            · intro w'
              go_simp
              with_reducible rfl
            rotate_left
            · simp only [Act.put, List.setIfInBounds_toArray, List.set_cons_zero, List.set_cons_succ, i64_w, i32_w]
              rfl
            refine pure_ (i := 9) (N := some 33) (v := ?_) (a' := ?_) #[true, true, true, false, true, false, false, true, true, true, false, false, false, false] rfl rfl (by kernel_rfl) (fun _ _ _ h => h) (Or.inl ⟨by rfl, ?_⟩) ?_ ?_
            rotate_left
            · intro w'
              go_simp
              with_reducible rfl
            rotate_left
            · simp only [Act.put, List.setIfInBounds_toArray, List.set_cons_zero, List.set_cons_succ, i64_w, i32_w]
              rfl
            refine pure_ (i := 11) (N := some 35) (v := ?_) (a' := ?_) #[true, true, true, false, true, false, false, true, true, true, false, true, false, false] rfl rfl (by kernel_rfl) (fun _ _ _ h => h) (Or.inl ⟨by rfl, ?_⟩) ?_ ?_
            rotate_left
            · intro w'
              go_simp
              with_reducible rfl
            rotate_left
            · simp only [Act.put, List.setIfInBounds_toArray, List.set_cons_zero, List.set_cons_succ, i64_w, i32_w]
              rfl
            refine take_ (i := 3) (N := some 27) (v := ?_) (a' := ?_) #[true, true, true, true, true, false, false, true, true, true, false, true, false, false] rfl rfl (by kernel_rfl) (fun _ _ _ h => h) (Or.inl ⟨by rfl, ?_⟩) hHeld ?_ ?_
            rotate_left
            · rintro w' ⟨s0, s1, s2, s3⟩
              go_simp
              with_reducible rfl
            rotate_left
            · simp only [Act.put, List.setIfInBounds_toArray, List.set_cons_zero, List.set_cons_succ, i64_w, i32_w]
              rfl
            refine pure_ (i := 5) (N := some 29) (v := ?_) (a' := ?_) #[true, true, true, true, true, true, false, true, true, true, false, true, false, false] rfl rfl (by kernel_rfl) (fun _ _ _ h => h) (Or.inl ⟨by rfl, ?_⟩) ?_ ?_
            rotate_left
            · intro w'
              go_simp
              with_reducible rfl
            rotate_left
            · simp only [Act.put, List.setIfInBounds_toArray, List.set_cons_zero, List.set_cons_succ, i64_w, i32_w]
              rfl
            refine take_ (i := 6) (N := some 30) (v := ?_) (a' := ?_) #[true, true, true, true, true, true, true, true, true, true, false, true, false, false] rfl rfl (by kernel_rfl) (fun _ _ _ h => h) (Or.inl ⟨by rfl, ?_⟩) hHeld ?_ ?_
            rotate_left
            · rintro w' ⟨s0, s1, s2, s3⟩
              go_simp
              with_reducible rfl
            rotate_left
            · simp only [Act.put, List.setIfInBounds_toArray, List.set_cons_zero, List.set_cons_succ, i64_w, i32_w]
              rfl
            refine take_ (i := 10) (N := some 34) (v := ?_) (a' := ?_) #[true, true, true, true, true, true, true, true, true, true, true, true, false, false] rfl rfl (by kernel_rfl) (fun _ _ _ h => h) (Or.inl ⟨by rfl, ?_⟩) hHeld ?_ ?_
            rotate_left
            · rintro w' ⟨s0, s1, s2, s3⟩
              go_simp
              with_reducible rfl
            rotate_left
            · simp only [Act.put, List.setIfInBounds_toArray, List.set_cons_zero, List.set_cons_succ, i64_w, i32_w]
              rfl
            refine pure_ (i := 12) (N := some 36) (v := ?_) (a' := ?_) #[true, true, true, true, true, true, true, true, true, true, true, true, true, false] rfl rfl (by kernel_rfl) (fun _ _ _ h => h) (Or.inl ⟨by rfl, ?_⟩) ?_ ?_
            rotate_left
            · intro w'
              go_simp
              with_reducible rfl
            rotate_left
            · simp only [Act.put, List.setIfInBounds_toArray, List.set_cons_zero, List.set_cons_succ, i64_w, i32_w]
              rfl
            refine pure_ (i := 13) (N := some 37) (v := ?_) (a' := ?_) #[true, true, true, true, true, true, true, true, true, true, true, true, true, true] rfl rfl (by kernel_rfl) (fun _ _ _ h => h) (Or.inl ⟨by rfl, ?_⟩) ?_ ?_
            rotate_left
            · intro w'
              go_simp
              with_reducible rfl
            rotate_left
            · simp only [Act.put, List.setIfInBounds_toArray, List.set_cons_zero, List.set_cons_succ, i64_w, i32_w]
              rfl
            refine done_ (by kernel_rfl) ?_
            go_wp2
            go_ret
            exact ⟨rfl, AfterR.drewN HM.out _⟩
          · have t2 : (ue == m.now && (ub == b)) = false := by
              rw [Bool.and_eq_false_iff]
              by_cases h9 : ue = m.now
              · exact .inr (beq_eq_false_iff_ne.mpr (fun h8 => he ⟨h9, h8⟩))
              · exact .inl (beq_eq_false_iff_ne.mpr h9)
            have HE := Aside0.mk he
            clear he
            go_wp2
            refine start_ (n := 14) (S := fun w' => w'.cell? ⟨B, 2, none⟩ = some (.slice (some ad) n c) ∧ w'.cell? ⟨B, 1, none⟩ = some (.int .u32 m.now) ∧ w'.cell? (ad.add (k * 2)) = some (.int .u32 ue) ∧ w'.cell? ⟨(ad.add (k * 2)).block, (ad.add (k * 2)).off + 1, none⟩ = some (.int .i64 ub)) (ds := []) #[false, false, false, false, false, false, false, false, false, false, false, false, false, false] (by kernel_rfl) rfl rfl ⟨h2, h1, g0, g1⟩ (fun hHeld => ?_)
            refine pure_ (i := 0) (N := some 24) (v := ?_) (a' := ?_) #[true, false, false, false, false, false, false, false, false, false, false, false, false, false] rfl rfl (by kernel_rfl) (fun _ _ _ h => h) (Or.inl ⟨by rfl, ?_⟩) ?_ ?_
            rotate_left
            · intro w'
              go_simp
              with_reducible rfl
            rotate_left
            · simp only [Act.put, List.setIfInBounds_toArray, List.set_cons_zero, List.set_cons_succ, i64_w, i32_w]
              rfl
            refine pure_ (i := 1) (N := some 25) (v := ?_) (a' := ?_) #[true, true, false, false, false, false, false, false, false, false, false, false, false, false] rfl rfl (by kernel_rfl) (fun _ _ _ h => h) (Or.inl ⟨by rfl, ?_⟩) ?_ ?_
            rotate_left
            · intro w'
              go_simp
              with_reducible rfl
            rotate_left
            · simp only [Act.put, List.setIfInBounds_toArray, List.set_cons_zero, List.set_cons_succ, i64_w, i32_w]
              rfl
            refine pure_ (i := 2) (N := some 26) (v := ?_) (a' := ?_) #[true, true, true, false, false, false, false, false, false, false, false, false, false, false] rfl rfl (by kernel_rfl) (fun _ _ _ h => h) (Or.inl ⟨by rfl, ?_⟩) ?_ ?_
            rotate_left
            · intro w'
              go_simp
              with_reducible rfl
            rotate_left
            · simp only [Act.put, List.setIfInBounds_toArray, List.set_cons_zero, List.set_cons_succ, i64_w, i32_w]
              rfl
            refine pure_ (i := 4) (N := some 28) (v := ?_) (a' := ?_) #[true, true, true, false, true, false, false, false, false, false, false, false, false, false] rfl rfl (by kernel_rfl) (fun _ _ _ h => h) (Or.inl ⟨by rfl, ?_⟩) ?_ ?_
            rotate_left
            · intro w'
              go_simp
              with_reducible rfl
            rotate_left
            · simp only [Act.put, List.setIfInBounds_toArray, List.set_cons_zero, List.set_cons_succ, i64_w, i32_w]
              rfl
            refine pure_ (i := 7) (N := some 31) (v := ?_) (a' := ?_) #[true, true, true, false, true, false, false, true, false, false, false, false, false, false] rfl rfl (by kernel_rfl) (fun _ _ _ h => h) (Or.inl ⟨by rfl, ?_⟩) ?_ ?_
            rotate_left
            · intro w'
              go_simp
              with_reducible rfl
            rotate_left
            · simp only [Act.put, List.setIfInBounds_toArray, List.set_cons_zero, List.set_cons_succ, i64_w, i32_w]
              rfl
            refine pure_ (i := 8) (N := some 32) (v := ?_) (a' := ?_) #[true, true, true, false, true, false, false, true, true, false, false, false, false, false] rfl rfl (by kernel_rfl) (fun _ _ _ h => h) (Or.inl ⟨by rfl, ?_⟩) ?_ ?_
            rotate_left
            · intro w'
              go_simp
              with_reducible rfl
            rotate_left
            · simp only [Act.put, List.setIfInBounds_toArray, List.set_cons_zero, List.set_cons_succ, i64_w, i32_w]
              rfl
            refine pure_ (i := 9) (N := some 33) (v := ?_) (a' := ?_) #[true, true, true, false, true, false, false, true, true, true, false, false, false, false] rfl rfl (by kernel_rfl) (fun _ _ _ h => h) (Or.inl ⟨by rfl, ?_⟩) ?_ ?_
            rotate_left
            · intro w'
              go_simp
              with_reducible rfl
            rotate_left
            · simp only [Act.put, List.setIfInBounds_toArray, List.set_cons_zero, List.set_cons_succ, i64_w, i32_w]
              rfl
            refine pure_ (i := 11) (N := some 35) (v := ?_) (a' := ?_) #[true, true, true, false, true, false, false, true, true, true, false, true, false, false] rfl rfl (by kernel_rfl) (fun _ _ _ h => h) (Or.inl ⟨by rfl, ?_⟩) ?_ ?_
            rotate_left
            · intro w'
              go_simp
              with_reducible rfl
            rotate_left
            · simp only [Act.put, List.setIfInBounds_toArray, List.set_cons_zero, List.set_cons_succ, i64_w, i32_w]
              rfl
            refine take_ (i := 3) (N := some 27) (v := ?_) (a' := ?_) #[true, true, true, true, true, false, false, true, true, true, false, true, false, false] rfl rfl (by kernel_rfl) (fun _ _ _ h => h) (Or.inl ⟨by rfl, ?_⟩) hHeld ?_ ?_
            rotate_left
            · rintro w' ⟨s0, s1, s2, s3⟩
              go_simp
              with_reducible rfl
            rotate_left
            · simp only [Act.put, List.setIfInBounds_toArray, List.set_cons_zero, List.set_cons_succ, i64_w, i32_w]
              rfl
            refine pure_ (i := 5) (N := some 29) (v := ?_) (a' := ?_) #[true, true, true, true, true, true, false, true, true, true, false, true, false, false] rfl rfl (by kernel_rfl) (fun _ _ _ h => h) (Or.inl ⟨by rfl, ?_⟩) ?_ ?_
            rotate_left
            · intro w'
              go_simp
              with_reducible rfl
            rotate_left
            · simp only [Act.put, List.setIfInBounds_toArray, List.set_cons_zero, List.set_cons_succ, i64_w, i32_w]
              rfl
            refine take_ (i := 6) (N := some 30) (v := ?_) (a' := ?_) #[true, true, true, true, true, true, true, true, true, true, false, true, false, false] rfl rfl (by kernel_rfl) (fun _ _ _ h => h) (Or.inl ⟨by rfl, ?_⟩) hHeld ?_ ?_
            rotate_left
            · rintro w' ⟨s0, s1, s2, s3⟩
              go_simp
              with_reducible rfl
            rotate_left
            · simp only [Act.put, List.setIfInBounds_toArray, List.set_cons_zero, List.set_cons_succ, i64_w, i32_w]
              rfl
            refine take_ (i := 10) (N := some 34) (v := ?_) (a' := ?_) #[true, true, true, true, true, true, true, true, true, true, true, true, false, false] rfl rfl (by kernel_rfl) (fun _ _ _ h => h) (Or.inl ⟨by rfl, ?_⟩) hHeld ?_ ?_
            rotate_left
            · rintro w' ⟨s0, s1, s2, s3⟩
              go_simp
              with_reducible rfl
            rotate_left
            · simp only [Act.put, List.setIfInBounds_toArray, List.set_cons_zero, List.set_cons_succ, i64_w, i32_w]
              rfl
            refine pure_ (i := 12) (N := some 36) (v := ?_) (a' := ?_) #[true, true, true, true, true, true, true, true, true, true, true, true, true, false] rfl rfl (by kernel_rfl) (fun _ _ _ h => h) (Or.inl ⟨by rfl, ?_⟩) ?_ ?_
            rotate_left
            · intro w'
              go_simp
              with_reducible rfl
            rotate_left
            · simp only [Act.put, List.setIfInBounds_toArray, List.set_cons_zero, List.set_cons_succ, i64_w, i32_w]
              rfl
            refine pure_ (i := 13) (N := some 37) (v := ?_) (a' := ?_) #[true, true, true, true, true, true, true, true, true, true, true, true, true, true] rfl rfl (by kernel_rfl) (fun _ _ _ h => h) (Or.inl ⟨by rfl, ?_⟩) ?_ ?_
            rotate_left
            · intro w'
              go_simp
              with_reducible rfl
            rotate_left
            · simp only [Act.put, List.setIfInBounds_toArray, List.set_cons_zero, List.set_cons_succ, i64_w, i32_w]
              rfl
            refine done_ (by kernel_rfl) ?_
            go_wp2
            go_roundg (gk - 1)
            case measure => omega
            case rel => exact ⟨k + 1, by go_num, by omega, ⟨(by rw [HU.out.2]; intro h9; rcases List.mem_append.1 h9 with h9 | h9; exact HR1.out h9; have h8 := List.mem_singleton.1 h9; injection h8 with h8 h7; exact HE.out ⟨h8.symm, h7.symm⟩), q + 1, rfl⟩⟩
        · obtain rfl : n = k := by omega
          have hge : decide ((n : Int) < (n : Int)) = false := decide_eq_false (by omega)
          have HMq := Aside0.mk (HM.out.below (pw_below_drewN (Below.refl _ _) q))
          have HCq := Aside0.mk (Kd.C_drewN HC.out q)
          clear HM HC hlt
          have HM := HMq
          have HC := HCq
          have HB0 := Aside0.mk (pw_below_drewN (Below.refl base w) q)
          have HK0 := Aside0.mk (show Kept w (w.drewN q) (fun j => j = B) from Kept.refl w _)
          have HS0 := Aside0.mk (show (w.drewN q).heap.size = w.heap.size from rfl)
          clear HMq HCq
          have h1 := HM.out.c1
          have h2 := HM.out.c2
          rw [show m.l.length = n from HN.out.symm] at h2
          have hf2 := blk_frozen HM.out.box 2
          have hnin : (⟨m.now, b⟩ : Use) ∉ m.l := by
            have := HR1.out
            rw [HN.out, List.take_length] at this
            exact this
          have HR2 := HR1
          clear HR1
          generalize w.drewN q = w0 at h1 h2 hf2 HM HC HB0 HK0 HS0 ⊢
          go_wp2
          refine start_ (n := 17) (S := fun w' => w'.cell? ⟨B, 2, none⟩ = some (.slice A n c) ∧ w'.cell? ⟨B, 1, none⟩ = some (.int .u32 m.now)) (ds := [16]) #[false, false, false, false, false, false, false, false, false, false, false, false, false, false, false, false, false] (by kernel_rfl) rfl rfl ⟨h2, h1⟩ (fun hHeld => ?_)
          have HMd := Aside0.mk (HM.out.below (below_drew1 (Below.refl _ w0)))
          have HCd := Aside0.mk (Kd.C_drew HC.out)
          have HWd := Aside0.mk (below_drew1 HB0.out)
          have HKd := Aside0.mk (kept_drew HK0.out)
          have HSd := Aside0.mk (show w0.drew.heap.size = w.heap.size from HS0.out)
          clear HM HC HB0 HK0 HS0
          have HM := HMd
          have HC := HCd
          clear HMd HCd
          generalize w0.drew = wD at hHeld HM HC HWd HKd HSd ⊢
          refine pure_ (i := 0) (N := some 38) (v := ?_) (a' := ?_) #[true, false, false, false, false, false, false, false, false, false, false, false, false, false, false, false, false] rfl rfl (by kernel_rfl) (fun _ _ _ h => h) (Or.inl ⟨by rfl, ?_⟩) ?_ ?_
          rotate_left
          · intro w'
            go_simp
            with_reducible rfl
          rotate_left
          · simp only [Act.put, List.setIfInBounds_toArray, List.set_cons_zero, List.set_cons_succ, i64_w, i32_w]
            rfl
          refine pure_ (i := 1) (N := some 39) (v := ?_) (a' := ?_) #[true, true, false, false, false, false, false, false, false, false, false, false, false, false, false, false, false] rfl rfl (by kernel_rfl) (fun _ _ _ h => h) (Or.inl ⟨by rfl, ?_⟩) ?_ ?_
          rotate_left
          · intro w'
            go_simp
            with_reducible rfl
          rotate_left
          · simp only [Act.put, List.setIfInBounds_toArray, List.set_cons_zero, List.set_cons_succ, i64_w, i32_w]
            rfl
          refine pure_ (i := 2) (N := some 40) (v := ?_) (a' := ?_) #[true, true, true, false, false, false, false, false, false, false, false, false, false, false, false, false, false] rfl rfl (by kernel_rfl) (fun _ _ _ h => h) (Or.inl ⟨by rfl, ?_⟩) ?_ ?_
          rotate_left
          · intro w'
            go_simp
            with_reducible rfl
          rotate_left
          · simp only [Act.put, List.setIfInBounds_toArray, List.set_cons_zero, List.set_cons_succ, i64_w, i32_w]
            rfl
          refine pure_ (i := 3) (N := some 41) (v := ?_) (a' := ?_) #[true, true, true, true, false, false, false, false, false, false, false, false, false, false, false, false, false] rfl rfl (by kernel_rfl) (fun _ _ _ h => h) (Or.inl ⟨by rfl, ?_⟩) ?_ ?_
          rotate_left
          · intro w'
            go_simp
            with_reducible rfl
          rotate_left
          · simp only [Act.put, List.setIfInBounds_toArray, List.set_cons_zero, List.set_cons_succ, i64_w, i32_w]
            rfl
          refine pure_ (i := 6) (N := some 44) (v := ?_) (a' := ?_) #[true, true, true, true, false, false, true, false, false, false, false, false, false, false, false, false, false] rfl rfl (by kernel_rfl) (fun _ _ _ h => h) (Or.inl ⟨by rfl, ?_⟩) ?_ ?_
          rotate_left
          · intro w'
            go_simp
            with_reducible rfl
          rotate_left
          · simp only [Act.put, List.setIfInBounds_toArray, List.set_cons_zero, List.set_cons_succ, i64_w, i32_w]
            rfl
          refine pure_ (i := 7) (N := some 45) (v := ?_) (a' := ?_) #[true, true, true, true, false, false, true, true, false, false, false, false, false, false, false, false, false] rfl rfl (by kernel_rfl) (fun _ _ _ h => h) (Or.inl ⟨by rfl, ?_⟩) ?_ ?_
          rotate_left
          · intro w'
            go_simp
            with_reducible rfl
          rotate_left
          · simp only [Act.put, List.setIfInBounds_toArray, List.set_cons_zero, List.set_cons_succ, i64_w, i32_w]
            rfl
          refine pure_ (i := 8) (N := some 46) (v := ?_) (a' := ?_) #[true, true, true, true, false, false, true, true, true, false, false, false, false, false, false, false, false] rfl rfl (by kernel_rfl) (fun _ _ _ h => h) (Or.inl ⟨by rfl, ?_⟩) ?_ ?_
          rotate_left
          · intro w'
            go_simp
            with_reducible rfl
          rotate_left
          · simp only [Act.put, List.setIfInBounds_toArray, List.set_cons_zero, List.set_cons_succ, i64_w, i32_w]
            rfl
          refine pure_ (i := 10) (N := some 48) (v := ?_) (a' := ?_) #[true, true, true, true, false, false, true, true, true, false, true, false, false, false, false, false, false] rfl rfl (by kernel_rfl) (fun _ _ _ h => h) (Or.inl ⟨by rfl, ?_⟩) ?_ ?_
          rotate_left
          · intro w'
            go_simp
            with_reducible rfl
          rotate_left
          · simp only [Act.put, List.setIfInBounds_toArray, List.set_cons_zero, List.set_cons_succ, i64_w, i32_w]
            rfl
          refine take_ (i := 4) (N := some 42) (v := ?_) (a' := ?_) #[true, true, true, true, true, false, true, true, true, false, true, false, false, false, false, false, false] rfl rfl (by kernel_rfl) (fun _ _ _ h => h) (Or.inl ⟨by rfl, ?_⟩) hHeld ?_ ?_
          rotate_left
          · rintro w' ⟨s0, s1⟩
            go_simp
            with_reducible rfl
          rotate_left
          · simp only [Act.put, List.setIfInBounds_toArray, List.set_cons_zero, List.set_cons_succ, i64_w, i32_w]
            rfl
          refine take_ (i := 9) (N := some 47) (v := ?_) (a' := ?_) #[true, true, true, true, true, false, true, true, true, true, true, false, false, false, false, false, false] rfl rfl (by kernel_rfl) (fun _ _ _ h => h) (Or.inl ⟨by rfl, ?_⟩) hHeld ?_ ?_
          rotate_left
          · rintro w' ⟨s0, s1⟩
            go_simp
            with_reducible rfl
          rotate_left
          · simp only [Act.put, List.setIfInBounds_toArray, List.set_cons_zero, List.set_cons_succ, i64_w, i32_w]
            rfl
          refine pure_ (i := 11) (N := some 49) (v := ?_) (a' := ?_) #[true, true, true, true, true, false, true, true, true, true, true, true, false, false, false, false, false] rfl rfl (by kernel_rfl) (fun _ _ _ h => h) (Or.inl ⟨by rfl, ?_⟩) ?_ ?_
          rotate_left
          · intro w'
            go_simp
            with_reducible rfl
          rotate_left
          · simp only [Act.put, List.setIfInBounds_toArray, List.set_cons_zero, List.set_cons_succ, i64_w, i32_w]
            rfl
          refine join_ (σ := Value × Nat) 4 #[true, true, true, true, true, true, true, true, true, true, true, true, true, false, false, false, false] (fun s => [(43, s.1), (50, .slice (some ⟨s.2, 0, none⟩) 1 1)]) (fun s w' => Kd.R kU 48 w' wD.heap.size (fun _ => True) s.1 m.l ∧ OneRow w' s.2 [.int .u32 m.now, .int .i64 b] ∧ Below wD.heap.size wD w') ?_ ?_
          rotate_left
          · intro hCont
            refine two_ (i := 5) (j := 12) (Ni := some 43) (Nj := some 50) #[true, true, true, true, true, true, true, true, true, true, true, true, false, false, false, false, false] #[true, true, true, true, true, false, true, true, true, true, true, true, true, false, false, false, false] rfl rfl rfl rfl (by kernel_rfl) (by decide) (by decide) (fun K hK => ?_) (fun K hK => ?_)
            · skip
              refine Kd.R_append_rows_step kU (w0 := wD) wD.heap.size (by rfl) (.const (.slice none 0 0)) (.tmp 42) 40 48 (.agg #[.int .u32 0, .int .i64 0]) 16 rfl Try.underlying40 info48 rfl (by decide) (by decide) (.slice none 0 0) [] m.l A n c (fun _ => True) (fun _ => False) rfl rfl (Kd.R_nil _ _ _ _ _) HC.out (fun x cs hx => by obtain rfl := kU_open hx; exact kU_mkM _ _ _ _) (fun _ h => h.elim) (fun _ _ => trivial) (Below.refl _ _) (Nat.le_refl _) (by simp only [List.length_nil]; omega) ?_
              intro v5 w5 ho5 hb5 hg5 hat5
              rw [List.nil_append] at ho5
              have HO5 := Aside0.mk ho5
              have HB5 := Aside0.mk hb5
              clear ho5 hb5 hg5 hat5
              refine hK.out _ _ ⟨((HM.out.below HB5.out).c2' HN.out), ((HM.out.below HB5.out).c1)⟩ (fun hHeld => ?_)
              clear hK K
              refine norm_ (a' := ?_) ?_ ?_
              rotate_left
              · show Act.put _ (some 43) _ = _
                simp only [Act.put, List.setIfInBounds_toArray, List.set_cons_zero, List.set_cons_succ, i64_w, i32_w]
                rfl
              refine one_ (i := 12) (N := some 50) #[true, true, true, true, true, true, true, true, true, true, true, true, true, false, false, false, false] rfl rfl (by kernel_rfl) (by decide) (fun K hK => ?_)
              refine value_ (w1 := ?_) (v := ?_) (by rfl) rfl ?_ ?_
              rotate_left 2
              · go_simp
                constructor
                · rfl
                · rfl
              have HX5 := Aside0.mk (one_row w5 48 [.int .u32 m.now, .int .i64 b])
              have HO6 := Aside0.mk (Kd.R_alloc HO5.out (.cells #[.int .u32 m.now, .int .i64 b] 48))
              have HB6 := Aside0.mk (HB5.out.alloc HB5.out.size (.cells #[.int .u32 m.now, .int .i64 b] 48))
              refine hK.out _ _ ⟨((HM.out.below HB6.out).c2' HN.out), ((HM.out.below HB6.out).c1)⟩ (fun hHeld => ?_)
              clear hK K
              refine norm_ (a' := ?_) ?_ ?_
              rotate_left
              · show Act.put _ (some 50) _ = _
                simp only [Act.put, List.setIfInBounds_toArray, List.set_cons_zero, List.set_cons_succ, i64_w, i32_w]
                rfl
              exact norm_ (by simp only [putAll, Act.put, List.setIfInBounds_toArray, List.set_cons_zero, List.set_cons_succ]) (hCont (v5, w5.heap.size) _ ⟨HO6.out, HX5.out, HB6.out⟩)
            · skip
              refine value_ (w1 := ?_) (v := ?_) (by rfl) rfl ?_ ?_
              rotate_left 2
              · go_simp
                constructor
                · rfl
                · rfl
              have HX := Aside0.mk (one_row wD 48 [.int .u32 m.now, .int .i64 b])
              refine hK.out _ _ ⟨((HM.out.below ((Below.refl wD.heap.size wD).alloc (Nat.le_refl _) (.cells #[.int .u32 m.now, .int .i64 b] 48))).c2' HN.out), ((HM.out.below ((Below.refl wD.heap.size wD).alloc (Nat.le_refl _) (.cells #[.int .u32 m.now, .int .i64 b] 48))).c1)⟩ (fun hHeld => ?_)
              clear hK K
              refine norm_ (a' := ?_) ?_ ?_
              rotate_left
              · show Act.put _ (some 50) _ = _
                simp only [Act.put, List.setIfInBounds_toArray, List.set_cons_zero, List.set_cons_succ, i64_w, i32_w]
                rfl
              refine one_ (i := 5) (N := some 43) #[true, true, true, true, true, true, true, true, true, true, true, true, true, false, false, false, false] rfl rfl (by kernel_rfl) (by decide) (fun K hK => ?_)
              refine Kd.R_append_rows_step kU (w0 := wD) wD.heap.size (by rfl) (.const (.slice none 0 0)) (.tmp 42) 40 48 (.agg #[.int .u32 0, .int .i64 0]) 16 rfl Try.underlying40 info48 rfl (by decide) (by decide) (.slice none 0 0) [] m.l A n c (fun _ => True) (fun _ => False) rfl rfl (Kd.R_nil _ _ _ _ _) (Kd.C_alloc HC.out _) (fun x cs hx => by obtain rfl := kU_open hx; exact kU_mkM _ _ _ _) (fun _ h => h.elim) (fun _ _ => trivial) ((Below.refl _ _).alloc (Nat.le_refl _) _) (by simp) (by simp only [List.length_nil]; omega) ?_
              intro v5 w5 ho5 hb5 hg5 hat5
              rw [List.nil_append] at ho5
              have HO5 := Aside0.mk ho5
              have HB5 := Aside0.mk hb5
              have HX5 := Aside0.mk (ReadsRow.imp_ HX.out (below_of_grown hg5) (fun _ _ h => h))
              clear HX
              clear ho5 hb5 hg5 hat5
              refine hK.out _ _ ⟨((HM.out.below HB5.out).c2' HN.out), ((HM.out.below HB5.out).c1)⟩ (fun hHeld => ?_)
              clear hK K
              refine norm_ (a' := ?_) ?_ ?_
              rotate_left
              · show Act.put _ (some 43) _ = _
                simp only [Act.put, List.setIfInBounds_toArray, List.set_cons_zero, List.set_cons_succ, i64_w, i32_w]
                rfl
              exact norm_ (by simp only [putAll, Act.put, List.setIfInBounds_toArray, List.set_cons_zero, List.set_cons_succ]) (hCont (v5, wD.heap.size) _ ⟨HO5.out, HX5.out, HB5.out⟩)
          rintro ⟨v5, g5⟩ w6 ⟨ho6, hx6, hb6⟩
          have HO6 := Aside0.mk ho6
          have HX6 := Aside0.mk hx6
          have HB6 := Aside0.mk hb6
          have hHeld : (w6.cell? ⟨B, 2, none⟩ = some (.slice A n c) ∧ w6.cell? ⟨B, 1, none⟩ = some (.int .u32 m.now)) := ⟨(HM.out.below hb6).c2' HN.out, (HM.out.below hb6).c1⟩
          clear ho6 hx6 hb6
          refine norm_ (a' := ?_) ?_ ?_
          rotate_left
          · simp only [putAll, Act.put, List.setIfInBounds_toArray, List.set_cons_zero, List.set_cons_succ]
            rfl
          refine one_ (i := 13) (N := some 51) #[true, true, true, true, true, true, true, true, true, true, true, true, true, true, false, false, false] rfl rfl (by kernel_rfl) (by decide) (fun K hK => ?_)
          refine Kd.R_append_rows_step kU (w0 := wD) wD.heap.size (by rfl) (.tmp 43) (.tmp 50) 40 48 (.agg #[.int .u32 0, .int .i64 0]) 16 rfl Try.underlying40 info48 rfl (by decide) (by decide) v5 m.l [⟨m.now, b⟩] (some ⟨g5, 0, none⟩) 1 1 (fun _ => True) (fun _ => False) rfl rfl HO6.out (oneU HX6.out) (fun x cs hx => by obtain rfl := kU_open hx; exact kU_mkM _ _ _ _) (fun _ h => h.elim) (fun _ _ => trivial) HB6.out HB6.out.size (by have := HN.out; omega) ?_
          intro v7 w7 ho7 hb7 hg7 hat7
          obtain ⟨A7, c7, rfl⟩ := Kd.R_slice ho7
          have HL7 := Aside0.mk (rfl : (m.l ++ [(⟨m.now, b⟩ : Use)]).length = _)
          have HAT7 := Aside0.mk hat7
          revert ho7 HL7 HAT7
          generalize h97 : (m.l ++ [(⟨m.now, b⟩ : Use)]).length = n7
          intro ho7 HL7 HAT7
          clear h97
          have HO7 := Aside0.mk ho7
          have HB7 := Aside0.mk hb7
          have hcz : w7.cell? ⟨B, 2, none⟩ = some (.slice A n c) := (HM.out.below hb7).c2' HN.out
          have hfz : w7.frozen? ⟨B, 2, none⟩ = false := blk_frozen (HM.out.below hb7).box 2
          clear ho7 hb7 hg7 hat7
          refine hK.out _ _ ⟨((HM.out.below HB7.out).c2' HN.out), ((HM.out.below HB7.out).c1)⟩ (fun hHeld => ?_)
          clear hK K
          refine norm_ (a' := ?_) ?_ ?_
          rotate_left
          · show Act.put _ (some 51) _ = _
            simp only [Act.put, List.setIfInBounds_toArray, List.set_cons_zero, List.set_cons_succ, i64_w, i32_w]
            rfl
          refine pure_ (i := 14) (N := some 52) (v := ?_) (a' := ?_) #[true, true, true, true, true, true, true, true, true, true, true, true, true, true, true, false, false] rfl rfl (by kernel_rfl) (fun _ _ _ h => h) (Or.inl ⟨by rfl, ?_⟩) ?_ ?_
          rotate_left
          · intro w'
            go_simp
            with_reducible rfl
          rotate_left
          · simp only [Act.put, List.setIfInBounds_toArray, List.set_cons_zero, List.set_cons_succ, i64_w, i32_w]
            rfl
          refine pure_ (i := 15) (N := some 53) (v := ?_) (a' := ?_) #[true, true, true, true, true, true, true, true, true, true, true, true, true, true, true, true, false] rfl rfl (by kernel_rfl) (fun _ _ _ h => h) (Or.inl ⟨by rfl, ?_⟩) ?_ ?_
          rotate_left
          · intro w'
            go_simp
            with_reducible rfl
          rotate_left
          · simp only [Act.put, List.setIfInBounds_toArray, List.set_cons_zero, List.set_cons_succ, i64_w, i32_w]
            rfl
          refine last_ (i := 16) (N := none) #[true, true, true, true, true, true, true, true, true, true, true, true, true, true, true, true, true] rfl rfl (by kernel_rfl) (by decide) (fun K hK => ?_)
          refine Go.Proofs.YtfbfloiflcjdjaaW.PrintLast.skip_ (w1 := ?_) (by rfl) rfl ?_ ?_
          rotate_left
          · go_simp
            rfl
          refine hK.out _ _ ?_
          clear hK K
          refine done_ (by kernel_rfl) ?_
          go_wp2
          go_ret
          exact ⟨rfl, AfterR.put HM.out HO7.out HB7.out HKd.out HWd.out⟩
end
end Go.Proofs.Ytfbfloiflcjdjaa.EO
