/- The law ShapeOne: what the code comes to, by hand (it keeps a map), over the answers of what it calls. -/
import Derived.Test.YthpmlhiilmaigaaPSx1
import Derived.Test.YthpmlhiilmaigaaPSx2
import Derived.Test.YthpmlhiilmaigaaSA
import Derived.Maps.OwnOps
import Derived.Maps.Views
import Derived.StillTailTactics
namespace Go.Proofs.Ythpmlhiilmaigaa.SO
open Go.RowKit Go.Maps Go.Proofs.YthpmlhiilmaigaaW.PrintWords Go.Proofs.YthpmlhiilmaigaaW.PrintLast Go.Proofs.YthpmlhiilmaigaaW.PrintMore Go.Proofs.Ythpmlhiilmaigaa.PS Go.Proofs.Ythpmlhiilmaigaa.SA
/-- The map behind v items that were met. -/
def M : Nat → DataW Unit
  | 0 => .map []
  | v + 1 => (M v).put (.int .i64 (v : Int)) (.lit (.int .i64 1))
theorem M_isMap : ∀ v, IsMap (M v)
  | 0 => ⟨_, rfl⟩
  | v + 1 => by obtain ⟨es, h⟩ := M_isMap v; unfold M; rw [h]; exact ⟨_, rfl⟩
theorem M_not {x : Int} : ∀ v : Nat, ¬ (0 ≤ x ∧ x < v) → (M v).atKey (.int .i64 x) (.lit (.int .i64 0)) = .lit (.int .i64 0)
  | 0, _ => rfl
  | v + 1, h => by
    unfold M
    rw [atKey_put_other (by intro he; injection he with _ he; omega)]
    exact M_not v (by omega)
theorem M_is {x : Int} : ∀ v : Nat, 0 ≤ x → x < v → (M v).atKey (.int .i64 x) (.lit (.int .i64 0)) = .lit (.int .i64 1)
  | 0, _, h => by omega
  | v + 1, h0, h1 => by
    unfold M
    by_cases he : x = v
    · rw [he]; exact atKey_put_same (M_isMap v) (by trivial) _ _
    · rw [atKey_put_other (by intro he2; injection he2 with _ he2; omega)]
      exact M_is v h0 (by omega)
theorem law3 : Keyed Try.prog 3 := int_keyed Try.underlying3
theorem zero3 (w : World) : (zeroValue 3).run Try.prog w = .ok (.int .i64 0) w := by kernel_rfl
theorem own_below {w w' : World} {b n : Nat} {D : DataW Unit} (h : w.ownsMap Try.prog 3 (plainElem Try.prog 3) b n D) (hb : Below w.heap.size w w') : w'.ownsMap Try.prog 3 (plainElem Try.prog 3) b n D := by
  have hlt := h.lt
  obtain ⟨es, clock, hb0, F, hs, hD⟩ := h
  exact ⟨es, clock, (hb.block b hlt).trans hb0, F, hs, hD⟩
theorem R_gr {w w' : World} {base B : Nat} {v : Value} {l : List Int} (h : Kd.R (Kd.int .i64) 3 w base (fun k => k ≠ B) v l) (hg : w.grownBy w' (some B)) : Kd.R (Kd.int .i64) 3 w' base (fun k => k ≠ B) v l :=
  Kd.R_mono (Kd.R_move (Kd.R_bound h) (fun k hk => hg.block k hk.2.2.1 (by intro he; injection he with he; exact hk.1 he))) (fun _ hk => hk.1)
/-- What the callees answer of a shape of n items: item i's children are the items from v i to v (i + 1). -/
structure Facts (k : Nat) (p : Int) (l : List Int) (n : Nat) (v : Nat → Nat) (lv : Int → Int) : Prop where
  new : shape_New.f k p = some (l, 0)
  n1 : n ≤ 1000
  items : shape_Shape_Items.f l = some (n : Int)
  root : shape_Shape_Root.f l = some ((n : Int) - 1)
  v0 : v 0 = 0
  vm : ∀ i, i < n → v i ≤ v (i + 1) ∧ v (i + 1) ≤ n
  vn : v n + 1 = n
  kids : ∀ i : Nat, i < n → shape_Shape_Kids.f k l (i : Int) = some (rangeL (v i : Int) (v (i + 1) - v i))
  par : ∀ i x : Nat, i < n → v i ≤ x → x < v (i + 1) → shape_Shape_Parent.f k l (x : Int) = some ((i : Int), (x : Int) - v i, true)
  lev : ∀ y : Nat, y < n → shape_Shape_Level.f k l (y : Int) = some (lv (y : Int))
  lvb : ∀ y : Int, -1 ≤ lv y ∧ lv y ≤ 5
  down : ∀ i x : Nat, i < n → v i ≤ x → x < v (i + 1) → lv (x : Int) = lv (i : Int) - 1
  block : ∀ i q : Nat, i < n → q < 2 → shape_Shape_Block.f k l (i : Int) (q : Int) = some (2 + 2 * (i : Int) + q)
  item : ∀ i q : Nat, i < n → q < 2 → shape_Shape_Item.f l (2 + 2 * (i : Int) + q) = some ((i : Int), (q : Int), true)
  alive : carlinglaw12_alive.f k = some true
theorem R_gr2 {w w' : World} {base B : Nat} {v : Value} {l : List Int} (h : Kd.R (Kd.int .i64) 3 w base (fun _ => True) v l) (hB : B < base) (hg : w.grownBy w' (some B)) : Kd.R (Kd.int .i64) 3 w' base (fun _ => True) v l :=
  Kd.R_mono (Kd.R_move (Kd.R_bound h) (fun k hk => hg.block k hk.2.2.1 (by intro he; injection he with he; have := hk.2.1; omega))) (fun _ _ => trivial)
/-- What stands in memory: the shape's variable (block S), its row, the map (block S + 1) of v items that were met. -/
structure St (w : World) (S : Nat) (A : Option Addr) (c : Nat) (l : List Int) (v : Nat) (wr : World) : Prop where
  box : wr.heap[S]? = some (.cells #[.slice A l.length c] 24 (0, 0))
  row : Kd.R (Kd.int .i64) 3 wr w.heap.size (fun k => k ≠ S + 1) (.slice A l.length c) l
  map : wr.ownsMap Try.prog 3 (plainElem Try.prog 3) (S + 1) v (M v)
  bel : Below w.heap.size w wr
  ws : w.heap.size ≤ S
section
variable {w wr w' : World} {S : Nat} {A : Option Addr} {c : Nat} {l : List Int} {v : Nat}
theorem St.below (h : St w S A c l v wr) (hb : Below wr.heap.size wr w') : St w S A c l v w' :=
  ⟨blk_below h.box hb, Kd.R_below h.row hb, own_below h.map hb, below_step h.bel hb, h.ws⟩
theorem St.drewN (h : St w S A c l v wr) (m : Nat) : St w S A c l v (wr.drewN m) := ⟨h.box, Kd.R_drewN h.row m, h.map, pw_below_drewN h.bel m, h.ws⟩
theorem St.drew (h : St w S A c l v wr) : St w S A c l v wr.drew := ⟨h.box, Kd.R_drew h.row, h.map, below_drew1 h.bel, h.ws⟩
theorem St.cell (h : St w S A c l v wr) : wr.cell? ⟨S, 0, none⟩ = some (.slice A l.length c) := (blk_cell h.box 0).trans rfl
theorem St.rd (h : St w S A c l v wr) : Kd.C (Kd.int .i64) wr A l.length l := (Kd.R_reads' h.row).2.2
theorem St.le (h : St w S A c l v wr) : l.length ≤ c := (Kd.R_reads' h.row).2.1
theorem St.lt (h : St w S A c l v wr) : S + 1 < wr.heap.size := h.map.lt
theorem st_new {w w1 : World} {A : Option Addr} {c : Nat} {l : List Int} (ho : Kd.R (Kd.int .i64) 3 w1 w.heap.size (fun _ => True) (.slice A l.length c) l) (hb : Below w.heap.size w w1) :
    St w w1.heap.size A c l 0 ((w1.alloc (.cells #[.slice A l.length c] 24)).alloc (.map #[] 0)) := by
  have hs : (w1.alloc (.cells #[.slice A l.length c] 24)).heap.size = w1.heap.size + 1 := by simp
  refine ⟨blk_alloc (blk_new _ _) _, Kd.R_alloc (Kd.R_alloc (Kd.R_mono (Kd.R_bound ho) (fun k hk => by have := hk.2.2.1; omega)) _) _, ?_, (hb.alloc (below_size hb) _).alloc (by have := below_size hb; omega) _, below_size hb⟩
  have := World.ownsMap_made (H := Unit) (w1.alloc (.cells #[.slice A l.length c] 24)) Try.prog 3 (plainElem Try.prog 3)
  rw [hs] at this
  exact this
theorem St.put (h : St w S A c l v wr) (hm : w'.ownsMap Try.prog 3 (plainElem Try.prog 3) (S + 1) (v + 1) (M (v + 1))) (hg : wr.grownBy w' (some (S + 1))) : St w S A c l (v + 1) w' :=
  ⟨blk_grown h.box hg (by intro he; injection he with he; omega), R_gr h.row hg, hm, h.bel.grown hg h.bel.size (fun j hj => by cases hj; exact Nat.le_trans h.ws (Nat.le_succ _)), h.ws⟩
end
set_option maxHeartbeats 8000000 in
set_option maxRecDepth 100000 in
theorem one_calls {k : Nat} {p : Int} {l : List Int} {n : Nat} {v : Nat → Nat} {lv : Int → Int} (F : Facts k p l n v lv) (w : World) :
    Calls Try.prog 3 #[.int .i64 p] w fun e w' => e = .returned (.bool true) ∧ Below w.heap.size w w' := by
  have hmm := @run_makeMap Try.prog
  have FF := Aside0.mk F
  clear F
  go_enter Try.func3, Try.ntmps3
  go_wp2_with (first | (go_at_call 7; refine (shape_New.calls k p l 0 _ FF.out.new).mono ?_; rintro e w1 ⟨v0, rfl, ho, hb⟩; obtain ⟨A, c, rfl⟩ := Kd.R_slice ho; have HS0 := Aside0.mk (show St w w1.heap.size A c l 0 ((w1.alloc (.cells #[.slice A l.length c] 24)).alloc (.map #[] 0)) from st_new ho hb); clear ho hb) | (go_at_call 9; refine (shape_Shape_Items.calls A c l n _ HS0.out.rd HS0.out.le FF.out.items).mono ?_; rintro e w3 ⟨rfl, hb⟩; have HS := Aside0.mk (HS0.out.below hb); clear hb HS0))
  generalize w1.heap.size = S at HS ⊢
  have hn1 := FF.out.n1
  go_loopg [29] n (fun kq v29 w' => ∃ (i : Nat), v29 = .int .i64 (i : Int) ∧ Aside0 (i + kq = n) ∧ Aside0 (St w S A c l (v i) w'))
  case atStart => exact ⟨0, rfl, ⟨by omega⟩, by rw [FF.out.v0]; exact HS⟩
  case round =>
    clear HS
    obtain ⟨i, rfl, HI, HS⟩ := hrel
    by_cases hlt : (i : Int) < (n : Int)
    · have hi0 : decide ((i : Int) < (n : Int)) = true := decide_eq_true hlt
      have hil : i < n := by omega
      obtain ⟨g0, rfl⟩ : ∃ m, gk = m + 1 := ⟨gk - 1, by have := HI.out; omega⟩
      have hcz := HS.out.cell
      obtain ⟨kd, hkd⟩ : ∃ kd, kd = rangeL (v i : Int) (v (i + 1) - v i) := ⟨_, rfl⟩
      have hvm := FF.out.vm i hil
      have hkl : kd.length = v (i + 1) - v i := by rw [hkd, rangeL_len]
      have hkb : kd.length ≤ 1000 := by rw [hkl]; omega
      have hkr : ∀ j : Nat, j < kd.length → rd kd (j : Int) = ((v i + j : Nat) : Int) := by
        intro j hj
        rw [hkd, rangeL_rd (by omega) (by omega)]; omega
      have hkf := FF.out.kids i hil
      rw [← hkd] at hkf
      have KF := Aside0.mk hkf
      have KL := Aside0.mk hkl
      have KR := Aside0.mk hkr
      clear hkd hkf hkl hkr
      go_wp2_with (first | (go_at_call 10; refine (shape_Shape_Kids.calls k A c l (i : Int) _ _ HS.out.rd HS.out.le KF.out).mono ?_; rintro e w5 ⟨v5, rfl, ho, hb⟩; obtain ⟨Ak, ck, rfl⟩ := Kd.R_slice ho; have hS5 := HS.out.lt; have HSn := Aside0.mk (HS.out.below hb); have HK5 := Aside0.mk ho; clear ho hb HS; have HS := HSn; clear HSn))
      generalize wr.heap.size = b5 at hS5 HK5
      go_loopg [36] kd.length (fun kq v36 w' => ∃ (j : Nat), v36 = .int .i64 (j : Int) ∧ Aside0 (j + kq = kd.length) ∧ Aside0 (St w S A c l (v i + j) w') ∧ Aside0 (Kd.R (Kd.int .i64) 3 w' b5 (fun _ => True) (.slice Ak kd.length ck) kd))
      case atStart => exact ⟨0, rfl, ⟨by omega⟩, HS, HK5⟩
      case round =>
        clear HS HK5
        obtain ⟨j, rfl, HJ, HS, HK5⟩ := hrel
        by_cases hjt : (j : Int) < (kd.length : Int)
        · have hj0 : decide ((j : Int) < (kd.length : Int)) = true := decide_eq_true hjt
          have hja : 0 ≤ (j : Int) := by omega
          have hjl : j < kd.length := by omega
          obtain ⟨adk, ek, hxk⟩ := Kd.at_int (Kd.R_reads' HK5.out).2.2 (j : Int) hja hjt
          cases ek
          rw [KR.out j hjl] at hxk
          simp only [Int.toNat_natCast] at hxk
          obtain ⟨x, hx⟩ : ∃ x, x = v i + j := ⟨_, rfl⟩
          have hxn : x < n := by have := KL.out; omega
          have HSx := Aside0.mk (hx ▸ HS.out : St w S A c l x _)
          rw [← hx] at hxk
          have hpar := FF.out.par i x hil (by omega) (by have := KL.out; omega)
          rw [show (x : Int) - (v i : Int) = (j : Int) from by omega] at hpar
          have hdown := FF.out.down i x hil (by omega) (by have := KL.out; omega)
          have hlvb := FF.out.lvb (i : Int)
          have HX := Aside0.mk hx
          have HP := Aside0.mk hpar
          have HD := Aside0.mk hdown
          clear HS hx hpar hdown
          have hwx : (Lit.int .i64 (x : Int)).wf = true := by
            exact Bool.and_eq_true_iff.2 ⟨decide_eq_true (by show (-9223372036854775808 : Int) ≤ (x : Int); omega), decide_eq_true (by show (x : Int) ≤ (9223372036854775807 : Int); have := FF.out.n1; omega)⟩
          have hkey : keyOf Try.prog 3 (.int .i64 (x : Int)) = some (.int .i64 (x : Int)) := keyOf_int_mk Try.underlying3 hwx
          have HKY := Aside0.mk hkey
          clear hkey hwx
          go_upto_region 13 with (first
            | (at_lookup; refine wpList_lookup_own_int _ rfl _ _ 29 rfl 3 3 .i64 law3 Try.underlying29 Try.underlying3 (zero3 _) (S + 1) _ _ rfl HSx.out.map _ _ rfl HKY.out ?_; intro cc hat hwc; obtain rfl : cc = 0 := (by have h9 := (M_not x (by omega)).symm.trans hat; injection h9 with h9; injection h9 with _ h9; exact h9.symm); clear hat hwc)
            | (at_mapUpdate; refine wpList_mapUpdate_own _ rfl _ _ _ 29 rfl 3 3 law3 Try.underlying29 _ (S + 1) _ _ rfl HSx.out.map (by unfold maxLen; omega) _ _ _ rfl rfl HKY.out _ [] (plainElem_int Try.underlying3 (by decide : (Lit.int .i64 1).wf = true)) ?_; intro w7 hown7 hg7; have HS := Aside0.mk (HSx.out.put hown7 hg7); have HK7 := Aside0.mk (R_gr2 HK5.out hS5 hg7); have hcz := HS.out.cell; clear hown7 hg7 HSx HK5)
            | (go_at_call 11; refine (shape_Shape_Parent.calls k A c l (x : Int) _ _ _ _ HS.out.rd HS.out.le HP.out).mono ?_; rintro e w8 ⟨rfl, hb⟩; have HSn := Aside0.mk (HS.out.below hb); have HK8 := Aside0.mk (Kd.R_below HK7.out hb); clear hb HS HK7; have HS := HSn; clear HSn))
          have hcz := HS.out.cell
          have hwl : IntKind.i64.wrap (lv (i : Int) - 1) = lv (i : Int) - 1 := (i64_w _).trans (w64 (by omega) (by omega))
          refine start_ (n := 22) (S := fun w' => w'.cell? ⟨S, 0, none⟩ = some (.slice A l.length c)) (ds := []) #[false, false, false, false, false, false, false, false, false, false, false, false, false, false, false, false, false, false, false, false, false, false] (by kernel_rfl) rfl rfl hcz (fun hHeld => ?_)
          have HSd := Aside0.mk HS.out.drew
          have HKd := Aside0.mk (Kd.R_drew HK8.out)
          clear HS HK8
          have HS := HSd
          have HK8 := HKd
          clear HSd HKd
          generalize w8.drew = w9 at hHeld HS HK8 ⊢
          refine pure_ (i := 0) (N := some 52) (v := ?_) (a' := ?_) #[true, false, false, false, false, false, false, false, false, false, false, false, false, false, false, false, false, false, false, false, false, false] rfl rfl (by kernel_rfl) (fun _ _ _ h => h) (Or.inl ⟨by rfl, ?_⟩) ?_ ?_
          rotate_left
          · intro w'
            go_simp
            with_reducible rfl
          rotate_left
          · simp only [Act.put, List.setIfInBounds_toArray, List.set_cons_zero, List.set_cons_succ]
            rfl
          refine pure_ (i := 1) (N := some 53) (v := ?_) (a' := ?_) #[true, true, false, false, false, false, false, false, false, false, false, false, false, false, false, false, false, false, false, false, false, false] rfl rfl (by kernel_rfl) (fun _ _ _ h => h) (Or.inl ⟨by rfl, ?_⟩) ?_ ?_
          rotate_left
          · intro w'
            go_simp
            with_reducible rfl
          rotate_left
          · simp only [Act.put, List.setIfInBounds_toArray, List.set_cons_zero, List.set_cons_succ]
            rfl
          refine pure_ (i := 2) (N := some 54) (v := ?_) (a' := ?_) #[true, true, true, false, false, false, false, false, false, false, false, false, false, false, false, false, false, false, false, false, false, false] rfl rfl (by kernel_rfl) (fun _ _ _ h => h) (Or.inl ⟨by rfl, ?_⟩) ?_ ?_
          rotate_left
          · intro w'
            go_simp
            with_reducible rfl
          rotate_left
          · simp only [Act.put, List.setIfInBounds_toArray, List.set_cons_zero, List.set_cons_succ]
            rfl
          refine pure_ (i := 3) (N := some 55) (v := ?_) (a' := ?_) #[true, true, true, true, false, false, false, false, false, false, false, false, false, false, false, false, false, false, false, false, false, false] rfl rfl (by kernel_rfl) (fun _ _ _ h => h) (Or.inl ⟨by rfl, ?_⟩) ?_ ?_
          rotate_left
          · intro w'
            go_simp
            with_reducible rfl
          rotate_left
          · simp only [Act.put, List.setIfInBounds_toArray, List.set_cons_zero, List.set_cons_succ]
            rfl
          refine pure_ (i := 4) (N := some 56) (v := ?_) (a' := ?_) #[true, true, true, true, true, false, false, false, false, false, false, false, false, false, false, false, false, false, false, false, false, false] rfl rfl (by kernel_rfl) (fun _ _ _ h => h) (Or.inl ⟨by rfl, ?_⟩) ?_ ?_
          rotate_left
          · intro w'
            go_simp
            with_reducible rfl
          rotate_left
          · simp only [Act.put, List.setIfInBounds_toArray, List.set_cons_zero, List.set_cons_succ]
            rfl
          refine pure_ (i := 5) (N := some 57) (v := ?_) (a' := ?_) #[true, true, true, true, true, true, false, false, false, false, false, false, false, false, false, false, false, false, false, false, false, false] rfl rfl (by kernel_rfl) (fun _ _ _ h => h) (Or.inl ⟨by rfl, ?_⟩) ?_ ?_
          rotate_left
          · intro w'
            go_simp
            with_reducible rfl
          rotate_left
          · simp only [Act.put, List.setIfInBounds_toArray, List.set_cons_zero, List.set_cons_succ]
            rfl
          refine pure_ (i := 6) (N := some 58) (v := ?_) (a' := ?_) #[true, true, true, true, true, true, true, false, false, false, false, false, false, false, false, false, false, false, false, false, false, false] rfl rfl (by kernel_rfl) (fun _ _ _ h => h) (Or.inl ⟨by rfl, ?_⟩) ?_ ?_
          rotate_left
          · intro w'
            go_simp
            with_reducible rfl
          rotate_left
          · simp only [Act.put, List.setIfInBounds_toArray, List.set_cons_zero, List.set_cons_succ]
            rfl
          refine pure_ (i := 7) (N := some 59) (v := ?_) (a' := ?_) #[true, true, true, true, true, true, true, true, false, false, false, false, false, false, false, false, false, false, false, false, false, false] rfl rfl (by kernel_rfl) (fun _ _ _ h => h) (Or.inl ⟨by rfl, ?_⟩) ?_ ?_
          rotate_left
          · intro w'
            go_simp
            with_reducible rfl
          rotate_left
          · simp only [Act.put, List.setIfInBounds_toArray, List.set_cons_zero, List.set_cons_succ]
            rfl
          refine pure_ (i := 8) (N := some 60) (v := ?_) (a' := ?_) #[true, true, true, true, true, true, true, true, true, false, false, false, false, false, false, false, false, false, false, false, false, false] rfl rfl (by kernel_rfl) (fun _ _ _ h => h) (Or.inl ⟨by rfl, ?_⟩) ?_ ?_
          rotate_left
          · intro w'
            go_simp
            with_reducible rfl
          rotate_left
          · simp only [Act.put, List.setIfInBounds_toArray, List.set_cons_zero, List.set_cons_succ]
            rfl
          refine pure_ (i := 9) (N := some 61) (v := ?_) (a' := ?_) #[true, true, true, true, true, true, true, true, true, true, false, false, false, false, false, false, false, false, false, false, false, false] rfl rfl (by kernel_rfl) (fun _ _ _ h => h) (Or.inl ⟨by rfl, ?_⟩) ?_ ?_
          rotate_left
          · intro w'
            go_simp
            with_reducible rfl
          rotate_left
          · simp only [Act.put, List.setIfInBounds_toArray, List.set_cons_zero, List.set_cons_succ]
            rfl
          refine pure_ (i := 10) (N := some 62) (v := ?_) (a' := ?_) #[true, true, true, true, true, true, true, true, true, true, true, false, false, false, false, false, false, false, false, false, false, false] rfl rfl (by kernel_rfl) (fun _ _ _ h => h) (Or.inl ⟨by rfl, ?_⟩) ?_ ?_
          rotate_left
          · intro w'
            go_simp
            with_reducible rfl
          rotate_left
          · simp only [Act.put, List.setIfInBounds_toArray, List.set_cons_zero, List.set_cons_succ]
            rfl
          refine pure_ (i := 11) (N := some 63) (v := ?_) (a' := ?_) #[true, true, true, true, true, true, true, true, true, true, true, true, false, false, false, false, false, false, false, false, false, false] rfl rfl (by kernel_rfl) (fun _ _ _ h => h) (Or.inl ⟨by rfl, ?_⟩) ?_ ?_
          rotate_left
          · intro w'
            go_simp
            with_reducible rfl
          rotate_left
          · simp only [Act.put, List.setIfInBounds_toArray, List.set_cons_zero, List.set_cons_succ]
            rfl
          refine pure_ (i := 12) (N := some 64) (v := ?_) (a' := ?_) #[true, true, true, true, true, true, true, true, true, true, true, true, true, false, false, false, false, false, false, false, false, false] rfl rfl (by kernel_rfl) (fun _ _ _ h => h) (Or.inl ⟨by rfl, ?_⟩) ?_ ?_
          rotate_left
          · intro w'
            go_simp
            with_reducible rfl
          rotate_left
          · simp only [Act.put, List.setIfInBounds_toArray, List.set_cons_zero, List.set_cons_succ]
            rfl
          refine pure_ (i := 14) (N := some 66) (v := ?_) (a' := ?_) #[true, true, true, true, true, true, true, true, true, true, true, true, true, false, true, false, false, false, false, false, false, false] rfl rfl (by kernel_rfl) (fun _ _ _ h => h) (Or.inl ⟨by rfl, ?_⟩) ?_ ?_
          rotate_left
          · intro w'
            go_simp
            with_reducible rfl
          rotate_left
          · simp only [Act.put, List.setIfInBounds_toArray, List.set_cons_zero, List.set_cons_succ]
            rfl
          refine pure_ (i := 17) (N := some 69) (v := ?_) (a' := ?_) #[true, true, true, true, true, true, true, true, true, true, true, true, true, false, true, false, false, true, false, false, false, false] rfl rfl (by kernel_rfl) (fun _ _ _ h => h) (Or.inl ⟨by rfl, ?_⟩) ?_ ?_
          rotate_left
          · intro w'
            go_simp
            with_reducible rfl
          rotate_left
          · simp only [Act.put, List.setIfInBounds_toArray, List.set_cons_zero, List.set_cons_succ]
            rfl
          refine take_ (i := 13) (N := some 65) (v := ?_) (a' := ?_) #[true, true, true, true, true, true, true, true, true, true, true, true, true, true, true, false, false, true, false, false, false, false] rfl rfl (by kernel_rfl) (fun _ _ _ h => h) (Or.inl ⟨by rfl, ?_⟩) hHeld ?_ ?_
          rotate_left
          · intro w' hw'
            go_simp
            with_reducible rfl
          rotate_left
          · simp only [Act.put, List.setIfInBounds_toArray, List.set_cons_zero, List.set_cons_succ]
            rfl
          refine take_ (i := 16) (N := some 68) (v := ?_) (a' := ?_) #[true, true, true, true, true, true, true, true, true, true, true, true, true, true, true, false, true, true, false, false, false, false] rfl rfl (by kernel_rfl) (fun _ _ _ h => h) (Or.inl ⟨by rfl, ?_⟩) hHeld ?_ ?_
          rotate_left
          · intro w' hw'
            go_simp
            with_reducible rfl
          rotate_left
          · simp only [Act.put, List.setIfInBounds_toArray, List.set_cons_zero, List.set_cons_succ]
            rfl
          refine one_ (i := 15) (N := some 67) #[true, true, true, true, true, true, true, true, true, true, true, true, true, true, true, true, true, true, false, false, false, false] rfl rfl (by kernel_rfl) (by decide) (fun K hK => ?_)
          refine goes_ Try.func12 (by kernel_rfl) rfl #[.agg #[.slice A l.length c], .int .i64 (x : Int)] (by rfl) rfl rfl (by (try simp only [List.map_toArray, List.map_cons, List.map_nil]); first | done | rfl) ?_
          refine (shape_Shape_Level.calls k A c l (x : Int) _ _ HS.out.rd HS.out.le (FF.out.lev x hxn)).mono ?_
          rintro e wl15 ⟨rfl, hb⟩
          have HSn := Aside0.mk (HS.out.below hb)
          have HKn := Aside0.mk (Kd.R_below HK8.out hb)
          clear hb HS HK8
          have HS := HSn
          have HK8 := HKn
          clear HSn HKn
          rw [HD.out]
          refine ⟨_, rfl, ?_⟩
          refine hK.out _ _ (HS.out.cell) (fun hHeld => ?_)
          clear hK K
          refine norm_ (a' := ?_) ?_ ?_
          rotate_left
          · show Act.put _ (some 67) _ = _
            simp only [Act.put, List.setIfInBounds_toArray, List.set_cons_zero, List.set_cons_succ]
            rfl
          refine one_ (i := 18) (N := some 70) #[true, true, true, true, true, true, true, true, true, true, true, true, true, true, true, true, true, true, true, false, false, false] rfl rfl (by kernel_rfl) (by decide) (fun K hK => ?_)
          refine goes_ Try.func12 (by kernel_rfl) rfl #[.agg #[.slice A l.length c], .int .i64 (i : Int)] (by rfl) rfl rfl (by (try simp only [List.map_toArray, List.map_cons, List.map_nil]); first | done | rfl) ?_
          refine (shape_Shape_Level.calls k A c l (i : Int) _ _ HS.out.rd HS.out.le (FF.out.lev i hil)).mono ?_
          rintro e wl18 ⟨rfl, hb⟩
          have HSn := Aside0.mk (HS.out.below hb)
          have HKn := Aside0.mk (Kd.R_below HK8.out hb)
          clear hb HS HK8
          have HS := HSn
          have HK8 := HKn
          clear HSn HKn
          refine ⟨_, rfl, ?_⟩
          refine hK.out _ _ (HS.out.cell) (fun hHeld => ?_)
          clear hK K
          refine norm_ (a' := ?_) ?_ ?_
          rotate_left
          · show Act.put _ (some 70) _ = _
            simp only [Act.put, List.setIfInBounds_toArray, List.set_cons_zero, List.set_cons_succ]
            rfl
          refine pure_ (i := 19) (N := some 71) (v := ?_) (a' := ?_) #[true, true, true, true, true, true, true, true, true, true, true, true, true, true, true, true, true, true, true, true, false, false] rfl rfl (by kernel_rfl) (fun _ _ _ h => h) (Or.inl ⟨by rfl, ?_⟩) ?_ ?_
          rotate_left
          · intro w'
            go_simp
            with_reducible rfl
          rotate_left
          · simp only [Act.put, List.setIfInBounds_toArray, List.set_cons_zero, List.set_cons_succ]
            rfl
          refine pure_ (i := 20) (N := some 72) (v := ?_) (a' := ?_) #[true, true, true, true, true, true, true, true, true, true, true, true, true, true, true, true, true, true, true, true, true, false] rfl rfl (by kernel_rfl) (fun _ _ _ h => h) (Or.inl ⟨by rfl, ?_⟩) ?_ ?_
          rotate_left
          · intro w'
            go_simp
            with_reducible rfl
          rotate_left
          · simp only [Act.put, List.setIfInBounds_toArray, List.set_cons_zero, List.set_cons_succ]
            rfl
          refine pure_ (i := 21) (N := some 73) (v := ?_) (a' := ?_) #[true, true, true, true, true, true, true, true, true, true, true, true, true, true, true, true, true, true, true, true, true, true] rfl rfl (by kernel_rfl) (fun _ _ _ h => h) (Or.inl ⟨by rfl, ?_⟩) ?_ ?_
          rotate_left
          · intro w'
            go_simp
            with_reducible rfl
          rotate_left
          · simp only [Act.put, List.setIfInBounds_toArray, List.set_cons_zero, List.set_cons_succ]
            rfl
          refine done_ (by kernel_rfl) ?_
          obtain ⟨gk, rfl⟩ : ∃ m, gk = m + 1 := ⟨gk - 1, by have := HJ.out; omega⟩
          go_wp2
          go_roundg gk
          case measure => omega
          case rel => exact ⟨j + 1, by first | rfl | simp, ⟨by have := HJ.out; omega⟩, ⟨by have h9 := HS.out; rw [HX.out] at h9; exact h9⟩, HK8⟩
        · have hj0 : decide ((j : Int) < (kd.length : Int)) = false := decide_eq_false hjt
          go_wp2
          go_roundg g0
          case measure => omega
          case rel => exact ⟨i + 1, by first | rfl | simp, ⟨by have := HI.out; omega⟩, ⟨by have h9 := HS.out; rw [show v i + j = v (i + 1) from by have := HJ.out; have := KL.out; omega] at h9; exact h9⟩⟩
    · have hi0 : decide ((i : Int) < (n : Int)) = false := decide_eq_false hlt
      have hin : i = n := by have := HI.out; omega
      have HSe := Aside0.mk (show St w S A c l (n - 1) wr from by have h9 := HS.out; rw [hin, show v n = n - 1 from by have := FF.out.vn; omega] at h9; exact h9)
      have hn2 : 1 ≤ n := by have := FF.out.vn; omega
      clear HS hin
      have HS := HSe
      clear HSe
      have hcz := HS.out.cell
      go_wp2_with (first | (go_at_call 9; refine (shape_Shape_Items.calls A c l n _ HS.out.rd HS.out.le FF.out.items).mono ?_; rintro e w3 ⟨rfl, hb⟩; have HSn := Aside0.mk (HS.out.below hb); clear hb HS; have HS := HSn; clear HSn))
      go_loopg [78] n (fun kq v78 w' => ∃ (i : Nat), v78 = .int .i64 (i : Int) ∧ Aside0 (i + kq = n) ∧ Aside0 (St w S A c l (n - 1) w'))
      case atStart => exact ⟨0, rfl, ⟨by omega⟩, HS⟩
      case round =>
        clear HS hlt hi0 HI
        obtain ⟨i, rfl, HI, HS⟩ := hrel
        by_cases hlt : (i : Int) < (n : Int)
        · have hi0 : decide ((i : Int) < (n : Int)) = true := decide_eq_true hlt
          have hil : i < n := by omega
          have hcz := HS.out.cell
          obtain ⟨g0, rfl⟩ : ∃ m, gk = m + 1 := ⟨gk - 1, by have := HI.out; omega⟩
          have hwx : (Lit.int .i64 (i : Int)).wf = true := by
            exact Bool.and_eq_true_iff.2 ⟨decide_eq_true (by show (-9223372036854775808 : Int) ≤ (i : Int); omega), decide_eq_true (by show (i : Int) ≤ (9223372036854775807 : Int); omega)⟩
          have HKY := Aside0.mk (keyOf_int_mk (P := Try.prog) Try.underlying3 hwx)
          clear hwx
          by_cases hroot : (i : Int) = (n : Int) - 1
          · have hrb : ((i : Int) == (n : Int) - 1) = true := beq_iff_eq.2 hroot
            have HM := Aside0.mk (M_not (x := (i : Int)) (n - 1) (by omega))
            clear hroot
            go_wp2_with (first
              | (go_at_call 13; refine (shape_Shape_Root.calls A c l _ _ HS.out.rd HS.out.le FF.out.root).mono ?_; rintro e w4 ⟨rfl, hb⟩; have HSn := Aside0.mk (HS.out.below hb); clear hb HS; have HS := HSn; clear HSn; have hcz := HS.out.cell)
              | (at_lookup; refine wpList_lookup_own_int _ rfl _ _ 29 rfl 3 3 .i64 law3 Try.underlying29 Try.underlying3 (zero3 _) (S + 1) _ _ rfl HS.out.map _ _ rfl HKY.out ?_; intro cc hat hwc; obtain rfl : cc = 0 := (by have h9 := HM.out.symm.trans hat; injection h9 with h9; injection h9 with _ h9; exact h9.symm); clear hat hwc))
            go_loopg [90] 2 (fun kq v90 w' => ∃ (q : Nat), v90 = .int .i64 (q : Int) ∧ Aside0 (q + kq = 2) ∧ Aside0 (St w S A c l (n - 1) w'))
            case atStart => exact ⟨0, rfl, ⟨by omega⟩, HS⟩
            case round =>
              clear HS
              obtain ⟨q, rfl, HQ, HS⟩ := hrel
              have hcz := HS.out.cell
              by_cases hql : q < 2
              · have hq0 : decide ((q : Int) < 2) = true := decide_eq_true (by omega)
                obtain ⟨gk, rfl⟩ : ∃ m, gk = m + 1 := ⟨gk - 1, by have := HQ.out; omega⟩
                go_upto_region 28 with (fail)
                refine start_ (n := 13) (S := fun w' => w'.cell? ⟨S, 0, none⟩ = some (.slice A l.length c)) (ds := []) #[false, false, false, false, false, false, false, false, false, false, false, false, false] (by kernel_rfl) rfl rfl hcz (fun hHeld => ?_)
                have HSd := Aside0.mk HS.out.drew
                clear HS
                have HS := HSd
                clear HSd
                generalize wr.drew = w9 at hHeld HS ⊢
                refine take_ (i := 0) (N := some 94) (v := ?_) (a' := ?_) #[true, false, false, false, false, false, false, false, false, false, false, false, false] rfl rfl (by kernel_rfl) (fun _ _ _ h => h) (Or.inl ⟨by rfl, ?_⟩) hHeld ?_ ?_
                rotate_left
                · intro w' hw'
                  go_simp
                  with_reducible rfl
                rotate_left
                · simp only [Act.put, List.setIfInBounds_toArray, List.set_cons_zero, List.set_cons_succ]
                  rfl
                refine take_ (i := 1) (N := some 95) (v := ?_) (a' := ?_) #[true, true, false, false, false, false, false, false, false, false, false, false, false] rfl rfl (by kernel_rfl) (fun _ _ _ h => h) (Or.inl ⟨by rfl, ?_⟩) hHeld ?_ ?_
                rotate_left
                · intro w' hw'
                  go_simp
                  with_reducible rfl
                rotate_left
                · simp only [Act.put, List.setIfInBounds_toArray, List.set_cons_zero, List.set_cons_succ]
                  rfl
                refine pure_ (i := 2) (N := some 96) (v := ?_) (a' := ?_) #[true, true, true, false, false, false, false, false, false, false, false, false, false] rfl rfl (by kernel_rfl) (fun _ _ _ h => h) (Or.inl ⟨by rfl, ?_⟩) ?_ ?_
                rotate_left
                · intro w'
                  go_simp
                  with_reducible rfl
                rotate_left
                · simp only [Act.put, List.setIfInBounds_toArray, List.set_cons_zero, List.set_cons_succ]
                  rfl
                refine pure_ (i := 3) (N := some 97) (v := ?_) (a' := ?_) #[true, true, true, true, false, false, false, false, false, false, false, false, false] rfl rfl (by kernel_rfl) (fun _ _ _ h => h) (Or.inl ⟨by rfl, ?_⟩) ?_ ?_
                rotate_left
                · intro w'
                  go_simp
                  with_reducible rfl
                rotate_left
                · simp only [Act.put, List.setIfInBounds_toArray, List.set_cons_zero, List.set_cons_succ]
                  rfl
                refine one_ (i := 4) (N := some 98) #[true, true, true, true, true, false, false, false, false, false, false, false, false] rfl rfl (by kernel_rfl) (by decide) (fun K hK => ?_)
                refine goes_ Try.func15 (by kernel_rfl) rfl #[.agg #[.slice A l.length c], .int .i64 (i : Int), .int .i64 (q : Int)] (by rfl) rfl rfl (by (try simp only [List.map_toArray, List.map_cons, List.map_nil]); first | done | rfl) ?_
                refine (shape_Shape_Block.calls k A c l (i : Int) (q : Int) _ _ HS.out.rd HS.out.le (FF.out.block i q hil hql)).mono ?_
                rintro e wb ⟨rfl, hb⟩
                have HSn := Aside0.mk (HS.out.below hb)
                clear hb HS
                have HS := HSn
                clear HSn
                refine ⟨_, rfl, ?_⟩
                refine hK.out _ _ (HS.out.cell) (fun hHeld => ?_)
                clear hK K
                refine norm_ (a' := ?_) ?_ ?_
                rotate_left
                · show Act.put _ (some 98) _ = _
                  simp only [Act.put, List.setIfInBounds_toArray, List.set_cons_zero, List.set_cons_succ]
                  rfl
                refine one_ (i := 5) (N := some 99) #[true, true, true, true, true, true, false, false, false, false, false, false, false] rfl rfl (by kernel_rfl) (by decide) (fun K hK => ?_)
                refine goes_ Try.func14 (by kernel_rfl) rfl #[.agg #[.slice A l.length c], .int .i64 (2 + 2 * (i : Int) + q)] (by rfl) rfl rfl (by (try simp only [List.map_toArray, List.map_cons, List.map_nil]); first | done | rfl) ?_
                refine (shape_Shape_Item.calls A c l (2 + 2 * (i : Int) + q) _ _ _ _ HS.out.rd HS.out.le (FF.out.item i q hil hql)).mono ?_
                rintro e wi ⟨rfl, hb⟩
                have HSn := Aside0.mk (HS.out.below hb)
                clear hb HS
                have HS := HSn
                clear HSn
                refine ⟨_, rfl, ?_⟩
                refine hK.out _ _ (HS.out.cell) (fun hHeld => ?_)
                clear hK K
                refine norm_ (a' := ?_) ?_ ?_
                rotate_left
                · show Act.put _ (some 99) _ = _
                  simp only [Act.put, List.setIfInBounds_toArray, List.set_cons_zero, List.set_cons_succ]
                  rfl
                refine pure_ (i := 6) (N := some 93) (v := ?_) (a' := ?_) #[true, true, true, true, true, true, true, false, false, false, false, false, false] rfl rfl (by kernel_rfl) (fun _ _ _ h => h) (Or.inl ⟨by rfl, ?_⟩) ?_ ?_
                rotate_left
                · intro w'
                  go_simp
                  with_reducible rfl
                rotate_left
                · simp only [Act.put, List.setIfInBounds_toArray, List.set_cons_zero, List.set_cons_succ]
                  rfl
                refine pure_ (i := 7) (N := some 100) (v := ?_) (a' := ?_) #[true, true, true, true, true, true, true, true, false, false, false, false, false] rfl rfl (by kernel_rfl) (fun _ _ _ h => h) (Or.inl ⟨by rfl, ?_⟩) ?_ ?_
                rotate_left
                · intro w'
                  go_simp
                  with_reducible rfl
                rotate_left
                · simp only [Act.put, List.setIfInBounds_toArray, List.set_cons_zero, List.set_cons_succ]
                  rfl
                refine pure_ (i := 8) (N := some 101) (v := ?_) (a' := ?_) #[true, true, true, true, true, true, true, true, true, false, false, false, false] rfl rfl (by kernel_rfl) (fun _ _ _ h => h) (Or.inl ⟨by rfl, ?_⟩) ?_ ?_
                rotate_left
                · intro w'
                  go_simp
                  with_reducible rfl
                rotate_left
                · simp only [Act.put, List.setIfInBounds_toArray, List.set_cons_zero, List.set_cons_succ]
                  rfl
                refine pure_ (i := 9) (N := some 102) (v := ?_) (a' := ?_) #[true, true, true, true, true, true, true, true, true, true, false, false, false] rfl rfl (by kernel_rfl) (fun _ _ _ h => h) (Or.inl ⟨by rfl, ?_⟩) ?_ ?_
                rotate_left
                · intro w'
                  go_simp
                  with_reducible rfl
                rotate_left
                · simp only [Act.put, List.setIfInBounds_toArray, List.set_cons_zero, List.set_cons_succ]
                  rfl
                refine pure_ (i := 10) (N := some 15) (v := ?_) (a' := ?_) #[true, true, true, true, true, true, true, true, true, true, true, false, false] rfl rfl (by kernel_rfl) (fun _ _ _ h => h) (Or.inl ⟨by rfl, ?_⟩) ?_ ?_
                rotate_left
                · intro w'
                  go_simp
                  with_reducible rfl
                rotate_left
                · simp only [Act.put, List.setIfInBounds_toArray, List.set_cons_zero, List.set_cons_succ]
                  rfl
                refine pure_ (i := 11) (N := some 16) (v := ?_) (a' := ?_) #[true, true, true, true, true, true, true, true, true, true, true, true, false] rfl rfl (by kernel_rfl) (fun _ _ _ h => h) (Or.inl ⟨by rfl, ?_⟩) ?_ ?_
                rotate_left
                · intro w'
                  go_simp
                  with_reducible rfl
                rotate_left
                · simp only [Act.put, List.setIfInBounds_toArray, List.set_cons_zero, List.set_cons_succ]
                  rfl
                refine pure_ (i := 12) (N := some 17) (v := ?_) (a' := ?_) #[true, true, true, true, true, true, true, true, true, true, true, true, true] rfl rfl (by kernel_rfl) (fun _ _ _ h => h) (Or.inl ⟨by rfl, ?_⟩) ?_ ?_
                rotate_left
                · intro w'
                  go_simp
                  with_reducible rfl
                rotate_left
                · simp only [Act.put, List.setIfInBounds_toArray, List.set_cons_zero, List.set_cons_succ]
                  rfl
                refine done_ (by kernel_rfl) ?_
                go_wp2
                go_roundg gk
                case measure => omega
                case rel => exact ⟨q + 1, by first | rfl | simp, ⟨by have := HQ.out; omega⟩, HS⟩
              · have hq0 : decide ((q : Int) < 2) = false := decide_eq_false (by omega)
                go_wp2
                go_roundg g0
                case measure => omega
                case rel => exact ⟨i + 1, by first | rfl | simp, ⟨by have := HI.out; omega⟩, HS⟩
          · have hrb : ((i : Int) == (n : Int) - 1) = false := beq_eq_false_iff_ne.2 hroot
            have HM := Aside0.mk (M_is (x := (i : Int)) (n - 1) (by omega) (by omega))
            clear hroot
            go_wp2_with (first
              | (go_at_call 13; refine (shape_Shape_Root.calls A c l _ _ HS.out.rd HS.out.le FF.out.root).mono ?_; rintro e w4 ⟨rfl, hb⟩; have HSn := Aside0.mk (HS.out.below hb); clear hb HS; have HS := HSn; clear HSn; have hcz := HS.out.cell)
              | (at_lookup; refine wpList_lookup_own_int _ rfl _ _ 29 rfl 3 3 .i64 law3 Try.underlying29 Try.underlying3 (zero3 _) (S + 1) _ _ rfl HS.out.map _ _ rfl HKY.out ?_; intro cc hat hwc; obtain rfl : cc = 1 := (by have h9 := HM.out.symm.trans hat; injection h9 with h9; injection h9 with _ h9; exact h9.symm); clear hat hwc))
            go_loopg [90] 2 (fun kq v90 w' => ∃ (q : Nat), v90 = .int .i64 (q : Int) ∧ Aside0 (q + kq = 2) ∧ Aside0 (St w S A c l (n - 1) w'))
            case atStart => exact ⟨0, rfl, ⟨by omega⟩, HS⟩
            case round =>
              clear HS
              obtain ⟨q, rfl, HQ, HS⟩ := hrel
              have hcz := HS.out.cell
              by_cases hql : q < 2
              · have hq0 : decide ((q : Int) < 2) = true := decide_eq_true (by omega)
                obtain ⟨gk, rfl⟩ : ∃ m, gk = m + 1 := ⟨gk - 1, by have := HQ.out; omega⟩
                go_upto_region 28 with (fail)
                refine start_ (n := 13) (S := fun w' => w'.cell? ⟨S, 0, none⟩ = some (.slice A l.length c)) (ds := []) #[false, false, false, false, false, false, false, false, false, false, false, false, false] (by kernel_rfl) rfl rfl hcz (fun hHeld => ?_)
                have HSd := Aside0.mk HS.out.drew
                clear HS
                have HS := HSd
                clear HSd
                generalize wr.drew = w9 at hHeld HS ⊢
                refine take_ (i := 0) (N := some 94) (v := ?_) (a' := ?_) #[true, false, false, false, false, false, false, false, false, false, false, false, false] rfl rfl (by kernel_rfl) (fun _ _ _ h => h) (Or.inl ⟨by rfl, ?_⟩) hHeld ?_ ?_
                rotate_left
                · intro w' hw'
                  go_simp
                  with_reducible rfl
                rotate_left
                · simp only [Act.put, List.setIfInBounds_toArray, List.set_cons_zero, List.set_cons_succ]
                  rfl
                refine take_ (i := 1) (N := some 95) (v := ?_) (a' := ?_) #[true, true, false, false, false, false, false, false, false, false, false, false, false] rfl rfl (by kernel_rfl) (fun _ _ _ h => h) (Or.inl ⟨by rfl, ?_⟩) hHeld ?_ ?_
                rotate_left
                · intro w' hw'
                  go_simp
                  with_reducible rfl
                rotate_left
                · simp only [Act.put, List.setIfInBounds_toArray, List.set_cons_zero, List.set_cons_succ]
                  rfl
                refine pure_ (i := 2) (N := some 96) (v := ?_) (a' := ?_) #[true, true, true, false, false, false, false, false, false, false, false, false, false] rfl rfl (by kernel_rfl) (fun _ _ _ h => h) (Or.inl ⟨by rfl, ?_⟩) ?_ ?_
                rotate_left
                · intro w'
                  go_simp
                  with_reducible rfl
                rotate_left
                · simp only [Act.put, List.setIfInBounds_toArray, List.set_cons_zero, List.set_cons_succ]
                  rfl
                refine pure_ (i := 3) (N := some 97) (v := ?_) (a' := ?_) #[true, true, true, true, false, false, false, false, false, false, false, false, false] rfl rfl (by kernel_rfl) (fun _ _ _ h => h) (Or.inl ⟨by rfl, ?_⟩) ?_ ?_
                rotate_left
                · intro w'
                  go_simp
                  with_reducible rfl
                rotate_left
                · simp only [Act.put, List.setIfInBounds_toArray, List.set_cons_zero, List.set_cons_succ]
                  rfl
                refine one_ (i := 4) (N := some 98) #[true, true, true, true, true, false, false, false, false, false, false, false, false] rfl rfl (by kernel_rfl) (by decide) (fun K hK => ?_)
                refine goes_ Try.func15 (by kernel_rfl) rfl #[.agg #[.slice A l.length c], .int .i64 (i : Int), .int .i64 (q : Int)] (by rfl) rfl rfl (by (try simp only [List.map_toArray, List.map_cons, List.map_nil]); first | done | rfl) ?_
                refine (shape_Shape_Block.calls k A c l (i : Int) (q : Int) _ _ HS.out.rd HS.out.le (FF.out.block i q hil hql)).mono ?_
                rintro e wb ⟨rfl, hb⟩
                have HSn := Aside0.mk (HS.out.below hb)
                clear hb HS
                have HS := HSn
                clear HSn
                refine ⟨_, rfl, ?_⟩
                refine hK.out _ _ (HS.out.cell) (fun hHeld => ?_)
                clear hK K
                refine norm_ (a' := ?_) ?_ ?_
                rotate_left
                · show Act.put _ (some 98) _ = _
                  simp only [Act.put, List.setIfInBounds_toArray, List.set_cons_zero, List.set_cons_succ]
                  rfl
                refine one_ (i := 5) (N := some 99) #[true, true, true, true, true, true, false, false, false, false, false, false, false] rfl rfl (by kernel_rfl) (by decide) (fun K hK => ?_)
                refine goes_ Try.func14 (by kernel_rfl) rfl #[.agg #[.slice A l.length c], .int .i64 (2 + 2 * (i : Int) + q)] (by rfl) rfl rfl (by (try simp only [List.map_toArray, List.map_cons, List.map_nil]); first | done | rfl) ?_
                refine (shape_Shape_Item.calls A c l (2 + 2 * (i : Int) + q) _ _ _ _ HS.out.rd HS.out.le (FF.out.item i q hil hql)).mono ?_
                rintro e wi ⟨rfl, hb⟩
                have HSn := Aside0.mk (HS.out.below hb)
                clear hb HS
                have HS := HSn
                clear HSn
                refine ⟨_, rfl, ?_⟩
                refine hK.out _ _ (HS.out.cell) (fun hHeld => ?_)
                clear hK K
                refine norm_ (a' := ?_) ?_ ?_
                rotate_left
                · show Act.put _ (some 99) _ = _
                  simp only [Act.put, List.setIfInBounds_toArray, List.set_cons_zero, List.set_cons_succ]
                  rfl
                refine pure_ (i := 6) (N := some 93) (v := ?_) (a' := ?_) #[true, true, true, true, true, true, true, false, false, false, false, false, false] rfl rfl (by kernel_rfl) (fun _ _ _ h => h) (Or.inl ⟨by rfl, ?_⟩) ?_ ?_
                rotate_left
                · intro w'
                  go_simp
                  with_reducible rfl
                rotate_left
                · simp only [Act.put, List.setIfInBounds_toArray, List.set_cons_zero, List.set_cons_succ]
                  rfl
                refine pure_ (i := 7) (N := some 100) (v := ?_) (a' := ?_) #[true, true, true, true, true, true, true, true, false, false, false, false, false] rfl rfl (by kernel_rfl) (fun _ _ _ h => h) (Or.inl ⟨by rfl, ?_⟩) ?_ ?_
                rotate_left
                · intro w'
                  go_simp
                  with_reducible rfl
                rotate_left
                · simp only [Act.put, List.setIfInBounds_toArray, List.set_cons_zero, List.set_cons_succ]
                  rfl
                refine pure_ (i := 8) (N := some 101) (v := ?_) (a' := ?_) #[true, true, true, true, true, true, true, true, true, false, false, false, false] rfl rfl (by kernel_rfl) (fun _ _ _ h => h) (Or.inl ⟨by rfl, ?_⟩) ?_ ?_
                rotate_left
                · intro w'
                  go_simp
                  with_reducible rfl
                rotate_left
                · simp only [Act.put, List.setIfInBounds_toArray, List.set_cons_zero, List.set_cons_succ]
                  rfl
                refine pure_ (i := 9) (N := some 102) (v := ?_) (a' := ?_) #[true, true, true, true, true, true, true, true, true, true, false, false, false] rfl rfl (by kernel_rfl) (fun _ _ _ h => h) (Or.inl ⟨by rfl, ?_⟩) ?_ ?_
                rotate_left
                · intro w'
                  go_simp
                  with_reducible rfl
                rotate_left
                · simp only [Act.put, List.setIfInBounds_toArray, List.set_cons_zero, List.set_cons_succ]
                  rfl
                refine pure_ (i := 10) (N := some 15) (v := ?_) (a' := ?_) #[true, true, true, true, true, true, true, true, true, true, true, false, false] rfl rfl (by kernel_rfl) (fun _ _ _ h => h) (Or.inl ⟨by rfl, ?_⟩) ?_ ?_
                rotate_left
                · intro w'
                  go_simp
                  with_reducible rfl
                rotate_left
                · simp only [Act.put, List.setIfInBounds_toArray, List.set_cons_zero, List.set_cons_succ]
                  rfl
                refine pure_ (i := 11) (N := some 16) (v := ?_) (a' := ?_) #[true, true, true, true, true, true, true, true, true, true, true, true, false] rfl rfl (by kernel_rfl) (fun _ _ _ h => h) (Or.inl ⟨by rfl, ?_⟩) ?_ ?_
                rotate_left
                · intro w'
                  go_simp
                  with_reducible rfl
                rotate_left
                · simp only [Act.put, List.setIfInBounds_toArray, List.set_cons_zero, List.set_cons_succ]
                  rfl
                refine pure_ (i := 12) (N := some 17) (v := ?_) (a' := ?_) #[true, true, true, true, true, true, true, true, true, true, true, true, true] rfl rfl (by kernel_rfl) (fun _ _ _ h => h) (Or.inl ⟨by rfl, ?_⟩) ?_ ?_
                rotate_left
                · intro w'
                  go_simp
                  with_reducible rfl
                rotate_left
                · simp only [Act.put, List.setIfInBounds_toArray, List.set_cons_zero, List.set_cons_succ]
                  rfl
                refine done_ (by kernel_rfl) ?_
                go_wp2
                go_roundg gk
                case measure => omega
                case rel => exact ⟨q + 1, by first | rfl | simp, ⟨by have := HQ.out; omega⟩, HS⟩
              · have hq0 : decide ((q : Int) < 2) = false := decide_eq_false (by omega)
                go_wp2
                go_roundg g0
                case measure => omega
                case rel => exact ⟨i + 1, by first | rfl | simp, ⟨by have := HI.out; omega⟩, HS⟩
        · have hi0 : decide ((i : Int) < (n : Int)) = false := decide_eq_false hlt
          go_wp2_with (first | (go_at_call 8; refine (carlinglaw12_alive.calls k true _ FF.out.alive).mono ?_; rintro e w5 ⟨rfl, hb⟩; have HSn := Aside0.mk (HS.out.below hb); clear hb HS; have HS := HSn; clear HSn))
          go_ret
          exact ⟨rfl, HS.out.bel⟩
set_option maxHeartbeats 4000000 in
/-- No shape: nothing is looked at. -/
theorem one_no {k : Nat} {p : Int} (h : shape_New.f k p = some ([], 1)) (ha : carlinglaw12_alive.f k = some true) (w : World) :
    Calls Try.prog 3 #[.int .i64 p] w fun e w' => e = .returned (.bool true) ∧ Below w.heap.size w w' := by
  have HN := Aside0.mk h
  have HA := Aside0.mk ha
  clear h ha
  go_enter Try.func3, Try.ntmps3
  go_wp2_with (first | (go_at_call 7; refine (shape_New.calls k p [] 1 _ HN.out).mono ?_; rintro e w1 ⟨v0, rfl, ho, hb⟩; obtain ⟨A, c, rfl⟩ := Kd.R_slice ho; have HB := Aside0.mk (hb.alloc (below_size hb) (.cells #[.slice A ([] : List Int).length c] 24)); clear ho hb) | (go_at_call 8; refine (carlinglaw12_alive.calls k true _ HA.out).mono ?_; rintro e w5 ⟨rfl, hb⟩; have HB2 := Aside0.mk (below_step HB.out hb); clear hb))
  go_ret
  exact ⟨rfl, HB2.out⟩
end Go.Proofs.Ythpmlhiilmaigaa.SO
