/- The functions that the law reaches, as Lean functions, and that the code comes to their answers; written by wip/xprint.py (a program of this repository over the print of the kit): Lean checks it. -/
import Derived.Test.YthpmlhiilmaigaaPSx0
import Derived.Test.YthpmlhiilmaigaaPSx1
import Derived.Test.YthpmlhiilmaigaaPSx2
import Derived.Test.YthpmlhiilmaigaaPSx3
import Derived.Test.YthpmlhiilmaigaaPSx5
import Derived.Test.YthpmlhiilmaigaaPSx7
import Derived.Test.YthpmlhiilmaigaaPSx8
import Derived.Test.YthpmlhiilmaigaaPSx9
namespace Go.Proofs.Ythpmlhiilmaigaa.PS
open Go.RowKit Go.Proofs.YthpmlhiilmaigaaW.PrintWords Go.Proofs.YthpmlhiilmaigaaW.PrintLast Go.Proofs.YthpmlhiilmaigaaW.PrintMore
attribute [local go_sem] max2_int min2_int max_two min_two max_three min_three max_four min_four   -- for this text's walks alone
set_option linter.unusedVariables false
set_option linter.unusedSimpArgs false

/-! ### carlinglaw12_ShapeItems: function 6 -/
mutual
def carlinglaw12_ShapeItems.j0 : Nat → Int → Int → Int → Int → Bool → List Int → Int → List Int → List Int → Option (Bool)
  | 0, _, _, _, _, _, _, _, _, _ => none
  | k + 1, x1, x2, x8, x10, x44, x313000, x322000, x322001, x322002 => if x44 = true then (if x8 = x10 then ((carlinglaw12_alive.f k).bind fun t322 => (some t322)) else (none)) else (if x1 ≥ 0 then (carlinglaw12_ShapeItems.j1 k x1 x2 (-1) (decide (x1 < (x322001.length : Int))) x313000 x322000 x322001 x322002) else (carlinglaw12_ShapeItems.j1 k x1 x2 (-1) false x313000 x322000 x322001 x322002))
def carlinglaw12_ShapeItems.j1 : Nat → Int → Int → Int → Bool → List Int → Int → List Int → List Int → Option (Bool)
  | 0, _, _, _, _, _, _, _, _ => none
  | k + 1, x1, x2, x11, x59, x313000, x322000, x322001, x322002 => if x59 = true then (if 0 ≤ x1 then (if x1 < (x322001.length : Int) then (carlinglaw12_ShapeItems.j2 k x1 x2 (rd x322001 x1) x313000 x322000 x322001 x322002) else (none)) else (none)) else (carlinglaw12_ShapeItems.j2 k x1 x2 x11 x313000 x322000 x322001 x322002)
def carlinglaw12_ShapeItems.j2 : Nat → Int → Int → Int → List Int → Int → List Int → List Int → Option (Bool)
  | 0, _, _, _, _, _, _, _ => none
  | k + 1, x1, x2, x11, x313000, x322000, x322001, x322002 => (shape_Shape_Parent.f k x313000 x1).bind fun bt324 => ((carlingref12_Shape_Parent.f k x322000 x322001 x322002 x1).bind fun bt327 => ((shape_Shape_Item.f x313000 x2).bind fun bt330 => ((carlingref12_Shape_Item.f k x322000 x322001 x322002 x2).bind fun bt333 => ((shape_Shape_Level.f k x313000 x1).bind fun t336 => (if t336 = x11 then (if bt324.1 = bt327.1 then (if bt324.2.1 = bt327.2.1 then (if (bt324.2.2 != bt327.2.2) = true then (carlinglaw12_ShapeItems.j3 k x1 true x313000 x322000 x322001 x322002) else (if bt330.1 = bt333.1 then (if bt330.2.1 = bt333.2.1 then (carlinglaw12_ShapeItems.j3 k x1 (bt330.2.2 != bt333.2.2) x313000 x322000 x322001 x322002) else (carlinglaw12_ShapeItems.j3 k x1 true x313000 x322000 x322001 x322002)) else (carlinglaw12_ShapeItems.j3 k x1 true x313000 x322000 x322001 x322002))) else (carlinglaw12_ShapeItems.j3 k x1 true x313000 x322000 x322001 x322002)) else (carlinglaw12_ShapeItems.j3 k x1 true x313000 x322000 x322001 x322002)) else (carlinglaw12_ShapeItems.j3 k x1 true x313000 x322000 x322001 x322002))))))
def carlinglaw12_ShapeItems.j3 : Nat → Int → Bool → List Int → Int → List Int → List Int → Option (Bool)
  | 0, _, _, _, _, _, _ => none
  | k + 1, x1, x127, x313000, x322000, x322001, x322002 => if x127 = true then (none) else (carlinglaw12_ShapeItems.l0 k x1 (-1) x313000 x322000 x322001 x322002)
def carlinglaw12_ShapeItems.l0 : Nat → Int → Int → List Int → Int → List Int → List Int → Option (Bool)
  | 0, _, _, _, _, _, _ => none
  | k + 1, x1, x24, x313000, x322000, x322001, x322002 => if x24 < 3 then ((shape_Shape_Block.f k x313000 x1 x24).bind fun t337 => ((carlingref12_Shape_Block.f x322000 x322001 x322002 x1 x24).bind fun t338 => (if t337 = t338 then (carlinglaw12_ShapeItems.l0 k x1 (wrap64 (x24 + 1)) x313000 x322000 x322001 x322002) else (none)))) else ((shape_Shape_Kids.f k x313000 x1).bind fun t339 => ((carlingref12_Shape_Kids.f k x322000 x322001 x322002 x1).bind fun t342 => ((carlinglaw12_same.f k t339 t342).bind fun t345 => (if t345 = true then ((shape_Shape_Path.f k x313000 x1).bind fun t346 => ((carlingref12_Shape_Path.f k x322000 x322001 x322002 x1).bind fun t349 => ((carlinglaw12_same.f k t346 t349).bind fun t352 => (if t352 = true then ((shape_Shape_Under.f k x313000 x1).bind fun t353 => ((carlingref12_Shape_Under.f k x322000 x322001 x322002 x1).bind fun t356 => ((carlinglaw12_same.f k t353 t356).bind fun t359 => (if t359 = true then ((carlinglaw12_alive.f k).bind fun t360 => (some t360)) else (none))))) else (none))))) else (none)))))
end
def carlinglaw12_ShapeItems.f (k : Nat) (a0 : Int) (a1 : Int) (a2 : Int) : Option (Bool) := (shape_New.f k a0).bind fun bt308 => ((carlingref12_New.f k a0).bind fun bt313 => (if bt308.2 = 0 then (if bt313.2.2.2 = 0 then (carlinglaw12_ShapeItems.j0 k a1 a2 bt308.2 bt313.2.2.2 (decide (a0 > 60)) bt308.1 bt313.1 bt313.2.1 bt313.2.2.1) else (carlinglaw12_ShapeItems.j0 k a1 a2 bt308.2 bt313.2.2.2 true bt308.1 bt313.1 bt313.2.1 bt313.2.2.1)) else (carlinglaw12_ShapeItems.j0 k a1 a2 bt308.2 bt313.2.2.2 true bt308.1 bt313.1 bt313.2.1 bt313.2.2.1)))
theorem carlinglaw12_ShapeItems.mono_l : ∀ k, (∀ y0 y1 y2 y3 y4 y5 y6 y7 y8, LeO (carlinglaw12_ShapeItems.j0 k y0 y1 y2 y3 y4 y5 y6 y7 y8) (carlinglaw12_ShapeItems.j0 (k + 1) y0 y1 y2 y3 y4 y5 y6 y7 y8)) ∧ (∀ y0 y1 y2 y3 y4 y5 y6 y7, LeO (carlinglaw12_ShapeItems.j1 k y0 y1 y2 y3 y4 y5 y6 y7) (carlinglaw12_ShapeItems.j1 (k + 1) y0 y1 y2 y3 y4 y5 y6 y7)) ∧ (∀ y0 y1 y2 y3 y4 y5 y6, LeO (carlinglaw12_ShapeItems.j2 k y0 y1 y2 y3 y4 y5 y6) (carlinglaw12_ShapeItems.j2 (k + 1) y0 y1 y2 y3 y4 y5 y6)) ∧ (∀ y0 y1 y2 y3 y4 y5, LeO (carlinglaw12_ShapeItems.j3 k y0 y1 y2 y3 y4 y5) (carlinglaw12_ShapeItems.j3 (k + 1) y0 y1 y2 y3 y4 y5)) ∧ (∀ y0 y1 y2 y3 y4 y5, LeO (carlinglaw12_ShapeItems.l0 k y0 y1 y2 y3 y4 y5) (carlinglaw12_ShapeItems.l0 (k + 1) y0 y1 y2 y3 y4 y5))
  | 0 => ⟨fun _ _ _ _ _ _ _ _ _ r h => by simp [carlinglaw12_ShapeItems.j0] at h, fun _ _ _ _ _ _ _ _ r h => by simp [carlinglaw12_ShapeItems.j1] at h, fun _ _ _ _ _ _ _ r h => by simp [carlinglaw12_ShapeItems.j2] at h, fun _ _ _ _ _ _ r h => by simp [carlinglaw12_ShapeItems.j3] at h, fun _ _ _ _ _ _ r h => by simp [carlinglaw12_ShapeItems.l0] at h⟩
  | k + 1 => by
    obtain ⟨ih0, ih1, ih2, ih3, ih4⟩ := carlinglaw12_ShapeItems.mono_l k
    refine ⟨?_, ?_, ?_, ?_, ?_⟩
    · intro y0 y1 y2 y3 y4 y5 y6 y7 y8
      unfold carlinglaw12_ShapeItems.j0
      repeat' first
      | (with_reducible exact ih0 _ _ _ _ _ _ _ _ _)
      | (with_reducible exact ih1 _ _ _ _ _ _ _ _)
      | (with_reducible exact ih2 _ _ _ _ _ _ _)
      | (with_reducible exact ih3 _ _ _ _ _ _)
      | (with_reducible exact ih4 _ _ _ _ _ _)
      | (with_reducible exact carlinglaw12_alive.mono _)
      | (with_reducible exact carlinglaw12_same.mono _ _ _)
      | (with_reducible exact carlingref12_New.mono _ _)
      | (with_reducible exact carlingref12_Shape_Item.mono _ _ _ _ _)
      | (with_reducible exact carlingref12_Shape_Kids.mono _ _ _ _ _)
      | (with_reducible exact carlingref12_Shape_Parent.mono _ _ _ _ _)
      | (with_reducible exact carlingref12_Shape_Path.mono _ _ _ _ _)
      | (with_reducible exact carlingref12_Shape_Under.mono _ _ _ _ _)
      | (with_reducible exact shape_New.mono _ _)
      | (with_reducible exact shape_Shape_Block.mono _ _ _ _)
      | (with_reducible exact shape_Shape_Kids.mono _ _ _)
      | (with_reducible exact shape_Shape_Level.mono _ _ _)
      | (with_reducible exact shape_Shape_Parent.mono _ _ _)
      | (with_reducible exact shape_Shape_Path.mono _ _ _)
      | (with_reducible exact shape_Shape_Under.mono _ _ _)
      | (with_reducible exact LeO.refl _)
      | (with_reducible exact LeO.none _)
      | (with_reducible refine LeO.ite ?_ ?_)
      | (with_reducible refine LeO.bind ?_ (fun _ => ?_))
      | exact ih0 _ _ _ _ _ _ _ _ _
      | exact ih1 _ _ _ _ _ _ _ _
      | exact ih2 _ _ _ _ _ _ _
      | exact ih3 _ _ _ _ _ _
      | exact ih4 _ _ _ _ _ _
      | exact carlinglaw12_alive.mono _
      | exact carlinglaw12_same.mono _ _ _
      | exact carlingref12_New.mono _ _
      | exact carlingref12_Shape_Item.mono _ _ _ _ _
      | exact carlingref12_Shape_Kids.mono _ _ _ _ _
      | exact carlingref12_Shape_Parent.mono _ _ _ _ _
      | exact carlingref12_Shape_Path.mono _ _ _ _ _
      | exact carlingref12_Shape_Under.mono _ _ _ _ _
      | exact shape_New.mono _ _
      | exact shape_Shape_Block.mono _ _ _ _
      | exact shape_Shape_Kids.mono _ _ _
      | exact shape_Shape_Level.mono _ _ _
      | exact shape_Shape_Parent.mono _ _ _
      | exact shape_Shape_Path.mono _ _ _
      | exact shape_Shape_Under.mono _ _ _
      | exact LeO.none _
      | refine LeO.ite ?_ ?_
      | refine LeO.bind ?_ (fun _ => ?_)
    · intro y0 y1 y2 y3 y4 y5 y6 y7
      unfold carlinglaw12_ShapeItems.j1
      repeat' first
      | (with_reducible exact ih0 _ _ _ _ _ _ _ _ _)
      | (with_reducible exact ih1 _ _ _ _ _ _ _ _)
      | (with_reducible exact ih2 _ _ _ _ _ _ _)
      | (with_reducible exact ih3 _ _ _ _ _ _)
      | (with_reducible exact ih4 _ _ _ _ _ _)
      | (with_reducible exact carlinglaw12_alive.mono _)
      | (with_reducible exact carlinglaw12_same.mono _ _ _)
      | (with_reducible exact carlingref12_New.mono _ _)
      | (with_reducible exact carlingref12_Shape_Item.mono _ _ _ _ _)
      | (with_reducible exact carlingref12_Shape_Kids.mono _ _ _ _ _)
      | (with_reducible exact carlingref12_Shape_Parent.mono _ _ _ _ _)
      | (with_reducible exact carlingref12_Shape_Path.mono _ _ _ _ _)
      | (with_reducible exact carlingref12_Shape_Under.mono _ _ _ _ _)
      | (with_reducible exact shape_New.mono _ _)
      | (with_reducible exact shape_Shape_Block.mono _ _ _ _)
      | (with_reducible exact shape_Shape_Kids.mono _ _ _)
      | (with_reducible exact shape_Shape_Level.mono _ _ _)
      | (with_reducible exact shape_Shape_Parent.mono _ _ _)
      | (with_reducible exact shape_Shape_Path.mono _ _ _)
      | (with_reducible exact shape_Shape_Under.mono _ _ _)
      | (with_reducible exact LeO.refl _)
      | (with_reducible exact LeO.none _)
      | (with_reducible refine LeO.ite ?_ ?_)
      | (with_reducible refine LeO.bind ?_ (fun _ => ?_))
      | exact ih0 _ _ _ _ _ _ _ _ _
      | exact ih1 _ _ _ _ _ _ _ _
      | exact ih2 _ _ _ _ _ _ _
      | exact ih3 _ _ _ _ _ _
      | exact ih4 _ _ _ _ _ _
      | exact carlinglaw12_alive.mono _
      | exact carlinglaw12_same.mono _ _ _
      | exact carlingref12_New.mono _ _
      | exact carlingref12_Shape_Item.mono _ _ _ _ _
      | exact carlingref12_Shape_Kids.mono _ _ _ _ _
      | exact carlingref12_Shape_Parent.mono _ _ _ _ _
      | exact carlingref12_Shape_Path.mono _ _ _ _ _
      | exact carlingref12_Shape_Under.mono _ _ _ _ _
      | exact shape_New.mono _ _
      | exact shape_Shape_Block.mono _ _ _ _
      | exact shape_Shape_Kids.mono _ _ _
      | exact shape_Shape_Level.mono _ _ _
      | exact shape_Shape_Parent.mono _ _ _
      | exact shape_Shape_Path.mono _ _ _
      | exact shape_Shape_Under.mono _ _ _
      | exact LeO.none _
      | refine LeO.ite ?_ ?_
      | refine LeO.bind ?_ (fun _ => ?_)
    · intro y0 y1 y2 y3 y4 y5 y6
      unfold carlinglaw12_ShapeItems.j2
      repeat' first
      | (with_reducible exact ih0 _ _ _ _ _ _ _ _ _)
      | (with_reducible exact ih1 _ _ _ _ _ _ _ _)
      | (with_reducible exact ih2 _ _ _ _ _ _ _)
      | (with_reducible exact ih3 _ _ _ _ _ _)
      | (with_reducible exact ih4 _ _ _ _ _ _)
      | (with_reducible exact carlinglaw12_alive.mono _)
      | (with_reducible exact carlinglaw12_same.mono _ _ _)
      | (with_reducible exact carlingref12_New.mono _ _)
      | (with_reducible exact carlingref12_Shape_Item.mono _ _ _ _ _)
      | (with_reducible exact carlingref12_Shape_Kids.mono _ _ _ _ _)
      | (with_reducible exact carlingref12_Shape_Parent.mono _ _ _ _ _)
      | (with_reducible exact carlingref12_Shape_Path.mono _ _ _ _ _)
      | (with_reducible exact carlingref12_Shape_Under.mono _ _ _ _ _)
      | (with_reducible exact shape_New.mono _ _)
      | (with_reducible exact shape_Shape_Block.mono _ _ _ _)
      | (with_reducible exact shape_Shape_Kids.mono _ _ _)
      | (with_reducible exact shape_Shape_Level.mono _ _ _)
      | (with_reducible exact shape_Shape_Parent.mono _ _ _)
      | (with_reducible exact shape_Shape_Path.mono _ _ _)
      | (with_reducible exact shape_Shape_Under.mono _ _ _)
      | (with_reducible exact LeO.refl _)
      | (with_reducible exact LeO.none _)
      | (with_reducible refine LeO.ite ?_ ?_)
      | (with_reducible refine LeO.bind ?_ (fun _ => ?_))
      | exact ih0 _ _ _ _ _ _ _ _ _
      | exact ih1 _ _ _ _ _ _ _ _
      | exact ih2 _ _ _ _ _ _ _
      | exact ih3 _ _ _ _ _ _
      | exact ih4 _ _ _ _ _ _
      | exact carlinglaw12_alive.mono _
      | exact carlinglaw12_same.mono _ _ _
      | exact carlingref12_New.mono _ _
      | exact carlingref12_Shape_Item.mono _ _ _ _ _
      | exact carlingref12_Shape_Kids.mono _ _ _ _ _
      | exact carlingref12_Shape_Parent.mono _ _ _ _ _
      | exact carlingref12_Shape_Path.mono _ _ _ _ _
      | exact carlingref12_Shape_Under.mono _ _ _ _ _
      | exact shape_New.mono _ _
      | exact shape_Shape_Block.mono _ _ _ _
      | exact shape_Shape_Kids.mono _ _ _
      | exact shape_Shape_Level.mono _ _ _
      | exact shape_Shape_Parent.mono _ _ _
      | exact shape_Shape_Path.mono _ _ _
      | exact shape_Shape_Under.mono _ _ _
      | exact LeO.none _
      | refine LeO.ite ?_ ?_
      | refine LeO.bind ?_ (fun _ => ?_)
    · intro y0 y1 y2 y3 y4 y5
      unfold carlinglaw12_ShapeItems.j3
      repeat' first
      | (with_reducible exact ih0 _ _ _ _ _ _ _ _ _)
      | (with_reducible exact ih1 _ _ _ _ _ _ _ _)
      | (with_reducible exact ih2 _ _ _ _ _ _ _)
      | (with_reducible exact ih3 _ _ _ _ _ _)
      | (with_reducible exact ih4 _ _ _ _ _ _)
      | (with_reducible exact carlinglaw12_alive.mono _)
      | (with_reducible exact carlinglaw12_same.mono _ _ _)
      | (with_reducible exact carlingref12_New.mono _ _)
      | (with_reducible exact carlingref12_Shape_Item.mono _ _ _ _ _)
      | (with_reducible exact carlingref12_Shape_Kids.mono _ _ _ _ _)
      | (with_reducible exact carlingref12_Shape_Parent.mono _ _ _ _ _)
      | (with_reducible exact carlingref12_Shape_Path.mono _ _ _ _ _)
      | (with_reducible exact carlingref12_Shape_Under.mono _ _ _ _ _)
      | (with_reducible exact shape_New.mono _ _)
      | (with_reducible exact shape_Shape_Block.mono _ _ _ _)
      | (with_reducible exact shape_Shape_Kids.mono _ _ _)
      | (with_reducible exact shape_Shape_Level.mono _ _ _)
      | (with_reducible exact shape_Shape_Parent.mono _ _ _)
      | (with_reducible exact shape_Shape_Path.mono _ _ _)
      | (with_reducible exact shape_Shape_Under.mono _ _ _)
      | (with_reducible exact LeO.refl _)
      | (with_reducible exact LeO.none _)
      | (with_reducible refine LeO.ite ?_ ?_)
      | (with_reducible refine LeO.bind ?_ (fun _ => ?_))
      | exact ih0 _ _ _ _ _ _ _ _ _
      | exact ih1 _ _ _ _ _ _ _ _
      | exact ih2 _ _ _ _ _ _ _
      | exact ih3 _ _ _ _ _ _
      | exact ih4 _ _ _ _ _ _
      | exact carlinglaw12_alive.mono _
      | exact carlinglaw12_same.mono _ _ _
      | exact carlingref12_New.mono _ _
      | exact carlingref12_Shape_Item.mono _ _ _ _ _
      | exact carlingref12_Shape_Kids.mono _ _ _ _ _
      | exact carlingref12_Shape_Parent.mono _ _ _ _ _
      | exact carlingref12_Shape_Path.mono _ _ _ _ _
      | exact carlingref12_Shape_Under.mono _ _ _ _ _
      | exact shape_New.mono _ _
      | exact shape_Shape_Block.mono _ _ _ _
      | exact shape_Shape_Kids.mono _ _ _
      | exact shape_Shape_Level.mono _ _ _
      | exact shape_Shape_Parent.mono _ _ _
      | exact shape_Shape_Path.mono _ _ _
      | exact shape_Shape_Under.mono _ _ _
      | exact LeO.none _
      | refine LeO.ite ?_ ?_
      | refine LeO.bind ?_ (fun _ => ?_)
    · intro y0 y1 y2 y3 y4 y5
      unfold carlinglaw12_ShapeItems.l0
      repeat' first
      | (with_reducible exact ih0 _ _ _ _ _ _ _ _ _)
      | (with_reducible exact ih1 _ _ _ _ _ _ _ _)
      | (with_reducible exact ih2 _ _ _ _ _ _ _)
      | (with_reducible exact ih3 _ _ _ _ _ _)
      | (with_reducible exact ih4 _ _ _ _ _ _)
      | (with_reducible exact carlinglaw12_alive.mono _)
      | (with_reducible exact carlinglaw12_same.mono _ _ _)
      | (with_reducible exact carlingref12_New.mono _ _)
      | (with_reducible exact carlingref12_Shape_Item.mono _ _ _ _ _)
      | (with_reducible exact carlingref12_Shape_Kids.mono _ _ _ _ _)
      | (with_reducible exact carlingref12_Shape_Parent.mono _ _ _ _ _)
      | (with_reducible exact carlingref12_Shape_Path.mono _ _ _ _ _)
      | (with_reducible exact carlingref12_Shape_Under.mono _ _ _ _ _)
      | (with_reducible exact shape_New.mono _ _)
      | (with_reducible exact shape_Shape_Block.mono _ _ _ _)
      | (with_reducible exact shape_Shape_Kids.mono _ _ _)
      | (with_reducible exact shape_Shape_Level.mono _ _ _)
      | (with_reducible exact shape_Shape_Parent.mono _ _ _)
      | (with_reducible exact shape_Shape_Path.mono _ _ _)
      | (with_reducible exact shape_Shape_Under.mono _ _ _)
      | (with_reducible exact LeO.refl _)
      | (with_reducible exact LeO.none _)
      | (with_reducible refine LeO.ite ?_ ?_)
      | (with_reducible refine LeO.bind ?_ (fun _ => ?_))
      | exact ih0 _ _ _ _ _ _ _ _ _
      | exact ih1 _ _ _ _ _ _ _ _
      | exact ih2 _ _ _ _ _ _ _
      | exact ih3 _ _ _ _ _ _
      | exact ih4 _ _ _ _ _ _
      | exact carlinglaw12_alive.mono _
      | exact carlinglaw12_same.mono _ _ _
      | exact carlingref12_New.mono _ _
      | exact carlingref12_Shape_Item.mono _ _ _ _ _
      | exact carlingref12_Shape_Kids.mono _ _ _ _ _
      | exact carlingref12_Shape_Parent.mono _ _ _ _ _
      | exact carlingref12_Shape_Path.mono _ _ _ _ _
      | exact carlingref12_Shape_Under.mono _ _ _ _ _
      | exact shape_New.mono _ _
      | exact shape_Shape_Block.mono _ _ _ _
      | exact shape_Shape_Kids.mono _ _ _
      | exact shape_Shape_Level.mono _ _ _
      | exact shape_Shape_Parent.mono _ _ _
      | exact shape_Shape_Path.mono _ _ _
      | exact shape_Shape_Under.mono _ _ _
      | exact LeO.none _
      | refine LeO.ite ?_ ?_
      | refine LeO.bind ?_ (fun _ => ?_)
theorem carlinglaw12_ShapeItems.mono : ∀ a0 a1 a2 k, LeO (carlinglaw12_ShapeItems.f k a0 a1 a2) (carlinglaw12_ShapeItems.f (k + 1) a0 a1 a2) := by
  intro a0 a1 a2 k
  obtain ⟨ih0, ih1, ih2, ih3, ih4⟩ := carlinglaw12_ShapeItems.mono_l k
  unfold carlinglaw12_ShapeItems.f
  repeat' first
      | (with_reducible exact ih0 _ _ _ _ _ _ _ _ _)
      | (with_reducible exact ih1 _ _ _ _ _ _ _ _)
      | (with_reducible exact ih2 _ _ _ _ _ _ _)
      | (with_reducible exact ih3 _ _ _ _ _ _)
      | (with_reducible exact ih4 _ _ _ _ _ _)
      | (with_reducible exact carlinglaw12_alive.mono _)
      | (with_reducible exact carlinglaw12_same.mono _ _ _)
      | (with_reducible exact carlingref12_New.mono _ _)
      | (with_reducible exact carlingref12_Shape_Item.mono _ _ _ _ _)
      | (with_reducible exact carlingref12_Shape_Kids.mono _ _ _ _ _)
      | (with_reducible exact carlingref12_Shape_Parent.mono _ _ _ _ _)
      | (with_reducible exact carlingref12_Shape_Path.mono _ _ _ _ _)
      | (with_reducible exact carlingref12_Shape_Under.mono _ _ _ _ _)
      | (with_reducible exact shape_New.mono _ _)
      | (with_reducible exact shape_Shape_Block.mono _ _ _ _)
      | (with_reducible exact shape_Shape_Kids.mono _ _ _)
      | (with_reducible exact shape_Shape_Level.mono _ _ _)
      | (with_reducible exact shape_Shape_Parent.mono _ _ _)
      | (with_reducible exact shape_Shape_Path.mono _ _ _)
      | (with_reducible exact shape_Shape_Under.mono _ _ _)
      | (with_reducible exact LeO.refl _)
      | (with_reducible exact LeO.none _)
      | (with_reducible refine LeO.ite ?_ ?_)
      | (with_reducible refine LeO.bind ?_ (fun _ => ?_))
      | exact ih0 _ _ _ _ _ _ _ _ _
      | exact ih1 _ _ _ _ _ _ _ _
      | exact ih2 _ _ _ _ _ _ _
      | exact ih3 _ _ _ _ _ _
      | exact ih4 _ _ _ _ _ _
      | exact carlinglaw12_alive.mono _
      | exact carlinglaw12_same.mono _ _ _
      | exact carlingref12_New.mono _ _
      | exact carlingref12_Shape_Item.mono _ _ _ _ _
      | exact carlingref12_Shape_Kids.mono _ _ _ _ _
      | exact carlingref12_Shape_Parent.mono _ _ _ _ _
      | exact carlingref12_Shape_Path.mono _ _ _ _ _
      | exact carlingref12_Shape_Under.mono _ _ _ _ _
      | exact shape_New.mono _ _
      | exact shape_Shape_Block.mono _ _ _ _
      | exact shape_Shape_Kids.mono _ _ _
      | exact shape_Shape_Level.mono _ _ _
      | exact shape_Shape_Parent.mono _ _ _
      | exact shape_Shape_Path.mono _ _ _
      | exact shape_Shape_Under.mono _ _ _
      | exact LeO.none _
      | refine LeO.ite ?_ ?_
      | refine LeO.bind ?_ (fun _ => ?_)
def carlinglaw12_ShapeItems.T17 : Bool × List (List Nat × List Nat) := (true, [([], []), ([], []), ([], []), ([0, 1, 2], [0, 1, 2]), ([], []), ([], []), ([], []), ([4, 5, 6, 3], [4, 5, 6]), ([3, 7], [3, 7])])
def carlinglaw12_ShapeItems.B17 : List Nat := [0, 0, 0, 7, 0, 0, 0, 127, 255]
theorem carlinglaw12_ShapeItems.tab17 : rtab .any (opsOf Try.f6 17) = carlinglaw12_ShapeItems.T17 := by kernel_rfl
theorem carlinglaw12_ShapeItems.bits17 : waitsOk carlinglaw12_ShapeItems.T17.2 carlinglaw12_ShapeItems.B17 = true := by kernel_rfl
def carlinglaw12_ShapeItems.T19 : Bool × List (List Nat × List Nat) := (true, [([], []), ([], []), ([0, 1], [0, 1]), ([], []), ([], []), ([3, 4, 2], [3, 4]), ([2, 5, 5], [2, 5]), ([6, 6], [6]), ([7], [7]), ([7], [7]), ([8, 9, 7, 7], [7, 8, 9]), ([7], [7]), ([7], [7]), ([11, 12, 10, 7], [7, 11, 12]), ([10, 13, 13, 7], [7, 10, 13]), ([7, 14], [7, 14]), ([15, 14], [15]), ([16], [16]), ([16], [16]), ([17, 18, 16, 16], [16, 17, 18]), ([16], [16]), ([16], [16]), ([20, 21, 19, 16], [16, 20, 21]), ([19, 22, 22, 16], [16, 19, 22]), ([16, 23], [16, 23]), ([24, 23], [24]), ([25, 25], [25]), ([25, 26], [25, 26]), ([27, 26, 0, 1, 2, 3, 4, 5, 6, 7, 8, 9, 10, 11, 12, 13, 14, 15, 16, 17, 18, 19, 20, 21, 22, 23, 24, 25, 26, 27], [27])])
def carlinglaw12_ShapeItems.B19 : List Nat := [0, 0, 3, 0, 0, 31, 63, 127, 255, 255, 1023, 255, 255, 8191, 16383, 32767, 65535, 131071, 131071, 524287, 131071, 131071, 4194303, 8388607, 16777215, 33554431, 67108863, 134217727, 268435455]
theorem carlinglaw12_ShapeItems.tab19 : rtab .any (opsOf Try.f6 19) = carlinglaw12_ShapeItems.T19 := by kernel_rfl
theorem carlinglaw12_ShapeItems.bits19 : waitsOk carlinglaw12_ShapeItems.T19.2 carlinglaw12_ShapeItems.B19 = true := by kernel_rfl
set_option maxHeartbeats 8000000 in
set_option maxRecDepth 100000 in
theorem carlinglaw12_ShapeItems.calls (k : Nat) (a0 : Int) (a1 : Int) (a2 : Int) (r : Bool) (w : World) (h : carlinglaw12_ShapeItems.f k a0 a1 a2 = some r) :
    Calls Try.prog 6 #[.int .i64 a0, .int .i64 a1, .int .i64 a2] w fun e w' => e = .returned (.bool r) ∧ Below w.heap.size w w' := by
  have hu24 := Try.underlying24
  have hu39 := Try.underlying39
  have HB := Aside0.mk (Below.refl w.heap.size w)
  have H : ((shape_New.f k a0).bind fun bt308 => ((carlingref12_New.f k a0).bind fun bt313 => (if bt308.2 = 0 then (if bt313.2.2.2 = 0 then (carlinglaw12_ShapeItems.j0 k a1 a2 bt308.2 bt313.2.2.2 (decide (a0 > 60)) bt308.1 bt313.1 bt313.2.1 bt313.2.2.1) else (carlinglaw12_ShapeItems.j0 k a1 a2 bt308.2 bt313.2.2.2 true bt308.1 bt313.1 bt313.2.1 bt313.2.2.1)) else (carlinglaw12_ShapeItems.j0 k a1 a2 bt308.2 bt313.2.2.2 true bt308.1 bt313.1 bt313.2.1 bt313.2.2.1)))) = some r := h
  clear h
  replace H := Option.bind_eq_some_iff.mp H
  obtain ⟨⟨t308, t311⟩, A40, H⟩ := H
  replace H : ((carlingref12_New.f k a0).bind fun bt313 => (if t311 = 0 then (if bt313.2.2.2 = 0 then (carlinglaw12_ShapeItems.j0 k a1 a2 t311 bt313.2.2.2 (decide (a0 > 60)) t308 bt313.1 bt313.2.1 bt313.2.2.1) else (carlinglaw12_ShapeItems.j0 k a1 a2 t311 bt313.2.2.2 true t308 bt313.1 bt313.2.1 bt313.2.2.1)) else (carlinglaw12_ShapeItems.j0 k a1 a2 t311 bt313.2.2.2 true t308 bt313.1 bt313.2.1 bt313.2.2.1))) = some r := H
  have A4 := Aside0.mk A40
  clear A40
  replace H := Option.bind_eq_some_iff.mp H
  obtain ⟨⟨t313, t314, t317, t320⟩, A50, H⟩ := H
  replace H : (if t311 = 0 then (if t320 = 0 then (carlinglaw12_ShapeItems.j0 k a1 a2 t311 t320 (decide (a0 > 60)) t308 t313 t314 t317) else (carlinglaw12_ShapeItems.j0 k a1 a2 t311 t320 true t308 t313 t314 t317)) else (carlinglaw12_ShapeItems.j0 k a1 a2 t311 t320 true t308 t313 t314 t317)) = some r := H
  have A5 := Aside0.mk A50
  clear A50
  have HC6 := Aside0.mk H
  clear H
  go_enter Try.func6, Try.ntmps6
  go_upto_region 3 with (first | ((with_reducible refine gate_callee (f := 7) rfl ?_); refine goesL_ (some 27) rfl rfl Try.func7 (by kernel_rfl) rfl #[.int .i64 a0] rfl (by (try simp only [List.map_toArray, List.map_cons, List.map_nil]); first | done | rfl | (simp only [List.length_drop, List.length_take]; rfl)) ?_; (with_reducible refine (shape_New.calls k a0 t308 t311 _ A4.out).mono ?_); rintro e w7 ⟨v309, rfl, ho0, hb⟩; refine ⟨_, rfl, ?_⟩; have n0_ := Aside0.mk (Kd.R_lower ho0 (below_size (by repeat (first | (with_reducible first | exact HB.out | apply below_alloc | apply pw_below_drewN | apply below_drew1) | exact HB.out)))); have n1_ := Aside0.mk (below_step (by repeat (first | (with_reducible first | exact HB.out | apply below_alloc | apply pw_below_drewN | apply below_drew1) | exact HB.out)) hb); clear HB; have HO310 := n0_; have HB := n1_; clear n0_ n1_; (try clear hb); (try clear hb2); (try clear hk); (try clear hi); (try clear ho0)) | ((with_reducible refine gate_dst (N := 7) rfl ?_); (try (refine gate_guard (by rfl) ?_; dsimp only)); refine box_event ?hg (N := 7) ?hd (cs := #[.slice none 0 0]) (t := 24) ?hr ?_; (case hd => rfl); (case hg => rfl); (case hr => first | (go_simp; done) | (go_simp; rfl)); intro gb312 hg w8 hbox hb; have n0_ := Aside0.mk (Kd.R_below (by (with_reducible repeat (first | apply Kd.R_alloc | apply Kd.R_drewN | apply Kd.R_drew)); exact HO310.out) hb); have n1_ := Aside0.mk (below_step (by repeat (first | (with_reducible first | exact HB.out | apply below_alloc | apply pw_below_drewN | apply below_drew1) | exact HB.out)) hb); have n2_ := Aside0.mk (hbox); have n3_ := Aside0.mk ((by rw [hg]; exact (below_size (by repeat (first | (with_reducible first | exact HB.out | apply below_alloc | apply pw_below_drewN | apply below_drew1) | exact HB.out))) : w.heap.size ≤ gb312)); have n4_ := Aside0.mk ((by rw [hg]; exact (below_size (by repeat (first | (with_reducible first | exact HB.out | apply below_alloc | apply pw_below_drewN | apply below_drew1) | exact HB.out))) : w.heap.size ≤ gb312)); clear HO310; clear HB; have HO310 := n0_; have HB := n1_; have BK312 := n2_; have GW312 := n3_; have GE312 := n4_; clear n0_ n1_ n2_ n3_ n4_; clear hb hbox hg; obtain ⟨Ao9, co9, eo9⟩ := Kd.R_slice HO310.out; subst eo9; have hcz10_0 : w8.cell? ⟨gb312, 0, none⟩ = some (.slice none 0 0) := (blk_cell BK312.out 0).trans rfl; have hfz10_0 := blk_frozen BK312.out 0) | ((with_reducible refine gate_callee (f := 19) rfl ?_); refine goesL_ (some 32) rfl rfl Try.func19 (by kernel_rfl) rfl #[.int .i64 a0] rfl (by (try simp only [List.map_toArray, List.map_cons, List.map_nil]); first | done | rfl | (simp only [List.length_drop, List.length_take]; rfl)) ?_; (with_reducible refine (carlingref12_New.calls k a0 t313 t314 t317 t320 _ A5.out).mono ?_); rintro e w11 ⟨v315, v318, rfl, ho0, ho1, hb⟩; refine ⟨_, rfl, ?_⟩; have n0_ := Aside0.mk (Kd.R_mono (Kd.R_told (Kd.R_told (Kd.R_old (by (with_reducible repeat (first | apply Kd.R_alloc | apply Kd.R_drewN | apply Kd.R_drew)); exact (Kd.R_mono (Kd.R_far (p := ⟨gb312, 0, none⟩) (Kd.R_types HO310.out BK312.out (by decide)) (fun _ hk => hk.2) (.slice Ao9 t308.length co9)) (fun _ h_ => h_.1))) hb) (Kd.R_base ho0)) (Kd.R_base ho1)) (fun _ h_ => h_.1)); have n1_ := Aside0.mk (Kd.R_lower (Kd.R_new' ho0 (Kd.R_lt (by (with_reducible repeat (first | apply Kd.R_alloc | apply Kd.R_drewN | apply Kd.R_drew)); exact (Kd.R_mono (Kd.R_far (p := ⟨gb312, 0, none⟩) (Kd.R_types HO310.out BK312.out (by decide)) (fun _ hk => hk.2) (.slice Ao9 t308.length co9)) (fun _ h_ => h_.1))))) (below_size (by repeat (first | (with_reducible first | exact HB.out | apply below_alloc | apply pw_below_drewN | apply below_drew1 | refine below_set ?_ GE312.out) | exact HB.out)))); have n2_ := Aside0.mk (Kd.R_lower (Kd.R_new' ho1 (Kd.R_lt (by (with_reducible repeat (first | apply Kd.R_alloc | apply Kd.R_drewN | apply Kd.R_drew)); exact (Kd.R_mono (Kd.R_far (p := ⟨gb312, 0, none⟩) (Kd.R_types HO310.out BK312.out (by decide)) (fun _ hk => hk.2) (.slice Ao9 t308.length co9)) (fun _ h_ => h_.1))))) (below_size (by repeat (first | (with_reducible first | exact HB.out | apply below_alloc | apply pw_below_drewN | apply below_drew1 | refine below_set ?_ GE312.out) | exact HB.out)))); have n3_ := Aside0.mk (blk_below (g := gb312) (o := .cells #[.slice Ao9 t308.length co9] 24 (0, 0)) (by (with_reducible repeat (first | refine blk_drewN ?_ _ | refine blk_drew ?_ | refine blk_alloc ?_ _)); refine blk_put (cs := #[.slice none 0 0]) ?_ 0 _ rfl; (with_reducible repeat (first | refine blk_drewN ?_ _ | refine blk_drew ?_ | refine blk_alloc ?_ _)); exact BK312.out) hb); have n4_ := Aside0.mk (below_step (by repeat (first | (with_reducible first | exact HB.out | apply below_alloc | apply pw_below_drewN | apply below_drew1 | refine below_set ?_ GE312.out) | exact HB.out)) hb); clear HO310; clear BK312; clear HB; have HO310 := n0_; have HO316 := n1_; have HO319 := n2_; have BK312 := n3_; have HB := n4_; clear n0_ n1_ n2_ n3_ n4_; (try clear hb); (try clear hb2); (try clear hk); (try clear hi); (try clear ho0); (try clear ho1)) | ((with_reducible refine gate_dst (N := 9) rfl ?_); (try (refine gate_guard (by rfl) ?_; dsimp only)); refine box_event ?hg (N := 9) ?hd (cs := #[.int .i64 0, .slice none 0 0, .slice none 0 0]) (t := 39) ?hr ?_; (case hd => rfl); (case hg => rfl); (case hr => first | (go_simp; done) | (go_simp; rfl)); intro gb321 hg w12 hbox hb; have n0_ := Aside0.mk (Kd.R_below (by (with_reducible repeat (first | apply Kd.R_alloc | apply Kd.R_drewN | apply Kd.R_drew)); exact HO310.out) hb); have n1_ := Aside0.mk (Kd.R_below (by (with_reducible repeat (first | apply Kd.R_alloc | apply Kd.R_drewN | apply Kd.R_drew)); exact HO316.out) hb); have n2_ := Aside0.mk (Kd.R_below (by (with_reducible repeat (first | apply Kd.R_alloc | apply Kd.R_drewN | apply Kd.R_drew)); exact HO319.out) hb); have n3_ := Aside0.mk (blk_below (g := gb312) (o := .cells #[.slice Ao9 t308.length co9] 24 (0, 0)) (by (with_reducible repeat (first | refine blk_drewN ?_ _ | refine blk_drew ?_ | refine blk_alloc ?_ _)); exact BK312.out) hb); have n4_ := Aside0.mk (below_step (by repeat (first | (with_reducible first | exact HB.out | apply below_alloc | apply pw_below_drewN | apply below_drew1 | refine below_set ?_ GE312.out) | exact HB.out)) hb); have n5_ := Aside0.mk (hbox); have n6_ := Aside0.mk ((by rw [hg]; exact (below_size (by repeat (first | (with_reducible first | exact HB.out | apply below_alloc | apply pw_below_drewN | apply below_drew1 | refine below_set ?_ GE312.out) | exact HB.out))) : w.heap.size ≤ gb321)); have n7_ := Aside0.mk ((by rw [hg]; exact (below_size (by repeat (first | (with_reducible first | exact HB.out | apply below_alloc | apply pw_below_drewN | apply below_drew1 | refine below_set ?_ GE312.out) | exact HB.out))) : w.heap.size ≤ gb321)); have n8_ := Aside0.mk ((by rw [hg]; exact Nat.ne_of_lt (blk_lt (g := gb312) (o := .cells #[.slice Ao9 t308.length co9] 24 (0, 0)) (by (with_reducible repeat (first | refine blk_drewN ?_ _ | refine blk_drew ?_ | refine blk_alloc ?_ _)); exact BK312.out)) : gb312 ≠ gb321)); have n9_ := Aside0.mk ((by rw [hg]; exact Nat.ne_of_gt (blk_lt (g := gb312) (o := .cells #[.slice Ao9 t308.length co9] 24 (0, 0)) (by (with_reducible repeat (first | refine blk_drewN ?_ _ | refine blk_drew ?_ | refine blk_alloc ?_ _)); exact BK312.out)) : gb321 ≠ gb312)); clear HO310; clear HO316; clear HO319; clear BK312; clear HB; have HO310 := n0_; have HO316 := n1_; have HO319 := n2_; have BK312 := n3_; have HB := n4_; have BK321 := n5_; have GW321 := n6_; have GE321 := n7_; have NB312_321 := n8_; have NB321_312 := n9_; clear n0_ n1_ n2_ n3_ n4_ n5_ n6_ n7_ n8_ n9_; clear hb hbox hg; have hnb13 := NB321_312.out; have hnc13 := NB312_321.out; have hcz14_0 : w12.cell? ⟨gb321, 0, none⟩ = some (.int .i64 0) := (blk_cell BK321.out 0).trans rfl; have hcz14_1 : w12.cell? ⟨gb321, 1, none⟩ = some (.slice none 0 0) := (blk_cell BK321.out 1).trans rfl; have hcz14_2 : w12.cell? ⟨gb321, 2, none⟩ = some (.slice none 0 0) := (blk_cell BK321.out 2).trans rfl; have hfz14_0 := blk_frozen BK321.out 0; have hfz14_1 := blk_frozen BK321.out 1; have hfz14_2 := blk_frozen BK321.out 2; obtain ⟨Ao15, co15, eo15⟩ := Kd.R_slice HO316.out; subst eo15; obtain ⟨Ao16, co16, eo16⟩ := Kd.R_slice HO319.out; subst eo16))
  (try simp only [Act.put, List.setIfInBounds_toArray, List.set_cons_zero, List.set_cons_succ])
  go_cut [44] (fun v44 wc => ∃ (kq : Nat) (x44_5 : Bool), v44 = .bool x44_5 ∧ Aside0 (carlinglaw12_ShapeItems.j0 kq a1 a2 t311 t320 x44_5 t308 t313 t314 t317 = some r) ∧ Aside0 (kq ≤ k) ∧ Aside0 (Kd.R (Kd.int .i64) 3 wc w.heap.size (fun k_ => some k_ ≠ ((.slice Ao15 t314.length co15) : Value).ownBlock ∧ some k_ ≠ ((.slice Ao16 t317.length co16) : Value).ownBlock) (.slice Ao9 t308.length co9) t308) ∧ Aside0 (Kd.R (Kd.int .i64) 3 wc w.heap.size (fun k_ => some k_ ≠ ((.slice Ao9 t308.length co9) : Value).ownBlock ∧ some k_ ≠ ((.slice Ao16 t317.length co16) : Value).ownBlock) (.slice Ao15 t314.length co15) t314) ∧ Aside0 (Kd.R (Kd.int .i64) 3 wc w.heap.size (fun k_ => some k_ ≠ ((.slice Ao9 t308.length co9) : Value).ownBlock ∧ some k_ ≠ ((.slice Ao15 t314.length co15) : Value).ownBlock) (.slice Ao16 t317.length co16) t317) ∧ Aside0 (wc.heap[gb312]? = some (.cells #[(.slice Ao9 t308.length co9)] 24 (0, 0))) ∧ Aside0 (wc.heap[gb321]? = some (.cells #[.int .i64 t313, (.slice Ao15 t314.length co15), (.slice Ao16 t317.length co16)] 39 (0, 0))) ∧ Aside0 (Below w.heap.size w wc))
  case first =>
    have H := HC6.out
    clear HC6
    by_cases c17 : t311 = 0
    · rw [if_pos c17] at H
      have c17b0 : (t311 == 0) = true := beq_iff_eq.mpr c17
      have c17b1 : (t311 != 0) = false := bne_eq_false_iff_eq.mpr c17
      clear c17
      (first | rw [c17b0] | (simp only [i64_w, i32_w]; rw [c17b0]) | rw [c17b1] | skip)
      by_cases c18 : t320 = 0
      · rw [if_pos c18] at H
        have c18b0 : (t320 == 0) = true := beq_iff_eq.mpr c18
        have c18b1 : (t320 != 0) = false := bne_eq_false_iff_eq.mpr c18
        clear c18
        have H' := Aside0.mk H
        clear H
        go_wp2
        go_meet
        case rel => exact ⟨_, (decide (a0 > 60)), (by first | rfl | (simp; done) | (simp [*]; done)), H', ⟨by first | omega | exact Nat.le_refl _⟩, ⟨by (with_reducible repeat (first | apply Kd.R_alloc | apply Kd.R_drewN | apply Kd.R_drew)); exact Kd.R_mono (Kd.R_far (p := ⟨gb321, 2, none⟩) (Kd.R_far (p := ⟨gb321, 1, none⟩) (Kd.R_far (p := ⟨gb321, 0, none⟩) (Kd.R_types HO310.out BK321.out (by decide)) (fun _ hk => hk.2) (.int .i64 t313)) (fun _ hk => hk.2) (.slice Ao15 t314.length co15)) (fun _ hk => hk.2) (.slice Ao16 t317.length co16)) (fun _ hk => ⟨hk.1.1.2, hk.1.2⟩)⟩, ⟨by (with_reducible repeat (first | apply Kd.R_alloc | apply Kd.R_drewN | apply Kd.R_drew)); exact Kd.R_mono (Kd.R_far (p := ⟨gb321, 2, none⟩) (Kd.R_far (p := ⟨gb321, 1, none⟩) (Kd.R_far (p := ⟨gb321, 0, none⟩) (Kd.R_types HO316.out BK321.out (by decide)) (fun _ hk => hk.2) (.int .i64 t313)) (fun _ hk => hk.2) (.slice Ao15 t314.length co15)) (fun _ hk => hk.2) (.slice Ao16 t317.length co16)) (fun _ hk => ⟨hk.1.2, hk.1.1⟩)⟩, ⟨by (with_reducible repeat (first | apply Kd.R_alloc | apply Kd.R_drewN | apply Kd.R_drew)); exact Kd.R_mono (Kd.R_far (p := ⟨gb321, 2, none⟩) (Kd.R_far (p := ⟨gb321, 1, none⟩) (Kd.R_far (p := ⟨gb321, 0, none⟩) (Kd.R_types HO319.out BK321.out (by decide)) (fun _ hk => hk.2) (.int .i64 t313)) (fun _ hk => hk.2) (.slice Ao15 t314.length co15)) (fun _ hk => hk.2) (.slice Ao16 t317.length co16)) (fun _ hk => ⟨hk.1.2, hk.1.1⟩)⟩, ⟨by (with_reducible repeat (first | refine blk_drewN ?_ _ | refine blk_drew ?_ | refine blk_alloc ?_ _)); refine blk_far ?_ NB312_321.out _; (with_reducible repeat (first | refine blk_drewN ?_ _ | refine blk_drew ?_ | refine blk_alloc ?_ _)); refine blk_far ?_ NB312_321.out _; (with_reducible repeat (first | refine blk_drewN ?_ _ | refine blk_drew ?_ | refine blk_alloc ?_ _)); refine blk_far ?_ NB312_321.out _; (with_reducible repeat (first | refine blk_drewN ?_ _ | refine blk_drew ?_ | refine blk_alloc ?_ _)); exact BK312.out⟩, ⟨by (with_reducible repeat (first | refine blk_drewN ?_ _ | refine blk_drew ?_ | refine blk_alloc ?_ _)); refine blk_put (cs := #[.int .i64 t313, .slice Ao15 t314.length co15, .slice none 0 0]) ?_ 2 _ rfl; (with_reducible repeat (first | refine blk_drewN ?_ _ | refine blk_drew ?_ | refine blk_alloc ?_ _)); refine blk_put (cs := #[.int .i64 t313, .slice none 0 0, .slice none 0 0]) ?_ 1 _ rfl; (with_reducible repeat (first | refine blk_drewN ?_ _ | refine blk_drew ?_ | refine blk_alloc ?_ _)); refine blk_put (cs := #[.int .i64 0, .slice none 0 0, .slice none 0 0]) ?_ 0 _ rfl; (with_reducible repeat (first | refine blk_drewN ?_ _ | refine blk_drew ?_ | refine blk_alloc ?_ _)); exact BK321.out⟩, ⟨by repeat (first | (with_reducible first | exact HB.out | apply below_alloc | apply pw_below_drewN | apply below_drew1 | refine below_set ?_ GE312.out | refine below_set ?_ GE321.out) | exact HB.out)⟩⟩
      · rw [if_neg c18] at H
        have c18b0 : (t320 == 0) = false := beq_eq_false_iff_ne.mpr c18
        have c18b1 : (t320 != 0) = true := bne_iff_ne.mpr c18
        have H' := Aside0.mk H
        clear H
        go_wp2
        go_meet
        case rel => exact ⟨_, (true), (by first | rfl | (simp; done) | (simp [*]; done)), H', ⟨by first | omega | exact Nat.le_refl _⟩, ⟨by (with_reducible repeat (first | apply Kd.R_alloc | apply Kd.R_drewN | apply Kd.R_drew)); exact Kd.R_mono (Kd.R_far (p := ⟨gb321, 2, none⟩) (Kd.R_far (p := ⟨gb321, 1, none⟩) (Kd.R_far (p := ⟨gb321, 0, none⟩) (Kd.R_types HO310.out BK321.out (by decide)) (fun _ hk => hk.2) (.int .i64 t313)) (fun _ hk => hk.2) (.slice Ao15 t314.length co15)) (fun _ hk => hk.2) (.slice Ao16 t317.length co16)) (fun _ hk => ⟨hk.1.1.2, hk.1.2⟩)⟩, ⟨by (with_reducible repeat (first | apply Kd.R_alloc | apply Kd.R_drewN | apply Kd.R_drew)); exact Kd.R_mono (Kd.R_far (p := ⟨gb321, 2, none⟩) (Kd.R_far (p := ⟨gb321, 1, none⟩) (Kd.R_far (p := ⟨gb321, 0, none⟩) (Kd.R_types HO316.out BK321.out (by decide)) (fun _ hk => hk.2) (.int .i64 t313)) (fun _ hk => hk.2) (.slice Ao15 t314.length co15)) (fun _ hk => hk.2) (.slice Ao16 t317.length co16)) (fun _ hk => ⟨hk.1.2, hk.1.1⟩)⟩, ⟨by (with_reducible repeat (first | apply Kd.R_alloc | apply Kd.R_drewN | apply Kd.R_drew)); exact Kd.R_mono (Kd.R_far (p := ⟨gb321, 2, none⟩) (Kd.R_far (p := ⟨gb321, 1, none⟩) (Kd.R_far (p := ⟨gb321, 0, none⟩) (Kd.R_types HO319.out BK321.out (by decide)) (fun _ hk => hk.2) (.int .i64 t313)) (fun _ hk => hk.2) (.slice Ao15 t314.length co15)) (fun _ hk => hk.2) (.slice Ao16 t317.length co16)) (fun _ hk => ⟨hk.1.2, hk.1.1⟩)⟩, ⟨by (with_reducible repeat (first | refine blk_drewN ?_ _ | refine blk_drew ?_ | refine blk_alloc ?_ _)); refine blk_far ?_ NB312_321.out _; (with_reducible repeat (first | refine blk_drewN ?_ _ | refine blk_drew ?_ | refine blk_alloc ?_ _)); refine blk_far ?_ NB312_321.out _; (with_reducible repeat (first | refine blk_drewN ?_ _ | refine blk_drew ?_ | refine blk_alloc ?_ _)); refine blk_far ?_ NB312_321.out _; (with_reducible repeat (first | refine blk_drewN ?_ _ | refine blk_drew ?_ | refine blk_alloc ?_ _)); exact BK312.out⟩, ⟨by (with_reducible repeat (first | refine blk_drewN ?_ _ | refine blk_drew ?_ | refine blk_alloc ?_ _)); refine blk_put (cs := #[.int .i64 t313, .slice Ao15 t314.length co15, .slice none 0 0]) ?_ 2 _ rfl; (with_reducible repeat (first | refine blk_drewN ?_ _ | refine blk_drew ?_ | refine blk_alloc ?_ _)); refine blk_put (cs := #[.int .i64 t313, .slice none 0 0, .slice none 0 0]) ?_ 1 _ rfl; (with_reducible repeat (first | refine blk_drewN ?_ _ | refine blk_drew ?_ | refine blk_alloc ?_ _)); refine blk_put (cs := #[.int .i64 0, .slice none 0 0, .slice none 0 0]) ?_ 0 _ rfl; (with_reducible repeat (first | refine blk_drewN ?_ _ | refine blk_drew ?_ | refine blk_alloc ?_ _)); exact BK321.out⟩, ⟨by repeat (first | (with_reducible first | exact HB.out | apply below_alloc | apply pw_below_drewN | apply below_drew1 | refine below_set ?_ GE312.out | refine below_set ?_ GE321.out) | exact HB.out)⟩⟩
    · rw [if_neg c17] at H
      have c17b0 : (t311 == 0) = false := beq_eq_false_iff_ne.mpr c17
      have c17b1 : (t311 != 0) = true := bne_iff_ne.mpr c17
      (first | rw [c17b0] | (simp only [i64_w, i32_w]; rw [c17b0]) | rw [c17b1] | skip)
      have H' := Aside0.mk H
      clear H
      go_wp2
      go_meet
      case rel => exact ⟨_, (true), (by first | rfl | (simp; done) | (simp [*]; done)), H', ⟨by first | omega | exact Nat.le_refl _⟩, ⟨by (with_reducible repeat (first | apply Kd.R_alloc | apply Kd.R_drewN | apply Kd.R_drew)); exact Kd.R_mono (Kd.R_far (p := ⟨gb321, 2, none⟩) (Kd.R_far (p := ⟨gb321, 1, none⟩) (Kd.R_far (p := ⟨gb321, 0, none⟩) (Kd.R_types HO310.out BK321.out (by decide)) (fun _ hk => hk.2) (.int .i64 t313)) (fun _ hk => hk.2) (.slice Ao15 t314.length co15)) (fun _ hk => hk.2) (.slice Ao16 t317.length co16)) (fun _ hk => ⟨hk.1.1.2, hk.1.2⟩)⟩, ⟨by (with_reducible repeat (first | apply Kd.R_alloc | apply Kd.R_drewN | apply Kd.R_drew)); exact Kd.R_mono (Kd.R_far (p := ⟨gb321, 2, none⟩) (Kd.R_far (p := ⟨gb321, 1, none⟩) (Kd.R_far (p := ⟨gb321, 0, none⟩) (Kd.R_types HO316.out BK321.out (by decide)) (fun _ hk => hk.2) (.int .i64 t313)) (fun _ hk => hk.2) (.slice Ao15 t314.length co15)) (fun _ hk => hk.2) (.slice Ao16 t317.length co16)) (fun _ hk => ⟨hk.1.2, hk.1.1⟩)⟩, ⟨by (with_reducible repeat (first | apply Kd.R_alloc | apply Kd.R_drewN | apply Kd.R_drew)); exact Kd.R_mono (Kd.R_far (p := ⟨gb321, 2, none⟩) (Kd.R_far (p := ⟨gb321, 1, none⟩) (Kd.R_far (p := ⟨gb321, 0, none⟩) (Kd.R_types HO319.out BK321.out (by decide)) (fun _ hk => hk.2) (.int .i64 t313)) (fun _ hk => hk.2) (.slice Ao15 t314.length co15)) (fun _ hk => hk.2) (.slice Ao16 t317.length co16)) (fun _ hk => ⟨hk.1.2, hk.1.1⟩)⟩, ⟨by (with_reducible repeat (first | refine blk_drewN ?_ _ | refine blk_drew ?_ | refine blk_alloc ?_ _)); refine blk_far ?_ NB312_321.out _; (with_reducible repeat (first | refine blk_drewN ?_ _ | refine blk_drew ?_ | refine blk_alloc ?_ _)); refine blk_far ?_ NB312_321.out _; (with_reducible repeat (first | refine blk_drewN ?_ _ | refine blk_drew ?_ | refine blk_alloc ?_ _)); refine blk_far ?_ NB312_321.out _; (with_reducible repeat (first | refine blk_drewN ?_ _ | refine blk_drew ?_ | refine blk_alloc ?_ _)); exact BK312.out⟩, ⟨by (with_reducible repeat (first | refine blk_drewN ?_ _ | refine blk_drew ?_ | refine blk_alloc ?_ _)); refine blk_put (cs := #[.int .i64 t313, .slice Ao15 t314.length co15, .slice none 0 0]) ?_ 2 _ rfl; (with_reducible repeat (first | refine blk_drewN ?_ _ | refine blk_drew ?_ | refine blk_alloc ?_ _)); refine blk_put (cs := #[.int .i64 t313, .slice none 0 0, .slice none 0 0]) ?_ 1 _ rfl; (with_reducible repeat (first | refine blk_drewN ?_ _ | refine blk_drew ?_ | refine blk_alloc ?_ _)); refine blk_put (cs := #[.int .i64 0, .slice none 0 0, .slice none 0 0]) ?_ 0 _ rfl; (with_reducible repeat (first | refine blk_drewN ?_ _ | refine blk_drew ?_ | refine blk_alloc ?_ _)); exact BK321.out⟩, ⟨by repeat (first | (with_reducible first | exact HB.out | apply below_alloc | apply pw_below_drewN | apply below_drew1 | refine below_set ?_ GE312.out | refine below_set ?_ GE321.out) | exact HB.out)⟩⟩
  case rest =>
    clear HC6
    try clear c1
    try clear p2
    try clear c6
    try clear c7
    try clear c13
    try clear c17
    try clear c17b0
    try clear c17b1
    try clear c18
    try clear c18b0
    try clear c18b1
    try clear hcz10_0
    try clear hcz14_0
    try clear hcz14_1
    try clear hcz14_2
    try clear hfz10_0
    try clear hfz14_0
    try clear hfz14_1
    try clear hfz14_2
    obtain ⟨kq, x44_5, rfl, HA, HJ5, HO_313000, HO_322001, HO_322002, BK312, BK321, HB⟩ := hcut
    cases kq with
    | zero => exact absurd HA.out (by simp [carlinglaw12_ShapeItems.j0])
    | succ kj5 =>
      have H := HA.out
      clear HA
      simp only [carlinglaw12_ShapeItems.j0] at H
      by_cases c19 : x44_5 = true
      · subst c19
        have H1 : (if t311 = t320 then ((carlinglaw12_alive.f kj5).bind fun t322 => (some t322)) else (none)) = some r := by rw [if_pos rfl] at H; exact H
        clear H
        have H := H1
        clear H1
        by_cases c20 : t311 = t320
        · rw [if_pos c20] at H
          have c20b0 : (t311 == t320) = true := beq_iff_eq.mpr c20
          have c20b1 : (t311 != t320) = false := bne_eq_false_iff_eq.mpr c20
          clear c20
          replace H := Option.bind_eq_some_iff.mp H
          obtain ⟨t322, A210, H⟩ := H
          replace H : (some t322) = some r := H
          have A21 := Aside0.mk A210
          clear A210
          obtain rfl := Option.some.inj H
          go_wp2_with (first | (go_at_call 8; (with_reducible refine (carlinglaw12_alive.calls kj5  t322 _ A21.out).mono ?_); rintro e w22 ⟨rfl, hb⟩; have n0_ := Aside0.mk (Kd.R_below (by (with_reducible repeat (first | apply Kd.R_alloc | apply Kd.R_drewN | apply Kd.R_drew)); exact HO_313000.out) hb); have n1_ := Aside0.mk (Kd.R_below (by (with_reducible repeat (first | apply Kd.R_alloc | apply Kd.R_drewN | apply Kd.R_drew)); exact HO_322001.out) hb); have n2_ := Aside0.mk (Kd.R_below (by (with_reducible repeat (first | apply Kd.R_alloc | apply Kd.R_drewN | apply Kd.R_drew)); exact HO_322002.out) hb); have n3_ := Aside0.mk (blk_below (g := gb312) (o := .cells #[.slice Ao9 t308.length co9] 24 (0, 0)) (by (with_reducible repeat (first | refine blk_drewN ?_ _ | refine blk_drew ?_ | refine blk_alloc ?_ _)); exact BK312.out) hb); have n4_ := Aside0.mk (blk_below (g := gb321) (o := .cells #[.int .i64 t313, .slice Ao15 t314.length co15, .slice Ao16 t317.length co16] 39 (0, 0)) (by (with_reducible repeat (first | refine blk_drewN ?_ _ | refine blk_drew ?_ | refine blk_alloc ?_ _)); exact BK321.out) hb); have n5_ := Aside0.mk (below_step (by repeat (first | (with_reducible first | exact HB.out | apply below_alloc | apply pw_below_drewN | apply below_drew1 | refine below_set ?_ GE312.out | refine below_set ?_ GE321.out) | exact HB.out)) hb); clear HO_313000; clear HO_322001; clear HO_322002; clear BK312; clear BK321; clear HB; have HO_313000 := n0_; have HO_322001 := n1_; have HO_322002 := n2_; have BK312 := n3_; have BK321 := n4_; have HB := n5_; clear n0_ n1_ n2_ n3_ n4_ n5_; (try clear hb); (try clear hb2); (try clear hk); (try clear hi)))
          go_ret
          exact ⟨by first | rfl | (simp [errW_none, errW_some] <;> rfl) | (simp [*, errW_none, errW_some] <;> rfl), by repeat (first | (with_reducible first | exact HB.out | apply below_alloc | apply pw_below_drewN | apply below_drew1 | refine below_set ?_ GE312.out | refine below_set ?_ GE321.out) | exact HB.out)⟩
        · rw [if_neg c20] at H
          exact absurd H (by simp)
      · replace c19 := Bool.eq_false_iff.mpr c19
        subst c19
        have H1 : (if a1 ≥ 0 then (carlinglaw12_ShapeItems.j1 kj5 a1 a2 (-1) (decide (a1 < (t314.length : Int))) t308 t313 t314 t317) else (carlinglaw12_ShapeItems.j1 kj5 a1 a2 (-1) false t308 t313 t314 t317)) = some r := by rw [if_neg (show ¬ (false = true) by decide)] at H; exact H
        clear H
        have H := H1
        clear H1
        have HC23 := Aside0.mk H
        clear H
        go_upto_region 6 with (fail)
        go_cut [59] (fun v59 wc => ∃ (kq : Nat) (x59_22 : Bool), v59 = .bool x59_22 ∧ Aside0 (carlinglaw12_ShapeItems.j1 kq a1 a2 (-1) x59_22 t308 t313 t314 t317 = some r) ∧ Aside0 (kq ≤ kj5) ∧ Aside0 (Kd.R (Kd.int .i64) 3 wc w.heap.size (fun k_ => some k_ ≠ ((.slice Ao15 t314.length co15) : Value).ownBlock ∧ some k_ ≠ ((.slice Ao16 t317.length co16) : Value).ownBlock) (.slice Ao9 t308.length co9) t308) ∧ Aside0 (Kd.R (Kd.int .i64) 3 wc w.heap.size (fun k_ => some k_ ≠ ((.slice Ao9 t308.length co9) : Value).ownBlock ∧ some k_ ≠ ((.slice Ao16 t317.length co16) : Value).ownBlock) (.slice Ao15 t314.length co15) t314) ∧ Aside0 (Kd.R (Kd.int .i64) 3 wc w.heap.size (fun k_ => some k_ ≠ ((.slice Ao9 t308.length co9) : Value).ownBlock ∧ some k_ ≠ ((.slice Ao15 t314.length co15) : Value).ownBlock) (.slice Ao16 t317.length co16) t317) ∧ Aside0 (wc.heap[gb312]? = some (.cells #[(.slice Ao9 t308.length co9)] 24 (0, 0))) ∧ Aside0 (wc.heap[gb321]? = some (.cells #[.int .i64 t313, (.slice Ao15 t314.length co15), (.slice Ao16 t317.length co16)] 39 (0, 0))) ∧ Aside0 (Below w.heap.size w wc))
        case first =>
          have H := HC23.out
          clear HC23
          by_cases c24 : a1 ≥ 0
          · rw [if_pos c24] at H
            have c24b0 : decide (0 ≤ a1) = true := decide_eq_true c24
            clear c24
            (first | rw [c24b0] | (simp only [i64_w, i32_w]; rw [c24b0]) | rw [c24b1] | skip)
            have H' := Aside0.mk H
            clear H
            have hnb25 := NB321_312.out
            have hnc25 := NB312_321.out
            have hcz26_0 : wc.cell? ⟨gb321, 0, none⟩ = some (.int .i64 t313) := (blk_cell BK321.out 0).trans rfl
            have hcz26_1 : wc.cell? ⟨gb321, 1, none⟩ = some (.slice Ao15 t314.length co15) := (blk_cell BK321.out 1).trans rfl
            have hcz26_2 : wc.cell? ⟨gb321, 2, none⟩ = some (.slice Ao16 t317.length co16) := (blk_cell BK321.out 2).trans rfl
            have hfz26_0 := blk_frozen BK321.out 0
            have hfz26_1 := blk_frozen BK321.out 1
            have hfz26_2 := blk_frozen BK321.out 2
            go_wp2
            go_meet
            case rel => exact ⟨_, (decide (a1 < (t314.length : Int))), (by first | rfl | (simp; done) | (simp [*]; done)), H', ⟨by have := HJ5.out; first | omega | exact Nat.le_refl _⟩, ⟨by (with_reducible repeat (first | apply Kd.R_alloc | apply Kd.R_drewN | apply Kd.R_drew)); exact HO_313000.out⟩, ⟨by (with_reducible repeat (first | apply Kd.R_alloc | apply Kd.R_drewN | apply Kd.R_drew)); exact HO_322001.out⟩, ⟨by (with_reducible repeat (first | apply Kd.R_alloc | apply Kd.R_drewN | apply Kd.R_drew)); exact HO_322002.out⟩, ⟨by (with_reducible repeat (first | refine blk_drewN ?_ _ | refine blk_drew ?_ | refine blk_alloc ?_ _)); exact BK312.out⟩, ⟨by (with_reducible repeat (first | refine blk_drewN ?_ _ | refine blk_drew ?_ | refine blk_alloc ?_ _)); exact BK321.out⟩, ⟨by repeat (first | (with_reducible first | exact HB.out | apply below_alloc | apply pw_below_drewN | apply below_drew1 | refine below_set ?_ GE312.out | refine below_set ?_ GE321.out) | exact HB.out)⟩⟩
          · rw [if_neg c24] at H
            have c24b0 : decide (0 ≤ a1) = false := decide_eq_false c24
            clear c24
            (first | rw [c24b0] | (simp only [i64_w, i32_w]; rw [c24b0]) | rw [c24b1] | skip)
            have H' := Aside0.mk H
            clear H
            go_wp2
            go_meet
            case rel => exact ⟨_, (false), (by first | rfl | (simp; done) | (simp [*]; done)), H', ⟨by have := HJ5.out; first | omega | exact Nat.le_refl _⟩, ⟨by (with_reducible repeat (first | apply Kd.R_alloc | apply Kd.R_drewN | apply Kd.R_drew)); exact HO_313000.out⟩, ⟨by (with_reducible repeat (first | apply Kd.R_alloc | apply Kd.R_drewN | apply Kd.R_drew)); exact HO_322001.out⟩, ⟨by (with_reducible repeat (first | apply Kd.R_alloc | apply Kd.R_drewN | apply Kd.R_drew)); exact HO_322002.out⟩, ⟨by (with_reducible repeat (first | refine blk_drewN ?_ _ | refine blk_drew ?_ | refine blk_alloc ?_ _)); exact BK312.out⟩, ⟨by (with_reducible repeat (first | refine blk_drewN ?_ _ | refine blk_drew ?_ | refine blk_alloc ?_ _)); exact BK321.out⟩, ⟨by repeat (first | (with_reducible first | exact HB.out | apply below_alloc | apply pw_below_drewN | apply below_drew1 | refine below_set ?_ GE312.out | refine below_set ?_ GE321.out) | exact HB.out)⟩⟩
        case rest =>
          clear HC23
          try clear c1
          try clear c2
          try clear p2
          try clear c6
          try clear c7
          try clear c13
          try clear c17
          try clear c17b0
          try clear c17b1
          try clear c18
          try clear c18b0
          try clear c18b1
          try clear c19
          try clear c20
          try clear c20b0
          try clear c20b1
          try clear c24
          try clear c24b0
          try clear c24b1
          try clear c25
          try clear hcz10_0
          try clear hcz14_0
          try clear hcz14_1
          try clear hcz14_2
          try clear hcz26_0
          try clear hcz26_1
          try clear hcz26_2
          try clear hfz10_0
          try clear hfz14_0
          try clear hfz14_1
          try clear hfz14_2
          try clear hfz26_0
          try clear hfz26_1
          try clear hfz26_2
          try clear p2
          obtain ⟨kq, x59_22, rfl, HA, HJ22, HO_313000, HO_322001, HO_322002, BK312, BK321, HB⟩ := hcut
          cases kq with
          | zero => exact absurd HA.out (by simp [carlinglaw12_ShapeItems.j1])
          | succ kj22 =>
            have H := HA.out
            clear HA
            simp only [carlinglaw12_ShapeItems.j1] at H
            have HC27 := Aside0.mk H
            clear H
            go_upto_if 59 with (fail)
            go_cut [11] (fun v11 wc => ∃ (kq : Nat) (x11_26 : Int), v11 = .int .i64 x11_26 ∧ Aside0 (carlinglaw12_ShapeItems.j2 kq a1 a2 x11_26 t308 t313 t314 t317 = some r) ∧ Aside0 (kq ≤ kj22) ∧ Aside0 (Kd.R (Kd.int .i64) 3 wc w.heap.size (fun k_ => some k_ ≠ ((.slice Ao15 t314.length co15) : Value).ownBlock ∧ some k_ ≠ ((.slice Ao16 t317.length co16) : Value).ownBlock) (.slice Ao9 t308.length co9) t308) ∧ Aside0 (Kd.R (Kd.int .i64) 3 wc w.heap.size (fun k_ => some k_ ≠ ((.slice Ao9 t308.length co9) : Value).ownBlock ∧ some k_ ≠ ((.slice Ao16 t317.length co16) : Value).ownBlock) (.slice Ao15 t314.length co15) t314) ∧ Aside0 (Kd.R (Kd.int .i64) 3 wc w.heap.size (fun k_ => some k_ ≠ ((.slice Ao9 t308.length co9) : Value).ownBlock ∧ some k_ ≠ ((.slice Ao15 t314.length co15) : Value).ownBlock) (.slice Ao16 t317.length co16) t317) ∧ Aside0 (wc.heap[gb312]? = some (.cells #[(.slice Ao9 t308.length co9)] 24 (0, 0))) ∧ Aside0 (wc.heap[gb321]? = some (.cells #[.int .i64 t313, (.slice Ao15 t314.length co15), (.slice Ao16 t317.length co16)] 39 (0, 0))) ∧ Aside0 (Below w.heap.size w wc))
            case first =>
              have H := HC27.out
              clear HC27
              by_cases c28 : x59_22 = true
              · subst c28
                have H1 : (if 0 ≤ a1 then (if a1 < (t314.length : Int) then (carlinglaw12_ShapeItems.j2 kj22 a1 a2 (rd t314 a1) t308 t313 t314 t317) else (none)) else (none)) = some r := by rw [if_pos rfl] at H; exact H
                clear H
                have H := H1
                clear H1
                by_cases c29 : 0 ≤ a1
                · rw [if_pos c29] at H
                  have c29b0 : decide (0 ≤ a1) = true := decide_eq_true c29
                  clear c29
                  (first | rw [c29b0] | (simp only [i64_w, i32_w]; rw [c29b0]) | rw [c29b1] | skip)
                  by_cases c30 : a1 < (t314.length : Int)
                  · rw [if_pos c30] at H
                    have c30b0 : decide (a1 < (t314.length : Int)) = true := decide_eq_true c30
                    clear c30
                    have H' := Aside0.mk H
                    clear H
                    have hnb31 := NB321_312.out
                    have hnc31 := NB312_321.out
                    have hcz32_0 : wc.cell? ⟨gb321, 0, none⟩ = some (.int .i64 t313) := (blk_cell BK321.out 0).trans rfl
                    have hcz32_1 : wc.cell? ⟨gb321, 1, none⟩ = some (.slice Ao15 t314.length co15) := (blk_cell BK321.out 1).trans rfl
                    have hcz32_2 : wc.cell? ⟨gb321, 2, none⟩ = some (.slice Ao16 t317.length co16) := (blk_cell BK321.out 2).trans rfl
                    have hfz32_0 := blk_frozen BK321.out 0
                    have hfz32_1 := blk_frozen BK321.out 1
                    have hfz32_2 := blk_frozen BK321.out 2
                    have p323 : 0 ≤ (a1 : Int) := of_decide_eq_true (by first | (with_reducible assumption) | assumption)
                    have q323 : a1 < (t314.length : Int) := of_decide_eq_true (by first | (with_reducible assumption) | assumption)
                    obtain ⟨ad323, e323, hx323_0⟩ := Kd.at_int (Kd.R_reads' HO_322001.out).2.2 a1 p323 q323
                    cases e323
                    replace p323 := eq_true p323
                    replace q323 := eq_true q323
                    go_wp2
                    go_meet
                    case rel => exact ⟨_, (rd t314 a1), (by first | rfl | (simp; done) | (simp [*]; done)), H', ⟨by have := HJ5.out; have := HJ22.out; first | omega | exact Nat.le_refl _⟩, ⟨by (with_reducible repeat (first | apply Kd.R_alloc | apply Kd.R_drewN | apply Kd.R_drew)); exact HO_313000.out⟩, ⟨by (with_reducible repeat (first | apply Kd.R_alloc | apply Kd.R_drewN | apply Kd.R_drew)); exact HO_322001.out⟩, ⟨by (with_reducible repeat (first | apply Kd.R_alloc | apply Kd.R_drewN | apply Kd.R_drew)); exact HO_322002.out⟩, ⟨by (with_reducible repeat (first | refine blk_drewN ?_ _ | refine blk_drew ?_ | refine blk_alloc ?_ _)); exact BK312.out⟩, ⟨by (with_reducible repeat (first | refine blk_drewN ?_ _ | refine blk_drew ?_ | refine blk_alloc ?_ _)); exact BK321.out⟩, ⟨by repeat (first | (with_reducible first | exact HB.out | apply below_alloc | apply pw_below_drewN | apply below_drew1 | refine below_set ?_ GE312.out | refine below_set ?_ GE321.out) | exact HB.out)⟩⟩
                  · rw [if_neg c30] at H
                    exact absurd H (by simp)
                · rw [if_neg c29] at H
                  exact absurd H (by simp)
              · replace c28 := Bool.eq_false_iff.mpr c28
                subst c28
                have H1 : (carlinglaw12_ShapeItems.j2 kj22 a1 a2 (-1) t308 t313 t314 t317) = some r := by rw [if_neg (show ¬ (false = true) by decide)] at H; exact H
                clear H
                have H := H1
                clear H1
                have H' := Aside0.mk H
                clear H
                go_wp2
                go_meet
                case rel => exact ⟨_, ((-1)), (by first | rfl | (simp; done) | (simp [*]; done)), H', ⟨by have := HJ5.out; have := HJ22.out; first | omega | exact Nat.le_refl _⟩, ⟨by (with_reducible repeat (first | apply Kd.R_alloc | apply Kd.R_drewN | apply Kd.R_drew)); exact HO_313000.out⟩, ⟨by (with_reducible repeat (first | apply Kd.R_alloc | apply Kd.R_drewN | apply Kd.R_drew)); exact HO_322001.out⟩, ⟨by (with_reducible repeat (first | apply Kd.R_alloc | apply Kd.R_drewN | apply Kd.R_drew)); exact HO_322002.out⟩, ⟨by (with_reducible repeat (first | refine blk_drewN ?_ _ | refine blk_drew ?_ | refine blk_alloc ?_ _)); exact BK312.out⟩, ⟨by (with_reducible repeat (first | refine blk_drewN ?_ _ | refine blk_drew ?_ | refine blk_alloc ?_ _)); exact BK321.out⟩, ⟨by repeat (first | (with_reducible first | exact HB.out | apply below_alloc | apply pw_below_drewN | apply below_drew1 | refine below_set ?_ GE312.out | refine below_set ?_ GE321.out) | exact HB.out)⟩⟩
            case rest =>
              clear HC27
              try clear c1
              try clear c2
              try clear p2
              try clear c3
              try clear p3
              try clear q3
              try clear hx3
              try clear c6
              try clear c7
              try clear c13
              try clear c17
              try clear c17b0
              try clear c17b1
              try clear c18
              try clear c18b0
              try clear c18b1
              try clear c19
              try clear c20
              try clear c20b0
              try clear c20b1
              try clear c24
              try clear c24b0
              try clear c24b1
              try clear c25
              try clear c28
              try clear c29
              try clear c29b0
              try clear c29b1
              try clear c30
              try clear c30b0
              try clear c31
              try clear p32
              try clear q32
              try clear hx32
              try clear hcz10_0
              try clear hcz14_0
              try clear hcz14_1
              try clear hcz14_2
              try clear hcz26_0
              try clear hcz26_1
              try clear hcz26_2
              try clear hcz32_0
              try clear hcz32_1
              try clear hcz32_2
              try clear hfz10_0
              try clear hfz14_0
              try clear hfz14_1
              try clear hfz14_2
              try clear hfz26_0
              try clear hfz26_1
              try clear hfz26_2
              try clear hfz32_0
              try clear hfz32_1
              try clear hfz32_2
              try clear hx323_0
              try clear p2
              try clear p323
              try clear q323
              obtain ⟨kq, x11_26, rfl, HA, HJ26, HO_313000, HO_322001, HO_322002, BK312, BK321, HB⟩ := hcut
              cases kq with
              | zero => exact absurd HA.out (by simp [carlinglaw12_ShapeItems.j2])
              | succ kj26 =>
                have H := HA.out
                clear HA
                simp only [carlinglaw12_ShapeItems.j2] at H
                replace H := Option.bind_eq_some_iff.mp H
                obtain ⟨⟨t324, t325, t326⟩, A330, H⟩ := H
                replace H : ((carlingref12_Shape_Parent.f kj26 t313 t314 t317 a1).bind fun bt327 => ((shape_Shape_Item.f t308 a2).bind fun bt330 => ((carlingref12_Shape_Item.f kj26 t313 t314 t317 a2).bind fun bt333 => ((shape_Shape_Level.f kj26 t308 a1).bind fun t336 => (if t336 = x11_26 then (if t324 = bt327.1 then (if t325 = bt327.2.1 then (if (t326 != bt327.2.2) = true then (carlinglaw12_ShapeItems.j3 kj26 a1 true t308 t313 t314 t317) else (if bt330.1 = bt333.1 then (if bt330.2.1 = bt333.2.1 then (carlinglaw12_ShapeItems.j3 kj26 a1 (bt330.2.2 != bt333.2.2) t308 t313 t314 t317) else (carlinglaw12_ShapeItems.j3 kj26 a1 true t308 t313 t314 t317)) else (carlinglaw12_ShapeItems.j3 kj26 a1 true t308 t313 t314 t317))) else (carlinglaw12_ShapeItems.j3 kj26 a1 true t308 t313 t314 t317)) else (carlinglaw12_ShapeItems.j3 kj26 a1 true t308 t313 t314 t317)) else (carlinglaw12_ShapeItems.j3 kj26 a1 true t308 t313 t314 t317)))))) = some r := H
                have A33 := Aside0.mk A330
                clear A330
                replace H := Option.bind_eq_some_iff.mp H
                obtain ⟨⟨t327, t328, t329⟩, A340, H⟩ := H
                replace H : ((shape_Shape_Item.f t308 a2).bind fun bt330 => ((carlingref12_Shape_Item.f kj26 t313 t314 t317 a2).bind fun bt333 => ((shape_Shape_Level.f kj26 t308 a1).bind fun t336 => (if t336 = x11_26 then (if t324 = t327 then (if t325 = t328 then (if (t326 != t329) = true then (carlinglaw12_ShapeItems.j3 kj26 a1 true t308 t313 t314 t317) else (if bt330.1 = bt333.1 then (if bt330.2.1 = bt333.2.1 then (carlinglaw12_ShapeItems.j3 kj26 a1 (bt330.2.2 != bt333.2.2) t308 t313 t314 t317) else (carlinglaw12_ShapeItems.j3 kj26 a1 true t308 t313 t314 t317)) else (carlinglaw12_ShapeItems.j3 kj26 a1 true t308 t313 t314 t317))) else (carlinglaw12_ShapeItems.j3 kj26 a1 true t308 t313 t314 t317)) else (carlinglaw12_ShapeItems.j3 kj26 a1 true t308 t313 t314 t317)) else (carlinglaw12_ShapeItems.j3 kj26 a1 true t308 t313 t314 t317))))) = some r := H
                have A34 := Aside0.mk A340
                clear A340
                replace H := Option.bind_eq_some_iff.mp H
                obtain ⟨⟨t330, t331, t332⟩, A350, H⟩ := H
                replace H : ((carlingref12_Shape_Item.f kj26 t313 t314 t317 a2).bind fun bt333 => ((shape_Shape_Level.f kj26 t308 a1).bind fun t336 => (if t336 = x11_26 then (if t324 = t327 then (if t325 = t328 then (if (t326 != t329) = true then (carlinglaw12_ShapeItems.j3 kj26 a1 true t308 t313 t314 t317) else (if t330 = bt333.1 then (if t331 = bt333.2.1 then (carlinglaw12_ShapeItems.j3 kj26 a1 (t332 != bt333.2.2) t308 t313 t314 t317) else (carlinglaw12_ShapeItems.j3 kj26 a1 true t308 t313 t314 t317)) else (carlinglaw12_ShapeItems.j3 kj26 a1 true t308 t313 t314 t317))) else (carlinglaw12_ShapeItems.j3 kj26 a1 true t308 t313 t314 t317)) else (carlinglaw12_ShapeItems.j3 kj26 a1 true t308 t313 t314 t317)) else (carlinglaw12_ShapeItems.j3 kj26 a1 true t308 t313 t314 t317)))) = some r := H
                have A35 := Aside0.mk A350
                clear A350
                replace H := Option.bind_eq_some_iff.mp H
                obtain ⟨⟨t333, t334, t335⟩, A360, H⟩ := H
                replace H : ((shape_Shape_Level.f kj26 t308 a1).bind fun t336 => (if t336 = x11_26 then (if t324 = t327 then (if t325 = t328 then (if (t326 != t329) = true then (carlinglaw12_ShapeItems.j3 kj26 a1 true t308 t313 t314 t317) else (if t330 = t333 then (if t331 = t334 then (carlinglaw12_ShapeItems.j3 kj26 a1 (t332 != t335) t308 t313 t314 t317) else (carlinglaw12_ShapeItems.j3 kj26 a1 true t308 t313 t314 t317)) else (carlinglaw12_ShapeItems.j3 kj26 a1 true t308 t313 t314 t317))) else (carlinglaw12_ShapeItems.j3 kj26 a1 true t308 t313 t314 t317)) else (carlinglaw12_ShapeItems.j3 kj26 a1 true t308 t313 t314 t317)) else (carlinglaw12_ShapeItems.j3 kj26 a1 true t308 t313 t314 t317))) = some r := H
                have A36 := Aside0.mk A360
                clear A360
                have HC37 := Aside0.mk H
                clear H
                have hnb38 := NB312_321.out
                have hnc38 := NB321_312.out
                have hcz39_0 : wc.cell? ⟨gb312, 0, none⟩ = some (.slice Ao9 t308.length co9) := (blk_cell BK312.out 0).trans rfl
                have hfz39_0 := blk_frozen BK312.out 0
                go_upto_region 12 with (first | ((with_reducible refine gate_callee (f := 11) rfl ?_); refine goesL_ (some 68) rfl rfl Try.func11 (by kernel_rfl) rfl #[.agg #[.slice Ao9 t308.length co9], .int .i64 a1] rfl (by (try simp only [List.map_toArray, List.map_cons, List.map_nil]); first | done | rfl | (simp only [List.length_drop, List.length_take]; rfl)) ?_; (with_reducible refine (shape_Shape_Parent.calls kj26 _ _ t308 a1 t324 t325 t326 _ ?side1 ?side2 A33.out).mono ?_); (case side1 => repeat (first | exact (Kd.R_reads' HO_313000.out).2.2 | (with_reducible refine Kd.C_alloc ?_ _) | (with_reducible refine Kd.C_drewN ?_ _) | (with_reducible refine Kd.C_drew ?_))); (case side2 => exact (Kd.R_reads' HO_313000.out).2.1); rintro e w40 ⟨rfl, hb⟩; refine ⟨_, rfl, ?_⟩; have n0_ := Aside0.mk (Kd.R_below (by (with_reducible repeat (first | apply Kd.R_alloc | apply Kd.R_drewN | apply Kd.R_drew)); exact HO_313000.out) hb); have n1_ := Aside0.mk (Kd.R_below (by (with_reducible repeat (first | apply Kd.R_alloc | apply Kd.R_drewN | apply Kd.R_drew)); exact HO_322001.out) hb); have n2_ := Aside0.mk (Kd.R_below (by (with_reducible repeat (first | apply Kd.R_alloc | apply Kd.R_drewN | apply Kd.R_drew)); exact HO_322002.out) hb); have n3_ := Aside0.mk (blk_below (g := gb312) (o := .cells #[.slice Ao9 t308.length co9] 24 (0, 0)) (by (with_reducible repeat (first | refine blk_drewN ?_ _ | refine blk_drew ?_ | refine blk_alloc ?_ _)); exact BK312.out) hb); have n4_ := Aside0.mk (blk_below (g := gb321) (o := .cells #[.int .i64 t313, .slice Ao15 t314.length co15, .slice Ao16 t317.length co16] 39 (0, 0)) (by (with_reducible repeat (first | refine blk_drewN ?_ _ | refine blk_drew ?_ | refine blk_alloc ?_ _)); exact BK321.out) hb); have n5_ := Aside0.mk (below_step (by repeat (first | (with_reducible first | exact HB.out | apply below_alloc | apply pw_below_drewN | apply below_drew1 | refine below_set ?_ GE312.out | refine below_set ?_ GE321.out) | exact HB.out)) hb); clear HO_313000; clear HO_322001; clear HO_322002; clear BK312; clear BK321; clear HB; have HO_313000 := n0_; have HO_322001 := n1_; have HO_322002 := n2_; have BK312 := n3_; have BK321 := n4_; have HB := n5_; clear n0_ n1_ n2_ n3_ n4_ n5_; (try clear hb); (try clear hb2); (try clear hk); (try clear hi); have hcz41_0 : w40.cell? ⟨gb321, 0, none⟩ = some (.int .i64 t313) := (blk_cell BK321.out 0).trans rfl; have hcz41_1 : w40.cell? ⟨gb321, 1, none⟩ = some (.slice Ao15 t314.length co15) := (blk_cell BK321.out 1).trans rfl; have hcz41_2 : w40.cell? ⟨gb321, 2, none⟩ = some (.slice Ao16 t317.length co16) := (blk_cell BK321.out 2).trans rfl; have hfz41_0 := blk_frozen BK321.out 0; have hfz41_1 := blk_frozen BK321.out 1; have hfz41_2 := blk_frozen BK321.out 2) | ((with_reducible refine gate_callee (f := 22) rfl ?_); refine goesL_ (some 75) rfl rfl Try.func22 (by kernel_rfl) rfl #[.agg #[.int .i64 t313, .slice Ao15 t314.length co15, .slice Ao16 t317.length co16], .int .i64 a1] rfl (by (try simp only [List.map_toArray, List.map_cons, List.map_nil]); first | done | rfl | (simp only [List.length_drop, List.length_take]; rfl)) ?_; (with_reducible refine (carlingref12_Shape_Parent.calls kj26 t313 _ _ t314 _ _ t317 a1 t327 t328 t329 _ ?side1 ?side2 ?side3 ?side4 A34.out).mono ?_); (case side1 => repeat (first | exact (Kd.R_reads' HO_322001.out).2.2 | (with_reducible refine Kd.C_alloc ?_ _) | (with_reducible refine Kd.C_drewN ?_ _) | (with_reducible refine Kd.C_drew ?_))); (case side2 => exact (Kd.R_reads' HO_322001.out).2.1); (case side3 => repeat (first | exact (Kd.R_reads' HO_322002.out).2.2 | (with_reducible refine Kd.C_alloc ?_ _) | (with_reducible refine Kd.C_drewN ?_ _) | (with_reducible refine Kd.C_drew ?_))); (case side4 => exact (Kd.R_reads' HO_322002.out).2.1); rintro e w42 ⟨rfl, hb⟩; refine ⟨_, rfl, ?_⟩; have n0_ := Aside0.mk (Kd.R_below (by (with_reducible repeat (first | apply Kd.R_alloc | apply Kd.R_drewN | apply Kd.R_drew)); exact HO_313000.out) hb); have n1_ := Aside0.mk (Kd.R_below (by (with_reducible repeat (first | apply Kd.R_alloc | apply Kd.R_drewN | apply Kd.R_drew)); exact HO_322001.out) hb); have n2_ := Aside0.mk (Kd.R_below (by (with_reducible repeat (first | apply Kd.R_alloc | apply Kd.R_drewN | apply Kd.R_drew)); exact HO_322002.out) hb); have n3_ := Aside0.mk (blk_below (g := gb312) (o := .cells #[.slice Ao9 t308.length co9] 24 (0, 0)) (by (with_reducible repeat (first | refine blk_drewN ?_ _ | refine blk_drew ?_ | refine blk_alloc ?_ _)); exact BK312.out) hb); have n4_ := Aside0.mk (blk_below (g := gb321) (o := .cells #[.int .i64 t313, .slice Ao15 t314.length co15, .slice Ao16 t317.length co16] 39 (0, 0)) (by (with_reducible repeat (first | refine blk_drewN ?_ _ | refine blk_drew ?_ | refine blk_alloc ?_ _)); exact BK321.out) hb); have n5_ := Aside0.mk (below_step (by repeat (first | (with_reducible first | exact HB.out | apply below_alloc | apply pw_below_drewN | apply below_drew1 | refine below_set ?_ GE312.out | refine below_set ?_ GE321.out) | exact HB.out)) hb); clear HO_313000; clear HO_322001; clear HO_322002; clear BK312; clear BK321; clear HB; have HO_313000 := n0_; have HO_322001 := n1_; have HO_322002 := n2_; have BK312 := n3_; have BK321 := n4_; have HB := n5_; clear n0_ n1_ n2_ n3_ n4_ n5_; (try clear hb); (try clear hb2); (try clear hk); (try clear hi); have hcz43_0 : w42.cell? ⟨gb312, 0, none⟩ = some (.slice Ao9 t308.length co9) := (blk_cell BK312.out 0).trans rfl; have hfz43_0 := blk_frozen BK312.out 0) | ((with_reducible refine gate_callee (f := 14) rfl ?_); refine goesL_ (some 82) rfl rfl Try.func14 (by kernel_rfl) rfl #[.agg #[.slice Ao9 t308.length co9], .int .i64 a2] rfl (by (try simp only [List.map_toArray, List.map_cons, List.map_nil]); first | done | rfl | (simp only [List.length_drop, List.length_take]; rfl)) ?_; (with_reducible refine (shape_Shape_Item.calls _ _ t308 a2 t330 t331 t332 _ ?side1 ?side2 A35.out).mono ?_); (case side1 => repeat (first | exact (Kd.R_reads' HO_313000.out).2.2 | (with_reducible refine Kd.C_alloc ?_ _) | (with_reducible refine Kd.C_drewN ?_ _) | (with_reducible refine Kd.C_drew ?_))); (case side2 => exact (Kd.R_reads' HO_313000.out).2.1); rintro e w44 ⟨rfl, hb⟩; refine ⟨_, rfl, ?_⟩; have n0_ := Aside0.mk (Kd.R_below (by (with_reducible repeat (first | apply Kd.R_alloc | apply Kd.R_drewN | apply Kd.R_drew)); exact HO_313000.out) hb); have n1_ := Aside0.mk (Kd.R_below (by (with_reducible repeat (first | apply Kd.R_alloc | apply Kd.R_drewN | apply Kd.R_drew)); exact HO_322001.out) hb); have n2_ := Aside0.mk (Kd.R_below (by (with_reducible repeat (first | apply Kd.R_alloc | apply Kd.R_drewN | apply Kd.R_drew)); exact HO_322002.out) hb); have n3_ := Aside0.mk (blk_below (g := gb312) (o := .cells #[.slice Ao9 t308.length co9] 24 (0, 0)) (by (with_reducible repeat (first | refine blk_drewN ?_ _ | refine blk_drew ?_ | refine blk_alloc ?_ _)); exact BK312.out) hb); have n4_ := Aside0.mk (blk_below (g := gb321) (o := .cells #[.int .i64 t313, .slice Ao15 t314.length co15, .slice Ao16 t317.length co16] 39 (0, 0)) (by (with_reducible repeat (first | refine blk_drewN ?_ _ | refine blk_drew ?_ | refine blk_alloc ?_ _)); exact BK321.out) hb); have n5_ := Aside0.mk (below_step (by repeat (first | (with_reducible first | exact HB.out | apply below_alloc | apply pw_below_drewN | apply below_drew1 | refine below_set ?_ GE312.out | refine below_set ?_ GE321.out) | exact HB.out)) hb); clear HO_313000; clear HO_322001; clear HO_322002; clear BK312; clear BK321; clear HB; have HO_313000 := n0_; have HO_322001 := n1_; have HO_322002 := n2_; have BK312 := n3_; have BK321 := n4_; have HB := n5_; clear n0_ n1_ n2_ n3_ n4_ n5_; (try clear hb); (try clear hb2); (try clear hk); (try clear hi); have hcz45_0 : w44.cell? ⟨gb321, 0, none⟩ = some (.int .i64 t313) := (blk_cell BK321.out 0).trans rfl; have hcz45_1 : w44.cell? ⟨gb321, 1, none⟩ = some (.slice Ao15 t314.length co15) := (blk_cell BK321.out 1).trans rfl; have hcz45_2 : w44.cell? ⟨gb321, 2, none⟩ = some (.slice Ao16 t317.length co16) := (blk_cell BK321.out 2).trans rfl; have hfz45_0 := blk_frozen BK321.out 0; have hfz45_1 := blk_frozen BK321.out 1; have hfz45_2 := blk_frozen BK321.out 2) | ((with_reducible refine gate_callee (f := 23) rfl ?_); refine goesL_ (some 89) rfl rfl Try.func23 (by kernel_rfl) rfl #[.agg #[.int .i64 t313, .slice Ao15 t314.length co15, .slice Ao16 t317.length co16], .int .i64 a2] rfl (by (try simp only [List.map_toArray, List.map_cons, List.map_nil]); first | done | rfl | (simp only [List.length_drop, List.length_take]; rfl)) ?_; (with_reducible refine (carlingref12_Shape_Item.calls kj26 t313 _ _ t314 _ _ t317 a2 t333 t334 t335 _ ?side1 ?side2 ?side3 ?side4 A36.out).mono ?_); (case side1 => repeat (first | exact (Kd.R_reads' HO_322001.out).2.2 | (with_reducible refine Kd.C_alloc ?_ _) | (with_reducible refine Kd.C_drewN ?_ _) | (with_reducible refine Kd.C_drew ?_))); (case side2 => exact (Kd.R_reads' HO_322001.out).2.1); (case side3 => repeat (first | exact (Kd.R_reads' HO_322002.out).2.2 | (with_reducible refine Kd.C_alloc ?_ _) | (with_reducible refine Kd.C_drewN ?_ _) | (with_reducible refine Kd.C_drew ?_))); (case side4 => exact (Kd.R_reads' HO_322002.out).2.1); rintro e w46 ⟨rfl, hb⟩; refine ⟨_, rfl, ?_⟩; have n0_ := Aside0.mk (Kd.R_below (by (with_reducible repeat (first | apply Kd.R_alloc | apply Kd.R_drewN | apply Kd.R_drew)); exact HO_313000.out) hb); have n1_ := Aside0.mk (Kd.R_below (by (with_reducible repeat (first | apply Kd.R_alloc | apply Kd.R_drewN | apply Kd.R_drew)); exact HO_322001.out) hb); have n2_ := Aside0.mk (Kd.R_below (by (with_reducible repeat (first | apply Kd.R_alloc | apply Kd.R_drewN | apply Kd.R_drew)); exact HO_322002.out) hb); have n3_ := Aside0.mk (blk_below (g := gb312) (o := .cells #[.slice Ao9 t308.length co9] 24 (0, 0)) (by (with_reducible repeat (first | refine blk_drewN ?_ _ | refine blk_drew ?_ | refine blk_alloc ?_ _)); exact BK312.out) hb); have n4_ := Aside0.mk (blk_below (g := gb321) (o := .cells #[.int .i64 t313, .slice Ao15 t314.length co15, .slice Ao16 t317.length co16] 39 (0, 0)) (by (with_reducible repeat (first | refine blk_drewN ?_ _ | refine blk_drew ?_ | refine blk_alloc ?_ _)); exact BK321.out) hb); have n5_ := Aside0.mk (below_step (by repeat (first | (with_reducible first | exact HB.out | apply below_alloc | apply pw_below_drewN | apply below_drew1 | refine below_set ?_ GE312.out | refine below_set ?_ GE321.out) | exact HB.out)) hb); clear HO_313000; clear HO_322001; clear HO_322002; clear BK312; clear BK321; clear HB; have HO_313000 := n0_; have HO_322001 := n1_; have HO_322002 := n2_; have BK312 := n3_; have BK321 := n4_; have HB := n5_; clear n0_ n1_ n2_ n3_ n4_ n5_; (try clear hb); (try clear hb2); (try clear hk); (try clear hi)))
                (try simp only [Act.put, List.setIfInBounds_toArray, List.set_cons_zero, List.set_cons_succ])
                go_cut [127] (fun v127 wc => ∃ (kq : Nat) (x127_36 : Bool), v127 = .bool x127_36 ∧ Aside0 (carlinglaw12_ShapeItems.j3 kq a1 x127_36 t308 t313 t314 t317 = some r) ∧ Aside0 (kq ≤ kj26) ∧ Aside0 (Kd.R (Kd.int .i64) 3 wc w.heap.size (fun k_ => some k_ ≠ ((.slice Ao15 t314.length co15) : Value).ownBlock ∧ some k_ ≠ ((.slice Ao16 t317.length co16) : Value).ownBlock) (.slice Ao9 t308.length co9) t308) ∧ Aside0 (Kd.R (Kd.int .i64) 3 wc w.heap.size (fun k_ => some k_ ≠ ((.slice Ao9 t308.length co9) : Value).ownBlock ∧ some k_ ≠ ((.slice Ao16 t317.length co16) : Value).ownBlock) (.slice Ao15 t314.length co15) t314) ∧ Aside0 (Kd.R (Kd.int .i64) 3 wc w.heap.size (fun k_ => some k_ ≠ ((.slice Ao9 t308.length co9) : Value).ownBlock ∧ some k_ ≠ ((.slice Ao15 t314.length co15) : Value).ownBlock) (.slice Ao16 t317.length co16) t317) ∧ Aside0 (wc.heap[gb312]? = some (.cells #[(.slice Ao9 t308.length co9)] 24 (0, 0))) ∧ Aside0 (wc.heap[gb321]? = some (.cells #[.int .i64 t313, (.slice Ao15 t314.length co15), (.slice Ao16 t317.length co16)] 39 (0, 0))) ∧ Aside0 (Below w.heap.size w wc))
                case first =>
                  have H := HC37.out
                  clear HC37
                  replace H := Option.bind_eq_some_iff.mp H
                  obtain ⟨t336, A470, H⟩ := H
                  replace H : (if t336 = x11_26 then (if t324 = t327 then (if t325 = t328 then (if (t326 != t329) = true then (carlinglaw12_ShapeItems.j3 kj26 a1 true t308 t313 t314 t317) else (if t330 = t333 then (if t331 = t334 then (carlinglaw12_ShapeItems.j3 kj26 a1 (t332 != t335) t308 t313 t314 t317) else (carlinglaw12_ShapeItems.j3 kj26 a1 true t308 t313 t314 t317)) else (carlinglaw12_ShapeItems.j3 kj26 a1 true t308 t313 t314 t317))) else (carlinglaw12_ShapeItems.j3 kj26 a1 true t308 t313 t314 t317)) else (carlinglaw12_ShapeItems.j3 kj26 a1 true t308 t313 t314 t317)) else (carlinglaw12_ShapeItems.j3 kj26 a1 true t308 t313 t314 t317)) = some r := H
                  have A47 := Aside0.mk A470
                  clear A470
                  by_cases c48 : t336 = x11_26
                  · rw [if_pos c48] at H
                    have c48b0 : (t336 == x11_26) = true := beq_iff_eq.mpr c48
                    have c48b1 : (t336 != x11_26) = false := bne_eq_false_iff_eq.mpr c48
                    clear c48
                    (first | rw [c48b0] | (simp only [i64_w, i32_w]; rw [c48b0]) | rw [c48b1] | skip)
                    by_cases c49 : t324 = t327
                    · rw [if_pos c49] at H
                      have c49b0 : (t324 == t327) = true := beq_iff_eq.mpr c49
                      have c49b1 : (t324 != t327) = false := bne_eq_false_iff_eq.mpr c49
                      clear c49
                      by_cases c50 : t325 = t328
                      · rw [if_pos c50] at H
                        have c50b0 : (t325 == t328) = true := beq_iff_eq.mpr c50
                        have c50b1 : (t325 != t328) = false := bne_eq_false_iff_eq.mpr c50
                        clear c50
                        by_cases c51 : (t326 != t329) = true
                        · rw [if_pos c51] at H
                          have c51b0 : (t326 != t329) = true := c51
                          (try (have c51b1 : decide (t326 = t329) = false := by simpa using c51))
                          (try (have c51b2 : (t326 == t329) = false := by simpa using c51))
                          (try (have c51b3 : ¬ (t326 = t329) := by simpa using c51))
                          clear c51
                          have H' := Aside0.mk H
                          clear H
                          have hnb52 := NB312_321.out
                          have hnc52 := NB321_312.out
                          have hcz53_0 : w46.cell? ⟨gb312, 0, none⟩ = some (.slice Ao9 t308.length co9) := (blk_cell BK312.out 0).trans rfl
                          have hfz53_0 := blk_frozen BK312.out 0
                          go_wp2_with (first | ((with_reducible refine gate_callee (f := 12) rfl ?_); refine goesL_ (some 95) rfl rfl Try.func12 (by kernel_rfl) rfl #[.agg #[.slice Ao9 t308.length co9], .int .i64 a1] rfl (by (try simp only [List.map_toArray, List.map_cons, List.map_nil]); first | done | rfl | (simp only [List.length_drop, List.length_take]; rfl)) ?_; (with_reducible refine (shape_Shape_Level.calls kj26 _ _ t308 a1 t336 _ ?side1 ?side2 A47.out).mono ?_); (case side1 => repeat (first | exact (Kd.R_reads' HO_313000.out).2.2 | (with_reducible refine Kd.C_alloc ?_ _) | (with_reducible refine Kd.C_drewN ?_ _) | (with_reducible refine Kd.C_drew ?_))); (case side2 => exact (Kd.R_reads' HO_313000.out).2.1); rintro e w54 ⟨rfl, hb⟩; refine ⟨_, rfl, ?_⟩; have n0_ := Aside0.mk (Kd.R_below (by (with_reducible repeat (first | apply Kd.R_alloc | apply Kd.R_drewN | apply Kd.R_drew)); exact HO_313000.out) hb); have n1_ := Aside0.mk (Kd.R_below (by (with_reducible repeat (first | apply Kd.R_alloc | apply Kd.R_drewN | apply Kd.R_drew)); exact HO_322001.out) hb); have n2_ := Aside0.mk (Kd.R_below (by (with_reducible repeat (first | apply Kd.R_alloc | apply Kd.R_drewN | apply Kd.R_drew)); exact HO_322002.out) hb); have n3_ := Aside0.mk (blk_below (g := gb312) (o := .cells #[.slice Ao9 t308.length co9] 24 (0, 0)) (by (with_reducible repeat (first | refine blk_drewN ?_ _ | refine blk_drew ?_ | refine blk_alloc ?_ _)); exact BK312.out) hb); have n4_ := Aside0.mk (blk_below (g := gb321) (o := .cells #[.int .i64 t313, .slice Ao15 t314.length co15, .slice Ao16 t317.length co16] 39 (0, 0)) (by (with_reducible repeat (first | refine blk_drewN ?_ _ | refine blk_drew ?_ | refine blk_alloc ?_ _)); exact BK321.out) hb); have n5_ := Aside0.mk (below_step (by repeat (first | (with_reducible first | exact HB.out | apply below_alloc | apply pw_below_drewN | apply below_drew1 | refine below_set ?_ GE312.out | refine below_set ?_ GE321.out) | exact HB.out)) hb); clear HO_313000; clear HO_322001; clear HO_322002; clear BK312; clear BK321; clear HB; have HO_313000 := n0_; have HO_322001 := n1_; have HO_322002 := n2_; have BK312 := n3_; have BK321 := n4_; have HB := n5_; clear n0_ n1_ n2_ n3_ n4_ n5_; (try clear hb); (try clear hb2); (try clear hk); (try clear hi)))
                          go_meet
                          case rel => exact ⟨_, (true), (by first | rfl | (simp; done) | (simp [*]; done)), H', ⟨by have := HJ5.out; have := HJ22.out; have := HJ26.out; first | omega | exact Nat.le_refl _⟩, ⟨by (with_reducible repeat (first | apply Kd.R_alloc | apply Kd.R_drewN | apply Kd.R_drew)); exact HO_313000.out⟩, ⟨by (with_reducible repeat (first | apply Kd.R_alloc | apply Kd.R_drewN | apply Kd.R_drew)); exact HO_322001.out⟩, ⟨by (with_reducible repeat (first | apply Kd.R_alloc | apply Kd.R_drewN | apply Kd.R_drew)); exact HO_322002.out⟩, ⟨by (with_reducible repeat (first | refine blk_drewN ?_ _ | refine blk_drew ?_ | refine blk_alloc ?_ _)); exact BK312.out⟩, ⟨by (with_reducible repeat (first | refine blk_drewN ?_ _ | refine blk_drew ?_ | refine blk_alloc ?_ _)); exact BK321.out⟩, ⟨by repeat (first | (with_reducible first | exact HB.out | apply below_alloc | apply pw_below_drewN | apply below_drew1 | refine below_set ?_ GE312.out | refine below_set ?_ GE321.out) | exact HB.out)⟩⟩
                        · rw [if_neg c51] at H
                          have c51b0 : (t326 != t329) = false := by simpa using c51
                          (try (have c51b1 : decide (t326 = t329) = true := by simpa using c51))
                          (try (have c51b2 : (t326 == t329) = true := by simpa using c51))
                          clear c51
                          by_cases c55 : t330 = t333
                          · rw [if_pos c55] at H
                            have c55b0 : (t330 == t333) = true := beq_iff_eq.mpr c55
                            have c55b1 : (t330 != t333) = false := bne_eq_false_iff_eq.mpr c55
                            clear c55
                            by_cases c56 : t331 = t334
                            · rw [if_pos c56] at H
                              have c56b0 : (t331 == t334) = true := beq_iff_eq.mpr c56
                              have c56b1 : (t331 != t334) = false := bne_eq_false_iff_eq.mpr c56
                              clear c56
                              have H' := Aside0.mk H
                              clear H
                              have hnb57 := NB312_321.out
                              have hnc57 := NB321_312.out
                              have hcz58_0 : w46.cell? ⟨gb312, 0, none⟩ = some (.slice Ao9 t308.length co9) := (blk_cell BK312.out 0).trans rfl
                              have hfz58_0 := blk_frozen BK312.out 0
                              go_wp2_with (first | ((with_reducible refine gate_callee (f := 12) rfl ?_); refine goesL_ (some 95) rfl rfl Try.func12 (by kernel_rfl) rfl #[.agg #[.slice Ao9 t308.length co9], .int .i64 a1] rfl (by (try simp only [List.map_toArray, List.map_cons, List.map_nil]); first | done | rfl | (simp only [List.length_drop, List.length_take]; rfl)) ?_; (with_reducible refine (shape_Shape_Level.calls kj26 _ _ t308 a1 t336 _ ?side1 ?side2 A47.out).mono ?_); (case side1 => repeat (first | exact (Kd.R_reads' HO_313000.out).2.2 | (with_reducible refine Kd.C_alloc ?_ _) | (with_reducible refine Kd.C_drewN ?_ _) | (with_reducible refine Kd.C_drew ?_))); (case side2 => exact (Kd.R_reads' HO_313000.out).2.1); rintro e w59 ⟨rfl, hb⟩; refine ⟨_, rfl, ?_⟩; have n0_ := Aside0.mk (Kd.R_below (by (with_reducible repeat (first | apply Kd.R_alloc | apply Kd.R_drewN | apply Kd.R_drew)); exact HO_313000.out) hb); have n1_ := Aside0.mk (Kd.R_below (by (with_reducible repeat (first | apply Kd.R_alloc | apply Kd.R_drewN | apply Kd.R_drew)); exact HO_322001.out) hb); have n2_ := Aside0.mk (Kd.R_below (by (with_reducible repeat (first | apply Kd.R_alloc | apply Kd.R_drewN | apply Kd.R_drew)); exact HO_322002.out) hb); have n3_ := Aside0.mk (blk_below (g := gb312) (o := .cells #[.slice Ao9 t308.length co9] 24 (0, 0)) (by (with_reducible repeat (first | refine blk_drewN ?_ _ | refine blk_drew ?_ | refine blk_alloc ?_ _)); exact BK312.out) hb); have n4_ := Aside0.mk (blk_below (g := gb321) (o := .cells #[.int .i64 t313, .slice Ao15 t314.length co15, .slice Ao16 t317.length co16] 39 (0, 0)) (by (with_reducible repeat (first | refine blk_drewN ?_ _ | refine blk_drew ?_ | refine blk_alloc ?_ _)); exact BK321.out) hb); have n5_ := Aside0.mk (below_step (by repeat (first | (with_reducible first | exact HB.out | apply below_alloc | apply pw_below_drewN | apply below_drew1 | refine below_set ?_ GE312.out | refine below_set ?_ GE321.out) | exact HB.out)) hb); clear HO_313000; clear HO_322001; clear HO_322002; clear BK312; clear BK321; clear HB; have HO_313000 := n0_; have HO_322001 := n1_; have HO_322002 := n2_; have BK312 := n3_; have BK321 := n4_; have HB := n5_; clear n0_ n1_ n2_ n3_ n4_ n5_; (try clear hb); (try clear hb2); (try clear hk); (try clear hi)))
                              go_meet
                              case rel => exact ⟨_, ((t332 != t335)), (by first | rfl | (simp; done) | (simp [*]; done)), H', ⟨by have := HJ5.out; have := HJ22.out; have := HJ26.out; first | omega | exact Nat.le_refl _⟩, ⟨by (with_reducible repeat (first | apply Kd.R_alloc | apply Kd.R_drewN | apply Kd.R_drew)); exact HO_313000.out⟩, ⟨by (with_reducible repeat (first | apply Kd.R_alloc | apply Kd.R_drewN | apply Kd.R_drew)); exact HO_322001.out⟩, ⟨by (with_reducible repeat (first | apply Kd.R_alloc | apply Kd.R_drewN | apply Kd.R_drew)); exact HO_322002.out⟩, ⟨by (with_reducible repeat (first | refine blk_drewN ?_ _ | refine blk_drew ?_ | refine blk_alloc ?_ _)); exact BK312.out⟩, ⟨by (with_reducible repeat (first | refine blk_drewN ?_ _ | refine blk_drew ?_ | refine blk_alloc ?_ _)); exact BK321.out⟩, ⟨by repeat (first | (with_reducible first | exact HB.out | apply below_alloc | apply pw_below_drewN | apply below_drew1 | refine below_set ?_ GE312.out | refine below_set ?_ GE321.out) | exact HB.out)⟩⟩
                            · rw [if_neg c56] at H
                              have c56b0 : (t331 == t334) = false := beq_eq_false_iff_ne.mpr c56
                              have c56b1 : (t331 != t334) = true := bne_iff_ne.mpr c56
                              have H' := Aside0.mk H
                              clear H
                              have hnb60 := NB312_321.out
                              have hnc60 := NB321_312.out
                              have hcz61_0 : w46.cell? ⟨gb312, 0, none⟩ = some (.slice Ao9 t308.length co9) := (blk_cell BK312.out 0).trans rfl
                              have hfz61_0 := blk_frozen BK312.out 0
                              go_wp2_with (first | ((with_reducible refine gate_callee (f := 12) rfl ?_); refine goesL_ (some 95) rfl rfl Try.func12 (by kernel_rfl) rfl #[.agg #[.slice Ao9 t308.length co9], .int .i64 a1] rfl (by (try simp only [List.map_toArray, List.map_cons, List.map_nil]); first | done | rfl | (simp only [List.length_drop, List.length_take]; rfl)) ?_; (with_reducible refine (shape_Shape_Level.calls kj26 _ _ t308 a1 t336 _ ?side1 ?side2 A47.out).mono ?_); (case side1 => repeat (first | exact (Kd.R_reads' HO_313000.out).2.2 | (with_reducible refine Kd.C_alloc ?_ _) | (with_reducible refine Kd.C_drewN ?_ _) | (with_reducible refine Kd.C_drew ?_))); (case side2 => exact (Kd.R_reads' HO_313000.out).2.1); rintro e w62 ⟨rfl, hb⟩; refine ⟨_, rfl, ?_⟩; have n0_ := Aside0.mk (Kd.R_below (by (with_reducible repeat (first | apply Kd.R_alloc | apply Kd.R_drewN | apply Kd.R_drew)); exact HO_313000.out) hb); have n1_ := Aside0.mk (Kd.R_below (by (with_reducible repeat (first | apply Kd.R_alloc | apply Kd.R_drewN | apply Kd.R_drew)); exact HO_322001.out) hb); have n2_ := Aside0.mk (Kd.R_below (by (with_reducible repeat (first | apply Kd.R_alloc | apply Kd.R_drewN | apply Kd.R_drew)); exact HO_322002.out) hb); have n3_ := Aside0.mk (blk_below (g := gb312) (o := .cells #[.slice Ao9 t308.length co9] 24 (0, 0)) (by (with_reducible repeat (first | refine blk_drewN ?_ _ | refine blk_drew ?_ | refine blk_alloc ?_ _)); exact BK312.out) hb); have n4_ := Aside0.mk (blk_below (g := gb321) (o := .cells #[.int .i64 t313, .slice Ao15 t314.length co15, .slice Ao16 t317.length co16] 39 (0, 0)) (by (with_reducible repeat (first | refine blk_drewN ?_ _ | refine blk_drew ?_ | refine blk_alloc ?_ _)); exact BK321.out) hb); have n5_ := Aside0.mk (below_step (by repeat (first | (with_reducible first | exact HB.out | apply below_alloc | apply pw_below_drewN | apply below_drew1 | refine below_set ?_ GE312.out | refine below_set ?_ GE321.out) | exact HB.out)) hb); clear HO_313000; clear HO_322001; clear HO_322002; clear BK312; clear BK321; clear HB; have HO_313000 := n0_; have HO_322001 := n1_; have HO_322002 := n2_; have BK312 := n3_; have BK321 := n4_; have HB := n5_; clear n0_ n1_ n2_ n3_ n4_ n5_; (try clear hb); (try clear hb2); (try clear hk); (try clear hi)))
                              go_meet
                              case rel => exact ⟨_, (true), (by first | rfl | (simp; done) | (simp [*]; done)), H', ⟨by have := HJ5.out; have := HJ22.out; have := HJ26.out; first | omega | exact Nat.le_refl _⟩, ⟨by (with_reducible repeat (first | apply Kd.R_alloc | apply Kd.R_drewN | apply Kd.R_drew)); exact HO_313000.out⟩, ⟨by (with_reducible repeat (first | apply Kd.R_alloc | apply Kd.R_drewN | apply Kd.R_drew)); exact HO_322001.out⟩, ⟨by (with_reducible repeat (first | apply Kd.R_alloc | apply Kd.R_drewN | apply Kd.R_drew)); exact HO_322002.out⟩, ⟨by (with_reducible repeat (first | refine blk_drewN ?_ _ | refine blk_drew ?_ | refine blk_alloc ?_ _)); exact BK312.out⟩, ⟨by (with_reducible repeat (first | refine blk_drewN ?_ _ | refine blk_drew ?_ | refine blk_alloc ?_ _)); exact BK321.out⟩, ⟨by repeat (first | (with_reducible first | exact HB.out | apply below_alloc | apply pw_below_drewN | apply below_drew1 | refine below_set ?_ GE312.out | refine below_set ?_ GE321.out) | exact HB.out)⟩⟩
                          · rw [if_neg c55] at H
                            have c55b0 : (t330 == t333) = false := beq_eq_false_iff_ne.mpr c55
                            have c55b1 : (t330 != t333) = true := bne_iff_ne.mpr c55
                            have H' := Aside0.mk H
                            clear H
                            have hnb63 := NB312_321.out
                            have hnc63 := NB321_312.out
                            have hcz64_0 : w46.cell? ⟨gb312, 0, none⟩ = some (.slice Ao9 t308.length co9) := (blk_cell BK312.out 0).trans rfl
                            have hfz64_0 := blk_frozen BK312.out 0
                            go_wp2_with (first | ((with_reducible refine gate_callee (f := 12) rfl ?_); refine goesL_ (some 95) rfl rfl Try.func12 (by kernel_rfl) rfl #[.agg #[.slice Ao9 t308.length co9], .int .i64 a1] rfl (by (try simp only [List.map_toArray, List.map_cons, List.map_nil]); first | done | rfl | (simp only [List.length_drop, List.length_take]; rfl)) ?_; (with_reducible refine (shape_Shape_Level.calls kj26 _ _ t308 a1 t336 _ ?side1 ?side2 A47.out).mono ?_); (case side1 => repeat (first | exact (Kd.R_reads' HO_313000.out).2.2 | (with_reducible refine Kd.C_alloc ?_ _) | (with_reducible refine Kd.C_drewN ?_ _) | (with_reducible refine Kd.C_drew ?_))); (case side2 => exact (Kd.R_reads' HO_313000.out).2.1); rintro e w65 ⟨rfl, hb⟩; refine ⟨_, rfl, ?_⟩; have n0_ := Aside0.mk (Kd.R_below (by (with_reducible repeat (first | apply Kd.R_alloc | apply Kd.R_drewN | apply Kd.R_drew)); exact HO_313000.out) hb); have n1_ := Aside0.mk (Kd.R_below (by (with_reducible repeat (first | apply Kd.R_alloc | apply Kd.R_drewN | apply Kd.R_drew)); exact HO_322001.out) hb); have n2_ := Aside0.mk (Kd.R_below (by (with_reducible repeat (first | apply Kd.R_alloc | apply Kd.R_drewN | apply Kd.R_drew)); exact HO_322002.out) hb); have n3_ := Aside0.mk (blk_below (g := gb312) (o := .cells #[.slice Ao9 t308.length co9] 24 (0, 0)) (by (with_reducible repeat (first | refine blk_drewN ?_ _ | refine blk_drew ?_ | refine blk_alloc ?_ _)); exact BK312.out) hb); have n4_ := Aside0.mk (blk_below (g := gb321) (o := .cells #[.int .i64 t313, .slice Ao15 t314.length co15, .slice Ao16 t317.length co16] 39 (0, 0)) (by (with_reducible repeat (first | refine blk_drewN ?_ _ | refine blk_drew ?_ | refine blk_alloc ?_ _)); exact BK321.out) hb); have n5_ := Aside0.mk (below_step (by repeat (first | (with_reducible first | exact HB.out | apply below_alloc | apply pw_below_drewN | apply below_drew1 | refine below_set ?_ GE312.out | refine below_set ?_ GE321.out) | exact HB.out)) hb); clear HO_313000; clear HO_322001; clear HO_322002; clear BK312; clear BK321; clear HB; have HO_313000 := n0_; have HO_322001 := n1_; have HO_322002 := n2_; have BK312 := n3_; have BK321 := n4_; have HB := n5_; clear n0_ n1_ n2_ n3_ n4_ n5_; (try clear hb); (try clear hb2); (try clear hk); (try clear hi)))
                            go_meet
                            case rel => exact ⟨_, (true), (by first | rfl | (simp; done) | (simp [*]; done)), H', ⟨by have := HJ5.out; have := HJ22.out; have := HJ26.out; first | omega | exact Nat.le_refl _⟩, ⟨by (with_reducible repeat (first | apply Kd.R_alloc | apply Kd.R_drewN | apply Kd.R_drew)); exact HO_313000.out⟩, ⟨by (with_reducible repeat (first | apply Kd.R_alloc | apply Kd.R_drewN | apply Kd.R_drew)); exact HO_322001.out⟩, ⟨by (with_reducible repeat (first | apply Kd.R_alloc | apply Kd.R_drewN | apply Kd.R_drew)); exact HO_322002.out⟩, ⟨by (with_reducible repeat (first | refine blk_drewN ?_ _ | refine blk_drew ?_ | refine blk_alloc ?_ _)); exact BK312.out⟩, ⟨by (with_reducible repeat (first | refine blk_drewN ?_ _ | refine blk_drew ?_ | refine blk_alloc ?_ _)); exact BK321.out⟩, ⟨by repeat (first | (with_reducible first | exact HB.out | apply below_alloc | apply pw_below_drewN | apply below_drew1 | refine below_set ?_ GE312.out | refine below_set ?_ GE321.out) | exact HB.out)⟩⟩
                      · rw [if_neg c50] at H
                        have c50b0 : (t325 == t328) = false := beq_eq_false_iff_ne.mpr c50
                        have c50b1 : (t325 != t328) = true := bne_iff_ne.mpr c50
                        have H' := Aside0.mk H
                        clear H
                        have hnb66 := NB312_321.out
                        have hnc66 := NB321_312.out
                        have hcz67_0 : w46.cell? ⟨gb312, 0, none⟩ = some (.slice Ao9 t308.length co9) := (blk_cell BK312.out 0).trans rfl
                        have hfz67_0 := blk_frozen BK312.out 0
                        go_wp2_with (first | ((with_reducible refine gate_callee (f := 12) rfl ?_); refine goesL_ (some 95) rfl rfl Try.func12 (by kernel_rfl) rfl #[.agg #[.slice Ao9 t308.length co9], .int .i64 a1] rfl (by (try simp only [List.map_toArray, List.map_cons, List.map_nil]); first | done | rfl | (simp only [List.length_drop, List.length_take]; rfl)) ?_; (with_reducible refine (shape_Shape_Level.calls kj26 _ _ t308 a1 t336 _ ?side1 ?side2 A47.out).mono ?_); (case side1 => repeat (first | exact (Kd.R_reads' HO_313000.out).2.2 | (with_reducible refine Kd.C_alloc ?_ _) | (with_reducible refine Kd.C_drewN ?_ _) | (with_reducible refine Kd.C_drew ?_))); (case side2 => exact (Kd.R_reads' HO_313000.out).2.1); rintro e w68 ⟨rfl, hb⟩; refine ⟨_, rfl, ?_⟩; have n0_ := Aside0.mk (Kd.R_below (by (with_reducible repeat (first | apply Kd.R_alloc | apply Kd.R_drewN | apply Kd.R_drew)); exact HO_313000.out) hb); have n1_ := Aside0.mk (Kd.R_below (by (with_reducible repeat (first | apply Kd.R_alloc | apply Kd.R_drewN | apply Kd.R_drew)); exact HO_322001.out) hb); have n2_ := Aside0.mk (Kd.R_below (by (with_reducible repeat (first | apply Kd.R_alloc | apply Kd.R_drewN | apply Kd.R_drew)); exact HO_322002.out) hb); have n3_ := Aside0.mk (blk_below (g := gb312) (o := .cells #[.slice Ao9 t308.length co9] 24 (0, 0)) (by (with_reducible repeat (first | refine blk_drewN ?_ _ | refine blk_drew ?_ | refine blk_alloc ?_ _)); exact BK312.out) hb); have n4_ := Aside0.mk (blk_below (g := gb321) (o := .cells #[.int .i64 t313, .slice Ao15 t314.length co15, .slice Ao16 t317.length co16] 39 (0, 0)) (by (with_reducible repeat (first | refine blk_drewN ?_ _ | refine blk_drew ?_ | refine blk_alloc ?_ _)); exact BK321.out) hb); have n5_ := Aside0.mk (below_step (by repeat (first | (with_reducible first | exact HB.out | apply below_alloc | apply pw_below_drewN | apply below_drew1 | refine below_set ?_ GE312.out | refine below_set ?_ GE321.out) | exact HB.out)) hb); clear HO_313000; clear HO_322001; clear HO_322002; clear BK312; clear BK321; clear HB; have HO_313000 := n0_; have HO_322001 := n1_; have HO_322002 := n2_; have BK312 := n3_; have BK321 := n4_; have HB := n5_; clear n0_ n1_ n2_ n3_ n4_ n5_; (try clear hb); (try clear hb2); (try clear hk); (try clear hi)))
                        go_meet
                        case rel => exact ⟨_, (true), (by first | rfl | (simp; done) | (simp [*]; done)), H', ⟨by have := HJ5.out; have := HJ22.out; have := HJ26.out; first | omega | exact Nat.le_refl _⟩, ⟨by (with_reducible repeat (first | apply Kd.R_alloc | apply Kd.R_drewN | apply Kd.R_drew)); exact HO_313000.out⟩, ⟨by (with_reducible repeat (first | apply Kd.R_alloc | apply Kd.R_drewN | apply Kd.R_drew)); exact HO_322001.out⟩, ⟨by (with_reducible repeat (first | apply Kd.R_alloc | apply Kd.R_drewN | apply Kd.R_drew)); exact HO_322002.out⟩, ⟨by (with_reducible repeat (first | refine blk_drewN ?_ _ | refine blk_drew ?_ | refine blk_alloc ?_ _)); exact BK312.out⟩, ⟨by (with_reducible repeat (first | refine blk_drewN ?_ _ | refine blk_drew ?_ | refine blk_alloc ?_ _)); exact BK321.out⟩, ⟨by repeat (first | (with_reducible first | exact HB.out | apply below_alloc | apply pw_below_drewN | apply below_drew1 | refine below_set ?_ GE312.out | refine below_set ?_ GE321.out) | exact HB.out)⟩⟩
                    · rw [if_neg c49] at H
                      have c49b0 : (t324 == t327) = false := beq_eq_false_iff_ne.mpr c49
                      have c49b1 : (t324 != t327) = true := bne_iff_ne.mpr c49
                      have H' := Aside0.mk H
                      clear H
                      have hnb69 := NB312_321.out
                      have hnc69 := NB321_312.out
                      have hcz70_0 : w46.cell? ⟨gb312, 0, none⟩ = some (.slice Ao9 t308.length co9) := (blk_cell BK312.out 0).trans rfl
                      have hfz70_0 := blk_frozen BK312.out 0
                      go_wp2_with (first | ((with_reducible refine gate_callee (f := 12) rfl ?_); refine goesL_ (some 95) rfl rfl Try.func12 (by kernel_rfl) rfl #[.agg #[.slice Ao9 t308.length co9], .int .i64 a1] rfl (by (try simp only [List.map_toArray, List.map_cons, List.map_nil]); first | done | rfl | (simp only [List.length_drop, List.length_take]; rfl)) ?_; (with_reducible refine (shape_Shape_Level.calls kj26 _ _ t308 a1 t336 _ ?side1 ?side2 A47.out).mono ?_); (case side1 => repeat (first | exact (Kd.R_reads' HO_313000.out).2.2 | (with_reducible refine Kd.C_alloc ?_ _) | (with_reducible refine Kd.C_drewN ?_ _) | (with_reducible refine Kd.C_drew ?_))); (case side2 => exact (Kd.R_reads' HO_313000.out).2.1); rintro e w71 ⟨rfl, hb⟩; refine ⟨_, rfl, ?_⟩; have n0_ := Aside0.mk (Kd.R_below (by (with_reducible repeat (first | apply Kd.R_alloc | apply Kd.R_drewN | apply Kd.R_drew)); exact HO_313000.out) hb); have n1_ := Aside0.mk (Kd.R_below (by (with_reducible repeat (first | apply Kd.R_alloc | apply Kd.R_drewN | apply Kd.R_drew)); exact HO_322001.out) hb); have n2_ := Aside0.mk (Kd.R_below (by (with_reducible repeat (first | apply Kd.R_alloc | apply Kd.R_drewN | apply Kd.R_drew)); exact HO_322002.out) hb); have n3_ := Aside0.mk (blk_below (g := gb312) (o := .cells #[.slice Ao9 t308.length co9] 24 (0, 0)) (by (with_reducible repeat (first | refine blk_drewN ?_ _ | refine blk_drew ?_ | refine blk_alloc ?_ _)); exact BK312.out) hb); have n4_ := Aside0.mk (blk_below (g := gb321) (o := .cells #[.int .i64 t313, .slice Ao15 t314.length co15, .slice Ao16 t317.length co16] 39 (0, 0)) (by (with_reducible repeat (first | refine blk_drewN ?_ _ | refine blk_drew ?_ | refine blk_alloc ?_ _)); exact BK321.out) hb); have n5_ := Aside0.mk (below_step (by repeat (first | (with_reducible first | exact HB.out | apply below_alloc | apply pw_below_drewN | apply below_drew1 | refine below_set ?_ GE312.out | refine below_set ?_ GE321.out) | exact HB.out)) hb); clear HO_313000; clear HO_322001; clear HO_322002; clear BK312; clear BK321; clear HB; have HO_313000 := n0_; have HO_322001 := n1_; have HO_322002 := n2_; have BK312 := n3_; have BK321 := n4_; have HB := n5_; clear n0_ n1_ n2_ n3_ n4_ n5_; (try clear hb); (try clear hb2); (try clear hk); (try clear hi)))
                      go_meet
                      case rel => exact ⟨_, (true), (by first | rfl | (simp; done) | (simp [*]; done)), H', ⟨by have := HJ5.out; have := HJ22.out; have := HJ26.out; first | omega | exact Nat.le_refl _⟩, ⟨by (with_reducible repeat (first | apply Kd.R_alloc | apply Kd.R_drewN | apply Kd.R_drew)); exact HO_313000.out⟩, ⟨by (with_reducible repeat (first | apply Kd.R_alloc | apply Kd.R_drewN | apply Kd.R_drew)); exact HO_322001.out⟩, ⟨by (with_reducible repeat (first | apply Kd.R_alloc | apply Kd.R_drewN | apply Kd.R_drew)); exact HO_322002.out⟩, ⟨by (with_reducible repeat (first | refine blk_drewN ?_ _ | refine blk_drew ?_ | refine blk_alloc ?_ _)); exact BK312.out⟩, ⟨by (with_reducible repeat (first | refine blk_drewN ?_ _ | refine blk_drew ?_ | refine blk_alloc ?_ _)); exact BK321.out⟩, ⟨by repeat (first | (with_reducible first | exact HB.out | apply below_alloc | apply pw_below_drewN | apply below_drew1 | refine below_set ?_ GE312.out | refine below_set ?_ GE321.out) | exact HB.out)⟩⟩
                  · rw [if_neg c48] at H
                    have c48b0 : (t336 == x11_26) = false := beq_eq_false_iff_ne.mpr c48
                    have c48b1 : (t336 != x11_26) = true := bne_iff_ne.mpr c48
                    (first | rw [c48b0] | (simp only [i64_w, i32_w]; rw [c48b0]) | rw [c48b1] | skip)
                    have H' := Aside0.mk H
                    clear H
                    have hnb72 := NB312_321.out
                    have hnc72 := NB321_312.out
                    have hcz73_0 : w46.cell? ⟨gb312, 0, none⟩ = some (.slice Ao9 t308.length co9) := (blk_cell BK312.out 0).trans rfl
                    have hfz73_0 := blk_frozen BK312.out 0
                    go_wp2_with (first | ((with_reducible refine gate_callee (f := 12) rfl ?_); refine goesL_ (some 95) rfl rfl Try.func12 (by kernel_rfl) rfl #[.agg #[.slice Ao9 t308.length co9], .int .i64 a1] rfl (by (try simp only [List.map_toArray, List.map_cons, List.map_nil]); first | done | rfl | (simp only [List.length_drop, List.length_take]; rfl)) ?_; (with_reducible refine (shape_Shape_Level.calls kj26 _ _ t308 a1 t336 _ ?side1 ?side2 A47.out).mono ?_); (case side1 => repeat (first | exact (Kd.R_reads' HO_313000.out).2.2 | (with_reducible refine Kd.C_alloc ?_ _) | (with_reducible refine Kd.C_drewN ?_ _) | (with_reducible refine Kd.C_drew ?_))); (case side2 => exact (Kd.R_reads' HO_313000.out).2.1); rintro e w74 ⟨rfl, hb⟩; refine ⟨_, rfl, ?_⟩; have n0_ := Aside0.mk (Kd.R_below (by (with_reducible repeat (first | apply Kd.R_alloc | apply Kd.R_drewN | apply Kd.R_drew)); exact HO_313000.out) hb); have n1_ := Aside0.mk (Kd.R_below (by (with_reducible repeat (first | apply Kd.R_alloc | apply Kd.R_drewN | apply Kd.R_drew)); exact HO_322001.out) hb); have n2_ := Aside0.mk (Kd.R_below (by (with_reducible repeat (first | apply Kd.R_alloc | apply Kd.R_drewN | apply Kd.R_drew)); exact HO_322002.out) hb); have n3_ := Aside0.mk (blk_below (g := gb312) (o := .cells #[.slice Ao9 t308.length co9] 24 (0, 0)) (by (with_reducible repeat (first | refine blk_drewN ?_ _ | refine blk_drew ?_ | refine blk_alloc ?_ _)); exact BK312.out) hb); have n4_ := Aside0.mk (blk_below (g := gb321) (o := .cells #[.int .i64 t313, .slice Ao15 t314.length co15, .slice Ao16 t317.length co16] 39 (0, 0)) (by (with_reducible repeat (first | refine blk_drewN ?_ _ | refine blk_drew ?_ | refine blk_alloc ?_ _)); exact BK321.out) hb); have n5_ := Aside0.mk (below_step (by repeat (first | (with_reducible first | exact HB.out | apply below_alloc | apply pw_below_drewN | apply below_drew1 | refine below_set ?_ GE312.out | refine below_set ?_ GE321.out) | exact HB.out)) hb); clear HO_313000; clear HO_322001; clear HO_322002; clear BK312; clear BK321; clear HB; have HO_313000 := n0_; have HO_322001 := n1_; have HO_322002 := n2_; have BK312 := n3_; have BK321 := n4_; have HB := n5_; clear n0_ n1_ n2_ n3_ n4_ n5_; (try clear hb); (try clear hb2); (try clear hk); (try clear hi)))
                    go_meet
                    case rel => exact ⟨_, (true), (by first | rfl | (simp; done) | (simp [*]; done)), H', ⟨by have := HJ5.out; have := HJ22.out; have := HJ26.out; first | omega | exact Nat.le_refl _⟩, ⟨by (with_reducible repeat (first | apply Kd.R_alloc | apply Kd.R_drewN | apply Kd.R_drew)); exact HO_313000.out⟩, ⟨by (with_reducible repeat (first | apply Kd.R_alloc | apply Kd.R_drewN | apply Kd.R_drew)); exact HO_322001.out⟩, ⟨by (with_reducible repeat (first | apply Kd.R_alloc | apply Kd.R_drewN | apply Kd.R_drew)); exact HO_322002.out⟩, ⟨by (with_reducible repeat (first | refine blk_drewN ?_ _ | refine blk_drew ?_ | refine blk_alloc ?_ _)); exact BK312.out⟩, ⟨by (with_reducible repeat (first | refine blk_drewN ?_ _ | refine blk_drew ?_ | refine blk_alloc ?_ _)); exact BK321.out⟩, ⟨by repeat (first | (with_reducible first | exact HB.out | apply below_alloc | apply pw_below_drewN | apply below_drew1 | refine below_set ?_ GE312.out | refine below_set ?_ GE321.out) | exact HB.out)⟩⟩
                case rest =>
                  clear HC37
                  try clear c1
                  try clear c2
                  try clear p2
                  try clear c3
                  try clear p3
                  try clear q3
                  try clear hx3
                  try clear c4
                  try clear c5
                  try clear c6
                  try clear c7
                  try clear c11
                  try clear c12
                  try clear c13
                  try clear c14
                  try clear c17
                  try clear c17b0
                  try clear c17b1
                  try clear c18
                  try clear c18b0
                  try clear c18b1
                  try clear c19
                  try clear c20
                  try clear c20b0
                  try clear c20b1
                  try clear c22
                  try clear c23
                  try clear c24
                  try clear c24b0
                  try clear c24b1
                  try clear c25
                  try clear c28
                  try clear c29
                  try clear c29b0
                  try clear c29b1
                  try clear c30
                  try clear c30b0
                  try clear c31
                  try clear p32
                  try clear q32
                  try clear hx32
                  try clear c38
                  try clear c48
                  try clear c48b0
                  try clear c48b1
                  try clear c49
                  try clear c49b0
                  try clear c49b1
                  try clear c50
                  try clear c50b0
                  try clear c50b1
                  try clear c51
                  try clear c51b0
                  try clear c51b1
                  try clear c51b2
                  try clear c52
                  try clear c55
                  try clear c55b0
                  try clear c55b1
                  try clear c56
                  try clear c56b0
                  try clear c56b1
                  try clear c57
                  try clear c60
                  try clear c63
                  try clear c66
                  try clear c69
                  try clear c72
                  try clear hcz10_0
                  try clear hcz14_0
                  try clear hcz14_1
                  try clear hcz14_2
                  try clear hcz26_0
                  try clear hcz26_1
                  try clear hcz26_2
                  try clear hcz32_0
                  try clear hcz32_1
                  try clear hcz32_2
                  try clear hcz39_0
                  try clear hcz41_0
                  try clear hcz41_1
                  try clear hcz41_2
                  try clear hcz43_0
                  try clear hcz45_0
                  try clear hcz45_1
                  try clear hcz45_2
                  try clear hcz53_0
                  try clear hcz58_0
                  try clear hcz61_0
                  try clear hcz64_0
                  try clear hcz67_0
                  try clear hcz70_0
                  try clear hcz73_0
                  try clear hfz10_0
                  try clear hfz14_0
                  try clear hfz14_1
                  try clear hfz14_2
                  try clear hfz26_0
                  try clear hfz26_1
                  try clear hfz26_2
                  try clear hfz32_0
                  try clear hfz32_1
                  try clear hfz32_2
                  try clear hfz39_0
                  try clear hfz41_0
                  try clear hfz41_1
                  try clear hfz41_2
                  try clear hfz43_0
                  try clear hfz45_0
                  try clear hfz45_1
                  try clear hfz45_2
                  try clear hfz53_0
                  try clear hfz58_0
                  try clear hfz61_0
                  try clear hfz64_0
                  try clear hfz67_0
                  try clear hfz70_0
                  try clear hfz73_0
                  try clear hx323_0
                  try clear p2
                  try clear p3
                  try clear p32
                  try clear p323
                  try clear q3
                  try clear q32
                  try clear q323
                  obtain ⟨kq, x127_36, rfl, HA, HJ36, HO_313000, HO_322001, HO_322002, BK312, BK321, HB⟩ := hcut
                  cases kq with
                  | zero => exact absurd HA.out (by simp [carlinglaw12_ShapeItems.j3])
                  | succ kj36 =>
                    have H := HA.out
                    clear HA
                    simp only [carlinglaw12_ShapeItems.j3] at H
                    by_cases c75 : x127_36 = true
                    · subst c75
                      have H1 : (none) = some r := by rw [if_pos rfl] at H; exact H
                      clear H
                      have H := H1
                      clear H1
                      exact absurd H (by simp)
                    · replace c75 := Bool.eq_false_iff.mpr c75
                      subst c75
                      have H1 : (carlinglaw12_ShapeItems.l0 kj36 a1 (-1) t308 t313 t314 t317) = some r := by rw [if_neg (show ¬ (false = true) by decide)] at H; exact H
                      clear H
                      have H := H1
                      clear H1
                      have H' := Aside0.mk H
                      clear H
                      go_wp2
                      go_loopg [24] kj36 (fun kq v24 w' => ∃ (x24_5 : Int), v24 = .int .i64 x24_5 ∧ Aside0 (carlinglaw12_ShapeItems.l0 kq a1 x24_5 t308 t313 t314 t317 = some r) ∧ Aside0 (kq ≤ kj36) ∧ Aside0 (Kd.R (Kd.int .i64) 3 w' w.heap.size (fun k_ => some k_ ≠ ((.slice Ao15 t314.length co15) : Value).ownBlock ∧ some k_ ≠ ((.slice Ao16 t317.length co16) : Value).ownBlock) (.slice Ao9 t308.length co9) t308) ∧ Aside0 (Kd.R (Kd.int .i64) 3 w' w.heap.size (fun k_ => some k_ ≠ ((.slice Ao9 t308.length co9) : Value).ownBlock ∧ some k_ ≠ ((.slice Ao16 t317.length co16) : Value).ownBlock) (.slice Ao15 t314.length co15) t314) ∧ Aside0 (Kd.R (Kd.int .i64) 3 w' w.heap.size (fun k_ => some k_ ≠ ((.slice Ao9 t308.length co9) : Value).ownBlock ∧ some k_ ≠ ((.slice Ao15 t314.length co15) : Value).ownBlock) (.slice Ao16 t317.length co16) t317) ∧ Aside0 (w'.heap[gb312]? = some (.cells #[(.slice Ao9 t308.length co9)] 24 (0, 0))) ∧ Aside0 (w'.heap[gb321]? = some (.cells #[.int .i64 t313, (.slice Ao15 t314.length co15), (.slice Ao16 t317.length co16)] 39 (0, 0))) ∧ Aside0 (Below w.heap.size w w'))
                      case atStart => exact ⟨((-1)), (by first | rfl | (simp; done) | (simp [*]; done)), H', ⟨Nat.le_refl _⟩, ⟨by (with_reducible repeat (first | apply Kd.R_alloc | apply Kd.R_drewN | apply Kd.R_drew)); exact HO_313000.out⟩, ⟨by (with_reducible repeat (first | apply Kd.R_alloc | apply Kd.R_drewN | apply Kd.R_drew)); exact HO_322001.out⟩, ⟨by (with_reducible repeat (first | apply Kd.R_alloc | apply Kd.R_drewN | apply Kd.R_drew)); exact HO_322002.out⟩, ⟨by (with_reducible repeat (first | refine blk_drewN ?_ _ | refine blk_drew ?_ | refine blk_alloc ?_ _)); exact BK312.out⟩, ⟨by (with_reducible repeat (first | refine blk_drewN ?_ _ | refine blk_drew ?_ | refine blk_alloc ?_ _)); exact BK321.out⟩, ⟨by repeat (first | (with_reducible first | exact HB.out | apply below_alloc | apply pw_below_drewN | apply below_drew1 | refine below_set ?_ GE312.out | refine below_set ?_ GE321.out) | exact HB.out)⟩⟩
                      case round =>
                        clear H'
                        try clear c1
                        try clear c2
                        try clear p2
                        try clear c3
                        try clear p3
                        try clear q3
                        try clear hx3
                        try clear c4
                        try clear c5
                        try clear c6
                        try clear c7
                        try clear c11
                        try clear c12
                        try clear c13
                        try clear c14
                        try clear c17
                        try clear c17b0
                        try clear c17b1
                        try clear c18
                        try clear c18b0
                        try clear c18b1
                        try clear c19
                        try clear c20
                        try clear c20b0
                        try clear c20b1
                        try clear c22
                        try clear c23
                        try clear c24
                        try clear c24b0
                        try clear c24b1
                        try clear c25
                        try clear c28
                        try clear c29
                        try clear c29b0
                        try clear c29b1
                        try clear c30
                        try clear c30b0
                        try clear c31
                        try clear p32
                        try clear q32
                        try clear hx32
                        try clear c38
                        try clear c48
                        try clear c48b0
                        try clear c48b1
                        try clear c49
                        try clear c49b0
                        try clear c49b1
                        try clear c50
                        try clear c50b0
                        try clear c50b1
                        try clear c51
                        try clear c51b0
                        try clear c51b1
                        try clear c51b2
                        try clear c52
                        try clear c55
                        try clear c55b0
                        try clear c55b1
                        try clear c56
                        try clear c56b0
                        try clear c56b1
                        try clear c57
                        try clear c60
                        try clear c63
                        try clear c66
                        try clear c69
                        try clear c72
                        try clear c75
                        try clear hcz10_0
                        try clear hcz14_0
                        try clear hcz14_1
                        try clear hcz14_2
                        try clear hcz26_0
                        try clear hcz26_1
                        try clear hcz26_2
                        try clear hcz32_0
                        try clear hcz32_1
                        try clear hcz32_2
                        try clear hcz39_0
                        try clear hcz41_0
                        try clear hcz41_1
                        try clear hcz41_2
                        try clear hcz43_0
                        try clear hcz45_0
                        try clear hcz45_1
                        try clear hcz45_2
                        try clear hcz53_0
                        try clear hcz58_0
                        try clear hcz61_0
                        try clear hcz64_0
                        try clear hcz67_0
                        try clear hcz70_0
                        try clear hcz73_0
                        try clear hfz10_0
                        try clear hfz14_0
                        try clear hfz14_1
                        try clear hfz14_2
                        try clear hfz26_0
                        try clear hfz26_1
                        try clear hfz26_2
                        try clear hfz32_0
                        try clear hfz32_1
                        try clear hfz32_2
                        try clear hfz39_0
                        try clear hfz41_0
                        try clear hfz41_1
                        try clear hfz41_2
                        try clear hfz43_0
                        try clear hfz45_0
                        try clear hfz45_1
                        try clear hfz45_2
                        try clear hfz53_0
                        try clear hfz58_0
                        try clear hfz61_0
                        try clear hfz64_0
                        try clear hfz67_0
                        try clear hfz70_0
                        try clear hfz73_0
                        try clear hx323_0
                        try clear p2
                        try clear p3
                        try clear p32
                        try clear p323
                        try clear q3
                        try clear q32
                        try clear q323
                        obtain ⟨x24_5, rfl, HA, HK5, HO_313000, HO_322001, HO_322002, BK312, BK321, HB⟩ := hrel
                        cases gk with
                        | zero => exact absurd HA.out (by simp [carlinglaw12_ShapeItems.l0])
                        | succ k5 =>
                          have H := HA.out
                          clear HA
                          simp only [carlinglaw12_ShapeItems.l0] at H
                          by_cases c76 : x24_5 < 3
                          · rw [if_pos c76] at H
                            have c76b0 : decide (x24_5 < 3) = true := decide_eq_true c76
                            clear c76
                            replace H := Option.bind_eq_some_iff.mp H
                            obtain ⟨t337, A770, H⟩ := H
                            replace H : ((carlingref12_Shape_Block.f t313 t314 t317 a1 x24_5).bind fun t338 => (if t337 = t338 then (carlinglaw12_ShapeItems.l0 k5 a1 (wrap64 (x24_5 + 1)) t308 t313 t314 t317) else (none))) = some r := H
                            have A77 := Aside0.mk A770
                            clear A770
                            replace H := Option.bind_eq_some_iff.mp H
                            obtain ⟨t338, A780, H⟩ := H
                            replace H : (if t337 = t338 then (carlinglaw12_ShapeItems.l0 k5 a1 (wrap64 (x24_5 + 1)) t308 t313 t314 t317) else (none)) = some r := H
                            have A78 := Aside0.mk A780
                            clear A780
                            by_cases c79 : t337 = t338
                            · rw [if_pos c79] at H
                              have c79b0 : (t337 == t338) = true := beq_iff_eq.mpr c79
                              have c79b1 : (t337 != t338) = false := bne_eq_false_iff_eq.mpr c79
                              clear c79
                              have H' := Aside0.mk H
                              clear H
                              try go_wp2
                              have n0_ := Aside0.mk (Kd.R_drew HO_313000.out)
                              have n1_ := Aside0.mk (Kd.R_drew HO_322001.out)
                              have n2_ := Aside0.mk (Kd.R_drew HO_322002.out)
                              have n3_ := Aside0.mk (blk_drew BK312.out)
                              have n4_ := Aside0.mk (blk_drew BK321.out)
                              have n5_ := Aside0.mk (below_drew1 HB.out)
                              clear HO_313000
                              clear HO_322001
                              clear HO_322002
                              clear BK312
                              clear BK321
                              clear HB
                              have HO_313000 := n0_
                              have HO_322001 := n1_
                              have HO_322002 := n2_
                              have BK312 := n3_
                              have BK321 := n4_
                              have HB := n5_
                              clear n0_ n1_ n2_ n3_ n4_ n5_
                              refine start_ (n := 9) (S := fun w' => w'.cell? ⟨gb312, 0, none⟩ = some (.slice Ao9 t308.length co9) ∧ w'.cell? ⟨gb321, 0, none⟩ = some (.int .i64 t313) ∧ w'.cell? ⟨gb321, 1, none⟩ = some (.slice Ao15 t314.length co15) ∧ w'.cell? ⟨gb321, 2, none⟩ = some (.slice Ao16 t317.length co16)) (ds := []) #[false, false, false, false, false, false, false, false, false] (by kernel_rfl) rfl rfl ⟨(blk_cell BK312.out 0).trans rfl, (blk_cell BK321.out 0).trans rfl, (blk_cell BK321.out 1).trans rfl, (blk_cell BK321.out 2).trans rfl⟩ (fun hHeld => ?_); refine with_tabW carlinglaw12_ShapeItems.tab17 carlinglaw12_ShapeItems.bits17 (fun HT_ HW_ => ?_)
                              generalize wr.drew = w80 at HO_313000 HO_322001 HO_322002 BK312 BK321 HB hHeld ⊢
                              refine pure_ (i := 1) (N := some 133) (v := ?_) (a' := ?_) #[false, true, false, false, false, false, false, false, false] rfl rfl (any_of HT_.out (by kernel_rfl)) (fun _ _ _ h => h) (Or.inl ⟨by rfl, ?_⟩) ?_ ?_
                              rotate_left
                              · intro w'
                                go_simp
                                with_reducible rfl
                              rotate_left
                              · simp only [Act.put, List.setIfInBounds_toArray, List.set_cons_zero, List.set_cons_succ, i64_w, i32_w]
                                rfl
                              refine pure_ (i := 2) (N := some 134) (v := ?_) (a' := ?_) #[false, true, true, false, false, false, false, false, false] rfl rfl (any_of HT_.out (by kernel_rfl)) (fun _ _ _ h => h) (Or.inl ⟨by rfl, ?_⟩) ?_ ?_
                              rotate_left
                              · intro w'
                                go_simp
                                with_reducible rfl
                              rotate_left
                              · simp only [Act.put, List.setIfInBounds_toArray, List.set_cons_zero, List.set_cons_succ, i64_w, i32_w]
                                rfl
                              refine pure_ (i := 5) (N := some 137) (v := ?_) (a' := ?_) #[false, true, true, false, false, true, false, false, false] rfl rfl (any_of HT_.out (by kernel_rfl)) (fun _ _ _ h => h) (Or.inl ⟨by rfl, ?_⟩) ?_ ?_
                              rotate_left
                              · intro w'
                                go_simp
                                with_reducible rfl
                              rotate_left
                              · simp only [Act.put, List.setIfInBounds_toArray, List.set_cons_zero, List.set_cons_succ, i64_w, i32_w]
                                rfl
                              refine pure_ (i := 6) (N := some 138) (v := ?_) (a' := ?_) #[false, true, true, false, false, true, true, false, false] rfl rfl (any_of HT_.out (by kernel_rfl)) (fun _ _ _ h => h) (Or.inl ⟨by rfl, ?_⟩) ?_ ?_
                              rotate_left
                              · intro w'
                                go_simp
                                with_reducible rfl
                              rotate_left
                              · simp only [Act.put, List.setIfInBounds_toArray, List.set_cons_zero, List.set_cons_succ, i64_w, i32_w]
                                rfl
                              refine take_ (i := 0) (N := some 132) (v := ?_) (a' := ?_) #[true, true, true, false, false, true, true, false, false] rfl rfl (take_ofW HT_.out HW_.out (by kernel_rfl)) (fun _ _ _ h => h) (Or.inl ⟨by rfl, ?_⟩) hHeld ?_ ?_
                              rotate_left
                              · rintro w' ⟨s0, s1, s2, s3⟩
                                go_simp
                                with_reducible rfl
                              rotate_left
                              · simp only [Act.put, List.setIfInBounds_toArray, List.set_cons_zero, List.set_cons_succ, i64_w, i32_w]
                                rfl
                              refine take_ (i := 4) (N := some 136) (v := ?_) (a' := ?_) #[true, true, true, false, true, true, true, false, false] rfl rfl (take_ofW HT_.out HW_.out (by kernel_rfl)) (fun _ _ _ h => h) (Or.inl ⟨by rfl, ?_⟩) hHeld ?_ ?_
                              rotate_left
                              · rintro w' ⟨s0, s1, s2, s3⟩
                                go_simp
                                with_reducible rfl
                              rotate_left
                              · simp only [Act.put, List.setIfInBounds_toArray, List.set_cons_zero, List.set_cons_succ, i64_w, i32_w]
                                rfl
                              refine one_ (i := 3) (N := some 135) #[true, true, true, true, true, true, true, false, false] rfl rfl (one_of HT_.out (by kernel_rfl)) (by decide) (fun K hK => ?_)
                              refine goes_ Try.func15 (by kernel_rfl) rfl #[.agg #[.slice Ao9 t308.length co9], .int .i64 a1, .int .i64 x24_5] (by rfl) rfl rfl (by (try simp only [List.map_toArray, List.map_cons, List.map_nil]); first | done | rfl | (simp only [List.length_drop, List.length_take]; rfl)) ?_
                              with_reducible refine (shape_Shape_Block.calls k5 _ _ t308 a1 x24_5 t337 _ ?side1 ?side2 A77.out).mono ?_
                              (case side1 => repeat (first | exact (Kd.R_reads' HO_313000.out).2.2 | (with_reducible refine Kd.C_alloc ?_ _) | (with_reducible refine Kd.C_drewN ?_ _) | (with_reducible refine Kd.C_drew ?_)))
                              (case side2 => exact (Kd.R_reads' HO_313000.out).2.1)
                              rintro e w81 ⟨rfl, hb⟩
                              refine ⟨_, rfl, ?_⟩
                              have n0_ := Aside0.mk (Kd.R_below (by (with_reducible repeat (first | apply Kd.R_alloc | apply Kd.R_drewN | apply Kd.R_drew)); exact HO_313000.out) hb)
                              have n1_ := Aside0.mk (Kd.R_below (by (with_reducible repeat (first | apply Kd.R_alloc | apply Kd.R_drewN | apply Kd.R_drew)); exact HO_322001.out) hb)
                              have n2_ := Aside0.mk (Kd.R_below (by (with_reducible repeat (first | apply Kd.R_alloc | apply Kd.R_drewN | apply Kd.R_drew)); exact HO_322002.out) hb)
                              have n3_ := Aside0.mk (blk_below (g := gb312) (o := .cells #[.slice Ao9 t308.length co9] 24 (0, 0)) (by (with_reducible repeat (first | refine blk_drewN ?_ _ | refine blk_drew ?_ | refine blk_alloc ?_ _)); exact BK312.out) hb)
                              have n4_ := Aside0.mk (blk_below (g := gb321) (o := .cells #[.int .i64 t313, .slice Ao15 t314.length co15, .slice Ao16 t317.length co16] 39 (0, 0)) (by (with_reducible repeat (first | refine blk_drewN ?_ _ | refine blk_drew ?_ | refine blk_alloc ?_ _)); exact BK321.out) hb)
                              have n5_ := Aside0.mk (below_step (by repeat (first | (with_reducible first | exact HB.out | apply below_alloc | apply pw_below_drewN | apply below_drew1 | refine below_set ?_ GE312.out | refine below_set ?_ GE321.out) | exact HB.out)) hb)
                              clear HO_313000
                              clear HO_322001
                              clear HO_322002
                              clear BK312
                              clear BK321
                              clear HB
                              have HO_313000 := n0_
                              have HO_322001 := n1_
                              have HO_322002 := n2_
                              have BK312 := n3_
                              have BK321 := n4_
                              have HB := n5_
                              clear n0_ n1_ n2_ n3_ n4_ n5_
                              (try clear hb)
                              (try clear hb2)
                              (try clear hk)
                              (try clear hi)
                              refine hK.out _ _ ⟨(blk_cell BK312.out 0).trans rfl, (blk_cell BK321.out 0).trans rfl, (blk_cell BK321.out 1).trans rfl, (blk_cell BK321.out 2).trans rfl⟩ (fun hHeld => ?_)
                              clear hK K
                              refine norm_ (a' := ?_) ?_ ?_
                              rotate_left
                              · show Act.put _ (some 135) _ = _
                                simp only [Act.put, List.setIfInBounds_toArray, List.set_cons_zero, List.set_cons_succ, i64_w, i32_w]
                                rfl
                              refine one_ (i := 7) (N := some 139) #[true, true, true, true, true, true, true, true, false] rfl rfl (one_of HT_.out (by kernel_rfl)) (by decide) (fun K hK => ?_)
                              refine goes_ Try.func24 (by kernel_rfl) rfl #[.agg #[.int .i64 t313, .slice Ao15 t314.length co15, .slice Ao16 t317.length co16], .int .i64 a1, .int .i64 x24_5] (by rfl) rfl rfl (by (try simp only [List.map_toArray, List.map_cons, List.map_nil]); first | done | rfl | (simp only [List.length_drop, List.length_take]; rfl)) ?_
                              with_reducible refine (carlingref12_Shape_Block.calls t313 _ _ t314 _ _ t317 a1 x24_5 t338 _ ?side1 ?side2 ?side3 ?side4 A78.out).mono ?_
                              (case side1 => repeat (first | exact (Kd.R_reads' HO_322001.out).2.2 | (with_reducible refine Kd.C_alloc ?_ _) | (with_reducible refine Kd.C_drewN ?_ _) | (with_reducible refine Kd.C_drew ?_)))
                              (case side2 => exact (Kd.R_reads' HO_322001.out).2.1)
                              (case side3 => repeat (first | exact (Kd.R_reads' HO_322002.out).2.2 | (with_reducible refine Kd.C_alloc ?_ _) | (with_reducible refine Kd.C_drewN ?_ _) | (with_reducible refine Kd.C_drew ?_)))
                              (case side4 => exact (Kd.R_reads' HO_322002.out).2.1)
                              rintro e w82 ⟨rfl, hb⟩
                              refine ⟨_, rfl, ?_⟩
                              have n0_ := Aside0.mk (Kd.R_below (by (with_reducible repeat (first | apply Kd.R_alloc | apply Kd.R_drewN | apply Kd.R_drew)); exact HO_313000.out) hb)
                              have n1_ := Aside0.mk (Kd.R_below (by (with_reducible repeat (first | apply Kd.R_alloc | apply Kd.R_drewN | apply Kd.R_drew)); exact HO_322001.out) hb)
                              have n2_ := Aside0.mk (Kd.R_below (by (with_reducible repeat (first | apply Kd.R_alloc | apply Kd.R_drewN | apply Kd.R_drew)); exact HO_322002.out) hb)
                              have n3_ := Aside0.mk (blk_below (g := gb312) (o := .cells #[.slice Ao9 t308.length co9] 24 (0, 0)) (by (with_reducible repeat (first | refine blk_drewN ?_ _ | refine blk_drew ?_ | refine blk_alloc ?_ _)); exact BK312.out) hb)
                              have n4_ := Aside0.mk (blk_below (g := gb321) (o := .cells #[.int .i64 t313, .slice Ao15 t314.length co15, .slice Ao16 t317.length co16] 39 (0, 0)) (by (with_reducible repeat (first | refine blk_drewN ?_ _ | refine blk_drew ?_ | refine blk_alloc ?_ _)); exact BK321.out) hb)
                              have n5_ := Aside0.mk (below_step (by repeat (first | (with_reducible first | exact HB.out | apply below_alloc | apply pw_below_drewN | apply below_drew1 | refine below_set ?_ GE312.out | refine below_set ?_ GE321.out) | exact HB.out)) hb)
                              clear HO_313000
                              clear HO_322001
                              clear HO_322002
                              clear BK312
                              clear BK321
                              clear HB
                              have HO_313000 := n0_
                              have HO_322001 := n1_
                              have HO_322002 := n2_
                              have BK312 := n3_
                              have BK321 := n4_
                              have HB := n5_
                              clear n0_ n1_ n2_ n3_ n4_ n5_
                              (try clear hb)
                              (try clear hb2)
                              (try clear hk)
                              (try clear hi)
                              refine hK.out _ _ ⟨(blk_cell BK312.out 0).trans rfl, (blk_cell BK321.out 0).trans rfl, (blk_cell BK321.out 1).trans rfl, (blk_cell BK321.out 2).trans rfl⟩ (fun hHeld => ?_)
                              clear hK K
                              refine norm_ (a' := ?_) ?_ ?_
                              rotate_left
                              · show Act.put _ (some 139) _ = _
                                simp only [Act.put, List.setIfInBounds_toArray, List.set_cons_zero, List.set_cons_succ, i64_w, i32_w]
                                rfl
                              refine pure_ (i := 8) (N := some 140) (v := ?_) (a' := ?_) #[true, true, true, true, true, true, true, true, true] rfl rfl (any_of HT_.out (by kernel_rfl)) (fun _ _ _ h => h) (Or.inl ⟨by rfl, ?_⟩) ?_ ?_
                              rotate_left
                              · intro w'
                                go_simp
                                with_reducible rfl
                              rotate_left
                              · simp only [Act.put, List.setIfInBounds_toArray, List.set_cons_zero, List.set_cons_succ, i64_w, i32_w]
                                rfl
                              refine done_ (done_of HT_.out (by kernel_rfl)) ?_
                              try go_wp2
                              go_roundg k5
                              case measure => have := HJ5.out; have := HJ22.out; have := HJ26.out; have := HJ36.out; have := HK5.out; omega
                              case rel => exact ⟨(wrap64 (x24_5 + 1)), (by first | rfl | (simp; done) | (simp [*]; done)), H', ⟨by have := HJ5.out; have := HJ22.out; have := HJ26.out; have := HJ36.out; have := HK5.out; omega⟩, ⟨by (with_reducible repeat (first | apply Kd.R_alloc | apply Kd.R_drewN | apply Kd.R_drew)); exact HO_313000.out⟩, ⟨by (with_reducible repeat (first | apply Kd.R_alloc | apply Kd.R_drewN | apply Kd.R_drew)); exact HO_322001.out⟩, ⟨by (with_reducible repeat (first | apply Kd.R_alloc | apply Kd.R_drewN | apply Kd.R_drew)); exact HO_322002.out⟩, ⟨by (with_reducible repeat (first | refine blk_drewN ?_ _ | refine blk_drew ?_ | refine blk_alloc ?_ _)); exact BK312.out⟩, ⟨by (with_reducible repeat (first | refine blk_drewN ?_ _ | refine blk_drew ?_ | refine blk_alloc ?_ _)); exact BK321.out⟩, ⟨by repeat (first | (with_reducible first | exact HB.out | apply below_alloc | apply pw_below_drewN | apply below_drew1 | refine below_set ?_ GE312.out | refine below_set ?_ GE321.out) | exact HB.out)⟩⟩
                            · rw [if_neg c79] at H
                              exact absurd H (by simp)
                          · rw [if_neg c76] at H
                            have c76b0 : decide (x24_5 < 3) = false := decide_eq_false c76
                            clear c76
                            replace H := Option.bind_eq_some_iff.mp H
                            obtain ⟨t339, A830, H⟩ := H
                            replace H : ((carlingref12_Shape_Kids.f k5 t313 t314 t317 a1).bind fun t342 => ((carlinglaw12_same.f k5 t339 t342).bind fun t345 => (if t345 = true then ((shape_Shape_Path.f k5 t308 a1).bind fun t346 => ((carlingref12_Shape_Path.f k5 t313 t314 t317 a1).bind fun t349 => ((carlinglaw12_same.f k5 t346 t349).bind fun t352 => (if t352 = true then ((shape_Shape_Under.f k5 t308 a1).bind fun t353 => ((carlingref12_Shape_Under.f k5 t313 t314 t317 a1).bind fun t356 => ((carlinglaw12_same.f k5 t353 t356).bind fun t359 => (if t359 = true then ((carlinglaw12_alive.f k5).bind fun t360 => (some t360)) else (none))))) else (none))))) else (none)))) = some r := H
                            have A83 := Aside0.mk A830
                            clear A830
                            replace H := Option.bind_eq_some_iff.mp H
                            obtain ⟨t342, A840, H⟩ := H
                            replace H : ((carlinglaw12_same.f k5 t339 t342).bind fun t345 => (if t345 = true then ((shape_Shape_Path.f k5 t308 a1).bind fun t346 => ((carlingref12_Shape_Path.f k5 t313 t314 t317 a1).bind fun t349 => ((carlinglaw12_same.f k5 t346 t349).bind fun t352 => (if t352 = true then ((shape_Shape_Under.f k5 t308 a1).bind fun t353 => ((carlingref12_Shape_Under.f k5 t313 t314 t317 a1).bind fun t356 => ((carlinglaw12_same.f k5 t353 t356).bind fun t359 => (if t359 = true then ((carlinglaw12_alive.f k5).bind fun t360 => (some t360)) else (none))))) else (none))))) else (none))) = some r := H
                            have A84 := Aside0.mk A840
                            clear A840
                            replace H := Option.bind_eq_some_iff.mp H
                            obtain ⟨t345, A850, H⟩ := H
                            replace H : (if t345 = true then ((shape_Shape_Path.f k5 t308 a1).bind fun t346 => ((carlingref12_Shape_Path.f k5 t313 t314 t317 a1).bind fun t349 => ((carlinglaw12_same.f k5 t346 t349).bind fun t352 => (if t352 = true then ((shape_Shape_Under.f k5 t308 a1).bind fun t353 => ((carlingref12_Shape_Under.f k5 t313 t314 t317 a1).bind fun t356 => ((carlinglaw12_same.f k5 t353 t356).bind fun t359 => (if t359 = true then ((carlinglaw12_alive.f k5).bind fun t360 => (some t360)) else (none))))) else (none))))) else (none)) = some r := H
                            have A85 := Aside0.mk A850
                            clear A850
                            by_cases c86 : t345 = true
                            · subst c86
                              have H1 : ((shape_Shape_Path.f k5 t308 a1).bind fun t346 => ((carlingref12_Shape_Path.f k5 t313 t314 t317 a1).bind fun t349 => ((carlinglaw12_same.f k5 t346 t349).bind fun t352 => (if t352 = true then ((shape_Shape_Under.f k5 t308 a1).bind fun t353 => ((carlingref12_Shape_Under.f k5 t313 t314 t317 a1).bind fun t356 => ((carlinglaw12_same.f k5 t353 t356).bind fun t359 => (if t359 = true then ((carlinglaw12_alive.f k5).bind fun t360 => (some t360)) else (none))))) else (none))))) = some r := by rw [if_pos rfl] at H; exact H
                              clear H
                              have H := H1
                              clear H1
                              replace H := Option.bind_eq_some_iff.mp H
                              obtain ⟨t346, A870, H⟩ := H
                              replace H : ((carlingref12_Shape_Path.f k5 t313 t314 t317 a1).bind fun t349 => ((carlinglaw12_same.f k5 t346 t349).bind fun t352 => (if t352 = true then ((shape_Shape_Under.f k5 t308 a1).bind fun t353 => ((carlingref12_Shape_Under.f k5 t313 t314 t317 a1).bind fun t356 => ((carlinglaw12_same.f k5 t353 t356).bind fun t359 => (if t359 = true then ((carlinglaw12_alive.f k5).bind fun t360 => (some t360)) else (none))))) else (none)))) = some r := H
                              have A87 := Aside0.mk A870
                              clear A870
                              replace H := Option.bind_eq_some_iff.mp H
                              obtain ⟨t349, A880, H⟩ := H
                              replace H : ((carlinglaw12_same.f k5 t346 t349).bind fun t352 => (if t352 = true then ((shape_Shape_Under.f k5 t308 a1).bind fun t353 => ((carlingref12_Shape_Under.f k5 t313 t314 t317 a1).bind fun t356 => ((carlinglaw12_same.f k5 t353 t356).bind fun t359 => (if t359 = true then ((carlinglaw12_alive.f k5).bind fun t360 => (some t360)) else (none))))) else (none))) = some r := H
                              have A88 := Aside0.mk A880
                              clear A880
                              replace H := Option.bind_eq_some_iff.mp H
                              obtain ⟨t352, A890, H⟩ := H
                              replace H : (if t352 = true then ((shape_Shape_Under.f k5 t308 a1).bind fun t353 => ((carlingref12_Shape_Under.f k5 t313 t314 t317 a1).bind fun t356 => ((carlinglaw12_same.f k5 t353 t356).bind fun t359 => (if t359 = true then ((carlinglaw12_alive.f k5).bind fun t360 => (some t360)) else (none))))) else (none)) = some r := H
                              have A89 := Aside0.mk A890
                              clear A890
                              by_cases c90 : t352 = true
                              · subst c90
                                have H1 : ((shape_Shape_Under.f k5 t308 a1).bind fun t353 => ((carlingref12_Shape_Under.f k5 t313 t314 t317 a1).bind fun t356 => ((carlinglaw12_same.f k5 t353 t356).bind fun t359 => (if t359 = true then ((carlinglaw12_alive.f k5).bind fun t360 => (some t360)) else (none))))) = some r := by rw [if_pos rfl] at H; exact H
                                clear H
                                have H := H1
                                clear H1
                                replace H := Option.bind_eq_some_iff.mp H
                                obtain ⟨t353, A910, H⟩ := H
                                replace H : ((carlingref12_Shape_Under.f k5 t313 t314 t317 a1).bind fun t356 => ((carlinglaw12_same.f k5 t353 t356).bind fun t359 => (if t359 = true then ((carlinglaw12_alive.f k5).bind fun t360 => (some t360)) else (none)))) = some r := H
                                have A91 := Aside0.mk A910
                                clear A910
                                replace H := Option.bind_eq_some_iff.mp H
                                obtain ⟨t356, A920, H⟩ := H
                                replace H : ((carlinglaw12_same.f k5 t353 t356).bind fun t359 => (if t359 = true then ((carlinglaw12_alive.f k5).bind fun t360 => (some t360)) else (none))) = some r := H
                                have A92 := Aside0.mk A920
                                clear A920
                                replace H := Option.bind_eq_some_iff.mp H
                                obtain ⟨t359, A930, H⟩ := H
                                replace H : (if t359 = true then ((carlinglaw12_alive.f k5).bind fun t360 => (some t360)) else (none)) = some r := H
                                have A93 := Aside0.mk A930
                                clear A930
                                by_cases c94 : t359 = true
                                · subst c94
                                  have H1 : ((carlinglaw12_alive.f k5).bind fun t360 => (some t360)) = some r := by rw [if_pos rfl] at H; exact H
                                  clear H
                                  have H := H1
                                  clear H1
                                  replace H := Option.bind_eq_some_iff.mp H
                                  obtain ⟨t360, A950, H⟩ := H
                                  replace H : (some t360) = some r := H
                                  have A95 := Aside0.mk A950
                                  clear A950
                                  obtain rfl := Option.some.inj H
                                  try go_wp2
                                  have n0_ := Aside0.mk (Kd.R_drew HO_313000.out)
                                  have n1_ := Aside0.mk (Kd.R_drew HO_322001.out)
                                  have n2_ := Aside0.mk (Kd.R_drew HO_322002.out)
                                  have n3_ := Aside0.mk (blk_drew BK312.out)
                                  have n4_ := Aside0.mk (blk_drew BK321.out)
                                  have n5_ := Aside0.mk (below_drew1 HB.out)
                                  clear HO_313000
                                  clear HO_322001
                                  clear HO_322002
                                  clear BK312
                                  clear BK321
                                  clear HB
                                  have HO_313000 := n0_
                                  have HO_322001 := n1_
                                  have HO_322002 := n2_
                                  have BK312 := n3_
                                  have BK321 := n4_
                                  have HB := n5_
                                  clear n0_ n1_ n2_ n3_ n4_ n5_
                                  refine start_ (n := 29) (S := fun w' => w'.cell? ⟨gb312, 0, none⟩ = some (.slice Ao9 t308.length co9) ∧ w'.cell? ⟨gb321, 0, none⟩ = some (.int .i64 t313) ∧ w'.cell? ⟨gb321, 1, none⟩ = some (.slice Ao15 t314.length co15) ∧ w'.cell? ⟨gb321, 2, none⟩ = some (.slice Ao16 t317.length co16)) (ds := []) #[false, false, false, false, false, false, false, false, false, false, false, false, false, false, false, false, false, false, false, false, false, false, false, false, false, false, false, false, false] (by kernel_rfl) rfl rfl ⟨(blk_cell BK312.out 0).trans rfl, (blk_cell BK321.out 0).trans rfl, (blk_cell BK321.out 1).trans rfl, (blk_cell BK321.out 2).trans rfl⟩ (fun hHeld => ?_); refine with_tabW carlinglaw12_ShapeItems.tab19 carlinglaw12_ShapeItems.bits19 (fun HT_ HW_ => ?_)
                                  generalize wr.drew = w96 at HO_313000 HO_322001 HO_322002 BK312 BK321 HB hHeld ⊢
                                  refine pure_ (i := 1) (N := some 142) (v := ?_) (a' := ?_) #[false, true, false, false, false, false, false, false, false, false, false, false, false, false, false, false, false, false, false, false, false, false, false, false, false, false, false, false, false] rfl rfl (any_of HT_.out (by kernel_rfl)) (fun _ _ _ h => h) (Or.inl ⟨by rfl, ?_⟩) ?_ ?_
                                  rotate_left
                                  · intro w'
                                    go_simp
                                    with_reducible rfl
                                  rotate_left
                                  · simp only [Act.put, List.setIfInBounds_toArray, List.set_cons_zero, List.set_cons_succ, i64_w, i32_w]
                                    rfl
                                  refine pure_ (i := 4) (N := some 145) (v := ?_) (a' := ?_) #[false, true, false, false, true, false, false, false, false, false, false, false, false, false, false, false, false, false, false, false, false, false, false, false, false, false, false, false, false] rfl rfl (any_of HT_.out (by kernel_rfl)) (fun _ _ _ h => h) (Or.inl ⟨by rfl, ?_⟩) ?_ ?_
                                  rotate_left
                                  · intro w'
                                    go_simp
                                    with_reducible rfl
                                  rotate_left
                                  · simp only [Act.put, List.setIfInBounds_toArray, List.set_cons_zero, List.set_cons_succ, i64_w, i32_w]
                                    rfl
                                  refine take_ (i := 0) (N := some 141) (v := ?_) (a' := ?_) #[true, true, false, false, true, false, false, false, false, false, false, false, false, false, false, false, false, false, false, false, false, false, false, false, false, false, false, false, false] rfl rfl (take_ofW HT_.out HW_.out (by kernel_rfl)) (fun _ _ _ h => h) (Or.inl ⟨by rfl, ?_⟩) hHeld ?_ ?_
                                  rotate_left
                                  · rintro w' ⟨s0, s1, s2, s3⟩
                                    go_simp
                                    with_reducible rfl
                                  rotate_left
                                  · simp only [Act.put, List.setIfInBounds_toArray, List.set_cons_zero, List.set_cons_succ, i64_w, i32_w]
                                    rfl
                                  refine take_ (i := 3) (N := some 144) (v := ?_) (a' := ?_) #[true, true, false, true, true, false, false, false, false, false, false, false, false, false, false, false, false, false, false, false, false, false, false, false, false, false, false, false, false] rfl rfl (take_ofW HT_.out HW_.out (by kernel_rfl)) (fun _ _ _ h => h) (Or.inl ⟨by rfl, ?_⟩) hHeld ?_ ?_
                                  rotate_left
                                  · rintro w' ⟨s0, s1, s2, s3⟩
                                    go_simp
                                    with_reducible rfl
                                  rotate_left
                                  · simp only [Act.put, List.setIfInBounds_toArray, List.set_cons_zero, List.set_cons_succ, i64_w, i32_w]
                                    rfl
                                  refine one_ (i := 2) (N := some 143) #[true, true, true, true, true, false, false, false, false, false, false, false, false, false, false, false, false, false, false, false, false, false, false, false, false, false, false, false, false] rfl rfl (one_of HT_.out (by kernel_rfl)) (by decide) (fun K hK => ?_)
                                  refine goes_ Try.func10 (by kernel_rfl) rfl #[.agg #[.slice Ao9 t308.length co9], .int .i64 a1] (by rfl) rfl rfl (by (try simp only [List.map_toArray, List.map_cons, List.map_nil]); first | done | rfl | (simp only [List.length_drop, List.length_take]; rfl)) ?_
                                  with_reducible refine (shape_Shape_Kids.calls k5 _ _ t308 a1 t339 _ ?side1 ?side2 A83.out).mono ?_
                                  (case side1 => repeat (first | exact (Kd.R_reads' HO_313000.out).2.2 | (with_reducible refine Kd.C_alloc ?_ _) | (with_reducible refine Kd.C_drewN ?_ _) | (with_reducible refine Kd.C_drew ?_)))
                                  (case side2 => exact (Kd.R_reads' HO_313000.out).2.1)
                                  rintro e w97 ⟨v340, rfl, ho0, hb⟩
                                  refine ⟨_, rfl, ?_⟩
                                  have n0_ := Aside0.mk (Kd.R_elder' (by (with_reducible repeat (first | apply Kd.R_alloc | apply Kd.R_drewN | apply Kd.R_drew)); exact HO_313000.out) (Kd.R_base ho0) hb)
                                  have n1_ := Aside0.mk (Kd.R_elder' (by (with_reducible repeat (first | apply Kd.R_alloc | apply Kd.R_drewN | apply Kd.R_drew)); exact HO_322001.out) (Kd.R_base ho0) hb)
                                  have n2_ := Aside0.mk (Kd.R_elder' (by (with_reducible repeat (first | apply Kd.R_alloc | apply Kd.R_drewN | apply Kd.R_drew)); exact HO_322002.out) (Kd.R_base ho0) hb)
                                  have n3_ := Aside0.mk (Kd.R_lower (Kd.R_new' (Kd.R_new' (Kd.R_new' ho0 (Kd.R_lt (by (with_reducible repeat (first | apply Kd.R_alloc | apply Kd.R_drewN | apply Kd.R_drew)); exact HO_313000.out))) (Kd.R_lt (by (with_reducible repeat (first | apply Kd.R_alloc | apply Kd.R_drewN | apply Kd.R_drew)); exact HO_322001.out))) (Kd.R_lt (by (with_reducible repeat (first | apply Kd.R_alloc | apply Kd.R_drewN | apply Kd.R_drew)); exact HO_322002.out))) (below_size (by repeat (first | (with_reducible first | exact HB.out | apply below_alloc | apply pw_below_drewN | apply below_drew1 | refine below_set ?_ GE312.out | refine below_set ?_ GE321.out) | exact HB.out))))
                                  have n4_ := Aside0.mk (blk_below (g := gb312) (o := .cells #[.slice Ao9 t308.length co9] 24 (0, 0)) (by (with_reducible repeat (first | refine blk_drewN ?_ _ | refine blk_drew ?_ | refine blk_alloc ?_ _)); exact BK312.out) hb)
                                  have n5_ := Aside0.mk (blk_below (g := gb321) (o := .cells #[.int .i64 t313, .slice Ao15 t314.length co15, .slice Ao16 t317.length co16] 39 (0, 0)) (by (with_reducible repeat (first | refine blk_drewN ?_ _ | refine blk_drew ?_ | refine blk_alloc ?_ _)); exact BK321.out) hb)
                                  have n6_ := Aside0.mk (below_step (by repeat (first | (with_reducible first | exact HB.out | apply below_alloc | apply pw_below_drewN | apply below_drew1 | refine below_set ?_ GE312.out | refine below_set ?_ GE321.out) | exact HB.out)) hb)
                                  clear HO_313000
                                  clear HO_322001
                                  clear HO_322002
                                  clear BK312
                                  clear BK321
                                  clear HB
                                  have HO_313000 := n0_
                                  have HO_322001 := n1_
                                  have HO_322002 := n2_
                                  have HO341 := n3_
                                  have BK312 := n4_
                                  have BK321 := n5_
                                  have HB := n6_
                                  clear n0_ n1_ n2_ n3_ n4_ n5_ n6_
                                  (try clear hb)
                                  (try clear hb2)
                                  (try clear hk)
                                  (try clear hi)
                                  (try clear ho0)
                                  refine hK.out _ _ ⟨(blk_cell BK312.out 0).trans rfl, (blk_cell BK321.out 0).trans rfl, (blk_cell BK321.out 1).trans rfl, (blk_cell BK321.out 2).trans rfl⟩ (fun hHeld => ?_)
                                  clear hK K
                                  refine norm_ (a' := ?_) ?_ ?_
                                  rotate_left
                                  · show Act.put _ (some 143) _ = _
                                    simp only [Act.put, List.setIfInBounds_toArray, List.set_cons_zero, List.set_cons_succ, i64_w, i32_w]
                                    rfl
                                  refine one_ (i := 5) (N := some 146) #[true, true, true, true, true, true, false, false, false, false, false, false, false, false, false, false, false, false, false, false, false, false, false, false, false, false, false, false, false] rfl rfl (one_of HT_.out (by kernel_rfl)) (by decide) (fun K hK => ?_)
                                  refine goes_ Try.func26 (by kernel_rfl) rfl #[.agg #[.int .i64 t313, .slice Ao15 t314.length co15, .slice Ao16 t317.length co16], .int .i64 a1] (by rfl) rfl rfl (by (try simp only [List.map_toArray, List.map_cons, List.map_nil]); first | done | rfl | (simp only [List.length_drop, List.length_take]; rfl)) ?_
                                  with_reducible refine (carlingref12_Shape_Kids.calls k5 t313 _ _ t314 _ _ t317 a1 t342 _ ?side1 ?side2 ?side3 ?side4 A84.out).mono ?_
                                  (case side1 => repeat (first | exact (Kd.R_reads' HO_322001.out).2.2 | (with_reducible refine Kd.C_alloc ?_ _) | (with_reducible refine Kd.C_drewN ?_ _) | (with_reducible refine Kd.C_drew ?_)))
                                  (case side2 => exact (Kd.R_reads' HO_322001.out).2.1)
                                  (case side3 => repeat (first | exact (Kd.R_reads' HO_322002.out).2.2 | (with_reducible refine Kd.C_alloc ?_ _) | (with_reducible refine Kd.C_drewN ?_ _) | (with_reducible refine Kd.C_drew ?_)))
                                  (case side4 => exact (Kd.R_reads' HO_322002.out).2.1)
                                  rintro e w98 ⟨v343, rfl, ho0, hb⟩
                                  refine ⟨_, rfl, ?_⟩
                                  have n0_ := Aside0.mk (Kd.R_elder' (by (with_reducible repeat (first | apply Kd.R_alloc | apply Kd.R_drewN | apply Kd.R_drew)); exact HO_313000.out) (Kd.R_base ho0) hb)
                                  have n1_ := Aside0.mk (Kd.R_elder' (by (with_reducible repeat (first | apply Kd.R_alloc | apply Kd.R_drewN | apply Kd.R_drew)); exact HO_322001.out) (Kd.R_base ho0) hb)
                                  have n2_ := Aside0.mk (Kd.R_elder' (by (with_reducible repeat (first | apply Kd.R_alloc | apply Kd.R_drewN | apply Kd.R_drew)); exact HO_322002.out) (Kd.R_base ho0) hb)
                                  have n3_ := Aside0.mk (Kd.R_elder' (by (with_reducible repeat (first | apply Kd.R_alloc | apply Kd.R_drewN | apply Kd.R_drew)); exact HO341.out) (Kd.R_base ho0) hb)
                                  have n4_ := Aside0.mk (Kd.R_lower (Kd.R_new' (Kd.R_new' (Kd.R_new' (Kd.R_new' ho0 (Kd.R_lt (by (with_reducible repeat (first | apply Kd.R_alloc | apply Kd.R_drewN | apply Kd.R_drew)); exact HO_313000.out))) (Kd.R_lt (by (with_reducible repeat (first | apply Kd.R_alloc | apply Kd.R_drewN | apply Kd.R_drew)); exact HO_322001.out))) (Kd.R_lt (by (with_reducible repeat (first | apply Kd.R_alloc | apply Kd.R_drewN | apply Kd.R_drew)); exact HO_322002.out))) (Kd.R_lt (by (with_reducible repeat (first | apply Kd.R_alloc | apply Kd.R_drewN | apply Kd.R_drew)); exact HO341.out))) (below_size (by repeat (first | (with_reducible first | exact HB.out | apply below_alloc | apply pw_below_drewN | apply below_drew1 | refine below_set ?_ GE312.out | refine below_set ?_ GE321.out) | exact HB.out))))
                                  have n5_ := Aside0.mk (blk_below (g := gb312) (o := .cells #[.slice Ao9 t308.length co9] 24 (0, 0)) (by (with_reducible repeat (first | refine blk_drewN ?_ _ | refine blk_drew ?_ | refine blk_alloc ?_ _)); exact BK312.out) hb)
                                  have n6_ := Aside0.mk (blk_below (g := gb321) (o := .cells #[.int .i64 t313, .slice Ao15 t314.length co15, .slice Ao16 t317.length co16] 39 (0, 0)) (by (with_reducible repeat (first | refine blk_drewN ?_ _ | refine blk_drew ?_ | refine blk_alloc ?_ _)); exact BK321.out) hb)
                                  have n7_ := Aside0.mk (below_step (by repeat (first | (with_reducible first | exact HB.out | apply below_alloc | apply pw_below_drewN | apply below_drew1 | refine below_set ?_ GE312.out | refine below_set ?_ GE321.out) | exact HB.out)) hb)
                                  clear HO_313000
                                  clear HO_322001
                                  clear HO_322002
                                  clear HO341
                                  clear BK312
                                  clear BK321
                                  clear HB
                                  have HO_313000 := n0_
                                  have HO_322001 := n1_
                                  have HO_322002 := n2_
                                  have HO341 := n3_
                                  have HO344 := n4_
                                  have BK312 := n5_
                                  have BK321 := n6_
                                  have HB := n7_
                                  clear n0_ n1_ n2_ n3_ n4_ n5_ n6_ n7_
                                  (try clear hb)
                                  (try clear hb2)
                                  (try clear hk)
                                  (try clear hi)
                                  (try clear ho0)
                                  obtain ⟨Ao99, co99, eo99⟩ := Kd.R_slice HO341.out
                                  (first | subst eo99 | (injection eo99 with f1_ f2_ f3_; have f4_ := f1_.symm; have f5_ := f3_.symm; clear f1_ f2_ f3_; subst f4_; subst f5_))
                                  obtain ⟨Ao100, co100, eo100⟩ := Kd.R_slice HO344.out
                                  (first | subst eo100 | (injection eo100 with f1_ f2_ f3_; have f4_ := f1_.symm; have f5_ := f3_.symm; clear f1_ f2_ f3_; subst f4_; subst f5_))
                                  refine hK.out _ _ ⟨(blk_cell BK312.out 0).trans rfl, (blk_cell BK321.out 0).trans rfl, (blk_cell BK321.out 1).trans rfl, (blk_cell BK321.out 2).trans rfl⟩ (fun hHeld => ?_)
                                  clear hK K
                                  refine norm_ (a' := ?_) ?_ ?_
                                  rotate_left
                                  · show Act.put _ (some 146) _ = _
                                    simp only [Act.put, List.setIfInBounds_toArray, List.set_cons_zero, List.set_cons_succ, i64_w, i32_w]
                                    rfl
                                  refine one_ (i := 6) (N := some 147) #[true, true, true, true, true, true, true, false, false, false, false, false, false, false, false, false, false, false, false, false, false, false, false, false, false, false, false, false, false] rfl rfl (one_of HT_.out (by kernel_rfl)) (by decide) (fun K hK => ?_)
                                  refine goes_ Try.func25 (by kernel_rfl) rfl #[.slice Ao99 t339.length co99, .slice Ao100 t342.length co100] (by rfl) rfl rfl (by (try simp only [List.map_toArray, List.map_cons, List.map_nil]); first | done | rfl | (simp only [List.length_drop, List.length_take]; rfl)) ?_
                                  with_reducible refine (carlinglaw12_same.calls k5 _ _ t339 _ _ t342 true _ ?side1 ?side2 ?side3 ?side4 A85.out).mono ?_
                                  (case side1 => repeat (first | exact (Kd.R_reads' HO341.out).2.2 | (with_reducible refine Kd.C_alloc ?_ _) | (with_reducible refine Kd.C_drewN ?_ _) | (with_reducible refine Kd.C_drew ?_)))
                                  (case side2 => exact (Kd.R_reads' HO341.out).2.1)
                                  (case side3 => repeat (first | exact (Kd.R_reads' HO344.out).2.2 | (with_reducible refine Kd.C_alloc ?_ _) | (with_reducible refine Kd.C_drewN ?_ _) | (with_reducible refine Kd.C_drew ?_)))
                                  (case side4 => exact (Kd.R_reads' HO344.out).2.1)
                                  rintro e w' ⟨rfl, ⟨nd, rfl⟩⟩
                                  refine ⟨_, rfl, ?_⟩
                                  refine hK.out _ _ ⟨(blk_cell BK312.out 0).trans rfl, (blk_cell BK321.out 0).trans rfl, (blk_cell BK321.out 1).trans rfl, (blk_cell BK321.out 2).trans rfl⟩ (fun hHeld => ?_)
                                  clear hK K
                                  refine norm_ (a' := ?_) ?_ ?_
                                  rotate_left
                                  · show Act.put _ (some 147) _ = _
                                    simp only [Act.put, List.setIfInBounds_toArray, List.set_cons_zero, List.set_cons_succ, i64_w, i32_w]
                                    rfl
                                  refine pure_ (i := 7) (N := some 148) (v := ?_) (a' := ?_) #[true, true, true, true, true, true, true, true, false, false, false, false, false, false, false, false, false, false, false, false, false, false, false, false, false, false, false, false, false] rfl rfl (any_of HT_.out (by kernel_rfl)) (fun _ _ _ h => h) (Or.inl ⟨by rfl, ?_⟩) ?_ ?_
                                  rotate_left
                                  · intro w'
                                    go_simp
                                    with_reducible rfl
                                  rotate_left
                                  · simp only [Act.put, List.setIfInBounds_toArray, List.set_cons_zero, List.set_cons_succ, i64_w, i32_w]
                                    rfl
                                  refine pure_ (i := 9) (N := some 150) (v := ?_) (a' := ?_) #[true, true, true, true, true, true, true, true, false, true, false, false, false, false, false, false, false, false, false, false, false, false, false, false, false, false, false, false, false] rfl rfl (any_of HT_.out (by kernel_rfl)) (fun _ _ _ h => h) (Or.inl ⟨by rfl, ?_⟩) ?_ ?_
                                  rotate_left
                                  · intro w'
                                    go_simp
                                    with_reducible rfl
                                  rotate_left
                                  · simp only [Act.put, List.setIfInBounds_toArray, List.set_cons_zero, List.set_cons_succ, i64_w, i32_w]
                                    rfl
                                  refine pure_ (i := 12) (N := some 153) (v := ?_) (a' := ?_) #[true, true, true, true, true, true, true, true, false, true, false, false, true, false, false, false, false, false, false, false, false, false, false, false, false, false, false, false, false] rfl rfl (any_of HT_.out (by kernel_rfl)) (fun _ _ _ h => h) (Or.inl ⟨by rfl, ?_⟩) ?_ ?_
                                  rotate_left
                                  · intro w'
                                    go_simp
                                    with_reducible rfl
                                  rotate_left
                                  · simp only [Act.put, List.setIfInBounds_toArray, List.set_cons_zero, List.set_cons_succ, i64_w, i32_w]
                                    rfl
                                  refine take_ (i := 8) (N := some 149) (v := ?_) (a' := ?_) #[true, true, true, true, true, true, true, true, true, true, false, false, true, false, false, false, false, false, false, false, false, false, false, false, false, false, false, false, false] rfl rfl (take_ofW HT_.out HW_.out (by kernel_rfl)) (fun _ _ _ h => h) (Or.inl ⟨by rfl, ?_⟩) hHeld ?_ ?_
                                  rotate_left
                                  · rintro w' ⟨s0, s1, s2, s3⟩
                                    go_simp
                                    with_reducible rfl
                                  rotate_left
                                  · simp only [Act.put, List.setIfInBounds_toArray, List.set_cons_zero, List.set_cons_succ, i64_w, i32_w]
                                    rfl
                                  refine take_ (i := 11) (N := some 152) (v := ?_) (a' := ?_) #[true, true, true, true, true, true, true, true, true, true, false, true, true, false, false, false, false, false, false, false, false, false, false, false, false, false, false, false, false] rfl rfl (take_ofW HT_.out HW_.out (by kernel_rfl)) (fun _ _ _ h => h) (Or.inl ⟨by rfl, ?_⟩) hHeld ?_ ?_
                                  rotate_left
                                  · rintro w' ⟨s0, s1, s2, s3⟩
                                    go_simp
                                    with_reducible rfl
                                  rotate_left
                                  · simp only [Act.put, List.setIfInBounds_toArray, List.set_cons_zero, List.set_cons_succ, i64_w, i32_w]
                                    rfl
                                  refine one_ (i := 10) (N := some 151) #[true, true, true, true, true, true, true, true, true, true, true, true, true, false, false, false, false, false, false, false, false, false, false, false, false, false, false, false, false] rfl rfl (one_of HT_.out (by kernel_rfl)) (by decide) (fun K hK => ?_)
                                  refine goes_ Try.func16 (by kernel_rfl) rfl #[.agg #[.slice Ao9 t308.length co9], .int .i64 a1] (by rfl) rfl rfl (by (try simp only [List.map_toArray, List.map_cons, List.map_nil]); first | done | rfl | (simp only [List.length_drop, List.length_take]; rfl)) ?_
                                  with_reducible refine (shape_Shape_Path.calls k5 _ _ t308 a1 t346 _ ?side1 ?side2 A87.out).mono ?_
                                  (case side1 => repeat (first | exact (Kd.R_reads' HO_313000.out).2.2 | (with_reducible refine Kd.C_alloc ?_ _) | (with_reducible refine Kd.C_drewN ?_ _) | (with_reducible refine Kd.C_drew ?_)))
                                  (case side2 => exact (Kd.R_reads' HO_313000.out).2.1)
                                  rintro e w101 ⟨v347, rfl, ho0, hb⟩
                                  refine ⟨_, rfl, ?_⟩
                                  have n0_ := Aside0.mk (Kd.R_elder' (by (with_reducible repeat (first | apply Kd.R_alloc | apply Kd.R_drewN | apply Kd.R_drew)); exact HO_313000.out) (Kd.R_base ho0) hb)
                                  have n1_ := Aside0.mk (Kd.R_elder' (by (with_reducible repeat (first | apply Kd.R_alloc | apply Kd.R_drewN | apply Kd.R_drew)); exact HO_322001.out) (Kd.R_base ho0) hb)
                                  have n2_ := Aside0.mk (Kd.R_elder' (by (with_reducible repeat (first | apply Kd.R_alloc | apply Kd.R_drewN | apply Kd.R_drew)); exact HO_322002.out) (Kd.R_base ho0) hb)
                                  have n3_ := Aside0.mk (Kd.R_elder' (by (with_reducible repeat (first | apply Kd.R_alloc | apply Kd.R_drewN | apply Kd.R_drew)); exact HO341.out) (Kd.R_base ho0) hb)
                                  have n4_ := Aside0.mk (Kd.R_elder' (by (with_reducible repeat (first | apply Kd.R_alloc | apply Kd.R_drewN | apply Kd.R_drew)); exact HO344.out) (Kd.R_base ho0) hb)
                                  have n5_ := Aside0.mk (Kd.R_lower (Kd.R_new' (Kd.R_new' (Kd.R_new' (Kd.R_new' (Kd.R_new' ho0 (Kd.R_lt (by (with_reducible repeat (first | apply Kd.R_alloc | apply Kd.R_drewN | apply Kd.R_drew)); exact HO_313000.out))) (Kd.R_lt (by (with_reducible repeat (first | apply Kd.R_alloc | apply Kd.R_drewN | apply Kd.R_drew)); exact HO_322001.out))) (Kd.R_lt (by (with_reducible repeat (first | apply Kd.R_alloc | apply Kd.R_drewN | apply Kd.R_drew)); exact HO_322002.out))) (Kd.R_lt (by (with_reducible repeat (first | apply Kd.R_alloc | apply Kd.R_drewN | apply Kd.R_drew)); exact HO341.out))) (Kd.R_lt (by (with_reducible repeat (first | apply Kd.R_alloc | apply Kd.R_drewN | apply Kd.R_drew)); exact HO344.out))) (below_size (by repeat (first | (with_reducible first | exact HB.out | apply below_alloc | apply pw_below_drewN | apply below_drew1 | refine below_set ?_ GE312.out | refine below_set ?_ GE321.out) | exact HB.out))))
                                  have n6_ := Aside0.mk (blk_below (g := gb312) (o := .cells #[.slice Ao9 t308.length co9] 24 (0, 0)) (by (with_reducible repeat (first | refine blk_drewN ?_ _ | refine blk_drew ?_ | refine blk_alloc ?_ _)); exact BK312.out) hb)
                                  have n7_ := Aside0.mk (blk_below (g := gb321) (o := .cells #[.int .i64 t313, .slice Ao15 t314.length co15, .slice Ao16 t317.length co16] 39 (0, 0)) (by (with_reducible repeat (first | refine blk_drewN ?_ _ | refine blk_drew ?_ | refine blk_alloc ?_ _)); exact BK321.out) hb)
                                  have n8_ := Aside0.mk (below_step (by repeat (first | (with_reducible first | exact HB.out | apply below_alloc | apply pw_below_drewN | apply below_drew1 | refine below_set ?_ GE312.out | refine below_set ?_ GE321.out) | exact HB.out)) hb)
                                  clear HO_313000
                                  clear HO_322001
                                  clear HO_322002
                                  clear HO341
                                  clear HO344
                                  clear BK312
                                  clear BK321
                                  clear HB
                                  have HO_313000 := n0_
                                  have HO_322001 := n1_
                                  have HO_322002 := n2_
                                  have HO341 := n3_
                                  have HO344 := n4_
                                  have HO348 := n5_
                                  have BK312 := n6_
                                  have BK321 := n7_
                                  have HB := n8_
                                  clear n0_ n1_ n2_ n3_ n4_ n5_ n6_ n7_ n8_
                                  (try clear hb)
                                  (try clear hb2)
                                  (try clear hk)
                                  (try clear hi)
                                  (try clear ho0)
                                  refine hK.out _ _ ⟨(blk_cell BK312.out 0).trans rfl, (blk_cell BK321.out 0).trans rfl, (blk_cell BK321.out 1).trans rfl, (blk_cell BK321.out 2).trans rfl⟩ (fun hHeld => ?_)
                                  clear hK K
                                  refine norm_ (a' := ?_) ?_ ?_
                                  rotate_left
                                  · show Act.put _ (some 151) _ = _
                                    simp only [Act.put, List.setIfInBounds_toArray, List.set_cons_zero, List.set_cons_succ, i64_w, i32_w]
                                    rfl
                                  refine one_ (i := 13) (N := some 154) #[true, true, true, true, true, true, true, true, true, true, true, true, true, true, false, false, false, false, false, false, false, false, false, false, false, false, false, false, false] rfl rfl (one_of HT_.out (by kernel_rfl)) (by decide) (fun K hK => ?_)
                                  refine goes_ Try.func27 (by kernel_rfl) rfl #[.agg #[.int .i64 t313, .slice Ao15 t314.length co15, .slice Ao16 t317.length co16], .int .i64 a1] (by rfl) rfl rfl (by (try simp only [List.map_toArray, List.map_cons, List.map_nil]); first | done | rfl | (simp only [List.length_drop, List.length_take]; rfl)) ?_
                                  with_reducible refine (carlingref12_Shape_Path.calls k5 t313 _ _ t314 _ _ t317 a1 t349 _ ?side1 ?side2 ?side3 ?side4 A88.out).mono ?_
                                  (case side1 => repeat (first | exact (Kd.R_reads' HO_322001.out).2.2 | (with_reducible refine Kd.C_alloc ?_ _) | (with_reducible refine Kd.C_drewN ?_ _) | (with_reducible refine Kd.C_drew ?_)))
                                  (case side2 => exact (Kd.R_reads' HO_322001.out).2.1)
                                  (case side3 => repeat (first | exact (Kd.R_reads' HO_322002.out).2.2 | (with_reducible refine Kd.C_alloc ?_ _) | (with_reducible refine Kd.C_drewN ?_ _) | (with_reducible refine Kd.C_drew ?_)))
                                  (case side4 => exact (Kd.R_reads' HO_322002.out).2.1)
                                  rintro e w102 ⟨v350, rfl, ho0, hb⟩
                                  refine ⟨_, rfl, ?_⟩
                                  have n0_ := Aside0.mk (Kd.R_elder' (by (with_reducible repeat (first | apply Kd.R_alloc | apply Kd.R_drewN | apply Kd.R_drew)); exact HO_313000.out) (Kd.R_base ho0) hb)
                                  have n1_ := Aside0.mk (Kd.R_elder' (by (with_reducible repeat (first | apply Kd.R_alloc | apply Kd.R_drewN | apply Kd.R_drew)); exact HO_322001.out) (Kd.R_base ho0) hb)
                                  have n2_ := Aside0.mk (Kd.R_elder' (by (with_reducible repeat (first | apply Kd.R_alloc | apply Kd.R_drewN | apply Kd.R_drew)); exact HO_322002.out) (Kd.R_base ho0) hb)
                                  have n3_ := Aside0.mk (Kd.R_elder' (by (with_reducible repeat (first | apply Kd.R_alloc | apply Kd.R_drewN | apply Kd.R_drew)); exact HO341.out) (Kd.R_base ho0) hb)
                                  have n4_ := Aside0.mk (Kd.R_elder' (by (with_reducible repeat (first | apply Kd.R_alloc | apply Kd.R_drewN | apply Kd.R_drew)); exact HO344.out) (Kd.R_base ho0) hb)
                                  have n5_ := Aside0.mk (Kd.R_elder' (by (with_reducible repeat (first | apply Kd.R_alloc | apply Kd.R_drewN | apply Kd.R_drew)); exact HO348.out) (Kd.R_base ho0) hb)
                                  have n6_ := Aside0.mk (Kd.R_lower (Kd.R_new' (Kd.R_new' (Kd.R_new' (Kd.R_new' (Kd.R_new' (Kd.R_new' ho0 (Kd.R_lt (by (with_reducible repeat (first | apply Kd.R_alloc | apply Kd.R_drewN | apply Kd.R_drew)); exact HO_313000.out))) (Kd.R_lt (by (with_reducible repeat (first | apply Kd.R_alloc | apply Kd.R_drewN | apply Kd.R_drew)); exact HO_322001.out))) (Kd.R_lt (by (with_reducible repeat (first | apply Kd.R_alloc | apply Kd.R_drewN | apply Kd.R_drew)); exact HO_322002.out))) (Kd.R_lt (by (with_reducible repeat (first | apply Kd.R_alloc | apply Kd.R_drewN | apply Kd.R_drew)); exact HO341.out))) (Kd.R_lt (by (with_reducible repeat (first | apply Kd.R_alloc | apply Kd.R_drewN | apply Kd.R_drew)); exact HO344.out))) (Kd.R_lt (by (with_reducible repeat (first | apply Kd.R_alloc | apply Kd.R_drewN | apply Kd.R_drew)); exact HO348.out))) (below_size (by repeat (first | (with_reducible first | exact HB.out | apply below_alloc | apply pw_below_drewN | apply below_drew1 | refine below_set ?_ GE312.out | refine below_set ?_ GE321.out) | exact HB.out))))
                                  have n7_ := Aside0.mk (blk_below (g := gb312) (o := .cells #[.slice Ao9 t308.length co9] 24 (0, 0)) (by (with_reducible repeat (first | refine blk_drewN ?_ _ | refine blk_drew ?_ | refine blk_alloc ?_ _)); exact BK312.out) hb)
                                  have n8_ := Aside0.mk (blk_below (g := gb321) (o := .cells #[.int .i64 t313, .slice Ao15 t314.length co15, .slice Ao16 t317.length co16] 39 (0, 0)) (by (with_reducible repeat (first | refine blk_drewN ?_ _ | refine blk_drew ?_ | refine blk_alloc ?_ _)); exact BK321.out) hb)
                                  have n9_ := Aside0.mk (below_step (by repeat (first | (with_reducible first | exact HB.out | apply below_alloc | apply pw_below_drewN | apply below_drew1 | refine below_set ?_ GE312.out | refine below_set ?_ GE321.out) | exact HB.out)) hb)
                                  clear HO_313000
                                  clear HO_322001
                                  clear HO_322002
                                  clear HO341
                                  clear HO344
                                  clear HO348
                                  clear BK312
                                  clear BK321
                                  clear HB
                                  have HO_313000 := n0_
                                  have HO_322001 := n1_
                                  have HO_322002 := n2_
                                  have HO341 := n3_
                                  have HO344 := n4_
                                  have HO348 := n5_
                                  have HO351 := n6_
                                  have BK312 := n7_
                                  have BK321 := n8_
                                  have HB := n9_
                                  clear n0_ n1_ n2_ n3_ n4_ n5_ n6_ n7_ n8_ n9_
                                  (try clear hb)
                                  (try clear hb2)
                                  (try clear hk)
                                  (try clear hi)
                                  (try clear ho0)
                                  obtain ⟨Ao103, co103, eo103⟩ := Kd.R_slice HO348.out
                                  (first | subst eo103 | (injection eo103 with f1_ f2_ f3_; have f4_ := f1_.symm; have f5_ := f3_.symm; clear f1_ f2_ f3_; subst f4_; subst f5_))
                                  obtain ⟨Ao104, co104, eo104⟩ := Kd.R_slice HO351.out
                                  (first | subst eo104 | (injection eo104 with f1_ f2_ f3_; have f4_ := f1_.symm; have f5_ := f3_.symm; clear f1_ f2_ f3_; subst f4_; subst f5_))
                                  refine hK.out _ _ ⟨(blk_cell BK312.out 0).trans rfl, (blk_cell BK321.out 0).trans rfl, (blk_cell BK321.out 1).trans rfl, (blk_cell BK321.out 2).trans rfl⟩ (fun hHeld => ?_)
                                  clear hK K
                                  refine norm_ (a' := ?_) ?_ ?_
                                  rotate_left
                                  · show Act.put _ (some 154) _ = _
                                    simp only [Act.put, List.setIfInBounds_toArray, List.set_cons_zero, List.set_cons_succ, i64_w, i32_w]
                                    rfl
                                  refine one_ (i := 14) (N := some 155) #[true, true, true, true, true, true, true, true, true, true, true, true, true, true, true, false, false, false, false, false, false, false, false, false, false, false, false, false, false] rfl rfl (one_of HT_.out (by kernel_rfl)) (by decide) (fun K hK => ?_)
                                  refine goes_ Try.func25 (by kernel_rfl) rfl #[.slice Ao103 t346.length co103, .slice Ao104 t349.length co104] (by rfl) rfl rfl (by (try simp only [List.map_toArray, List.map_cons, List.map_nil]); first | done | rfl | (simp only [List.length_drop, List.length_take]; rfl)) ?_
                                  with_reducible refine (carlinglaw12_same.calls k5 _ _ t346 _ _ t349 true _ ?side1 ?side2 ?side3 ?side4 A89.out).mono ?_
                                  (case side1 => repeat (first | exact (Kd.R_reads' HO348.out).2.2 | (with_reducible refine Kd.C_alloc ?_ _) | (with_reducible refine Kd.C_drewN ?_ _) | (with_reducible refine Kd.C_drew ?_)))
                                  (case side2 => exact (Kd.R_reads' HO348.out).2.1)
                                  (case side3 => repeat (first | exact (Kd.R_reads' HO351.out).2.2 | (with_reducible refine Kd.C_alloc ?_ _) | (with_reducible refine Kd.C_drewN ?_ _) | (with_reducible refine Kd.C_drew ?_)))
                                  (case side4 => exact (Kd.R_reads' HO351.out).2.1)
                                  rintro e w' ⟨rfl, ⟨nd, rfl⟩⟩
                                  refine ⟨_, rfl, ?_⟩
                                  refine hK.out _ _ ⟨(blk_cell BK312.out 0).trans rfl, (blk_cell BK321.out 0).trans rfl, (blk_cell BK321.out 1).trans rfl, (blk_cell BK321.out 2).trans rfl⟩ (fun hHeld => ?_)
                                  clear hK K
                                  refine norm_ (a' := ?_) ?_ ?_
                                  rotate_left
                                  · show Act.put _ (some 155) _ = _
                                    simp only [Act.put, List.setIfInBounds_toArray, List.set_cons_zero, List.set_cons_succ, i64_w, i32_w]
                                    rfl
                                  refine pure_ (i := 15) (N := some 156) (v := ?_) (a' := ?_) #[true, true, true, true, true, true, true, true, true, true, true, true, true, true, true, true, false, false, false, false, false, false, false, false, false, false, false, false, false] rfl rfl (any_of HT_.out (by kernel_rfl)) (fun _ _ _ h => h) (Or.inl ⟨by rfl, ?_⟩) ?_ ?_
                                  rotate_left
                                  · intro w'
                                    go_simp
                                    with_reducible rfl
                                  rotate_left
                                  · simp only [Act.put, List.setIfInBounds_toArray, List.set_cons_zero, List.set_cons_succ, i64_w, i32_w]
                                    rfl
                                  refine pure_ (i := 16) (N := some 157) (v := ?_) (a' := ?_) #[true, true, true, true, true, true, true, true, true, true, true, true, true, true, true, true, true, false, false, false, false, false, false, false, false, false, false, false, false] rfl rfl (any_of HT_.out (by kernel_rfl)) (fun _ _ _ h => h) (Or.inl ⟨by rfl, ?_⟩) ?_ ?_
                                  rotate_left
                                  · intro w'
                                    go_simp
                                    with_reducible rfl
                                  rotate_left
                                  · simp only [Act.put, List.setIfInBounds_toArray, List.set_cons_zero, List.set_cons_succ, i64_w, i32_w]
                                    rfl
                                  refine pure_ (i := 18) (N := some 159) (v := ?_) (a' := ?_) #[true, true, true, true, true, true, true, true, true, true, true, true, true, true, true, true, true, false, true, false, false, false, false, false, false, false, false, false, false] rfl rfl (any_of HT_.out (by kernel_rfl)) (fun _ _ _ h => h) (Or.inl ⟨by rfl, ?_⟩) ?_ ?_
                                  rotate_left
                                  · intro w'
                                    go_simp
                                    with_reducible rfl
                                  rotate_left
                                  · simp only [Act.put, List.setIfInBounds_toArray, List.set_cons_zero, List.set_cons_succ, i64_w, i32_w]
                                    rfl
                                  refine pure_ (i := 21) (N := some 162) (v := ?_) (a' := ?_) #[true, true, true, true, true, true, true, true, true, true, true, true, true, true, true, true, true, false, true, false, false, true, false, false, false, false, false, false, false] rfl rfl (any_of HT_.out (by kernel_rfl)) (fun _ _ _ h => h) (Or.inl ⟨by rfl, ?_⟩) ?_ ?_
                                  rotate_left
                                  · intro w'
                                    go_simp
                                    with_reducible rfl
                                  rotate_left
                                  · simp only [Act.put, List.setIfInBounds_toArray, List.set_cons_zero, List.set_cons_succ, i64_w, i32_w]
                                    rfl
                                  refine take_ (i := 17) (N := some 158) (v := ?_) (a' := ?_) #[true, true, true, true, true, true, true, true, true, true, true, true, true, true, true, true, true, true, true, false, false, true, false, false, false, false, false, false, false] rfl rfl (take_ofW HT_.out HW_.out (by kernel_rfl)) (fun _ _ _ h => h) (Or.inl ⟨by rfl, ?_⟩) hHeld ?_ ?_
                                  rotate_left
                                  · rintro w' ⟨s0, s1, s2, s3⟩
                                    go_simp
                                    with_reducible rfl
                                  rotate_left
                                  · simp only [Act.put, List.setIfInBounds_toArray, List.set_cons_zero, List.set_cons_succ, i64_w, i32_w]
                                    rfl
                                  refine take_ (i := 20) (N := some 161) (v := ?_) (a' := ?_) #[true, true, true, true, true, true, true, true, true, true, true, true, true, true, true, true, true, true, true, false, true, true, false, false, false, false, false, false, false] rfl rfl (take_ofW HT_.out HW_.out (by kernel_rfl)) (fun _ _ _ h => h) (Or.inl ⟨by rfl, ?_⟩) hHeld ?_ ?_
                                  rotate_left
                                  · rintro w' ⟨s0, s1, s2, s3⟩
                                    go_simp
                                    with_reducible rfl
                                  rotate_left
                                  · simp only [Act.put, List.setIfInBounds_toArray, List.set_cons_zero, List.set_cons_succ, i64_w, i32_w]
                                    rfl
                                  refine one_ (i := 19) (N := some 160) #[true, true, true, true, true, true, true, true, true, true, true, true, true, true, true, true, true, true, true, true, true, true, false, false, false, false, false, false, false] rfl rfl (one_of HT_.out (by kernel_rfl)) (by decide) (fun K hK => ?_)
                                  refine goes_ Try.func17 (by kernel_rfl) rfl #[.agg #[.slice Ao9 t308.length co9], .int .i64 a1] (by rfl) rfl rfl (by (try simp only [List.map_toArray, List.map_cons, List.map_nil]); first | done | rfl | (simp only [List.length_drop, List.length_take]; rfl)) ?_
                                  with_reducible refine (shape_Shape_Under.calls k5 _ _ t308 a1 t353 _ ?side1 ?side2 A91.out).mono ?_
                                  (case side1 => repeat (first | exact (Kd.R_reads' HO_313000.out).2.2 | (with_reducible refine Kd.C_alloc ?_ _) | (with_reducible refine Kd.C_drewN ?_ _) | (with_reducible refine Kd.C_drew ?_)))
                                  (case side2 => exact (Kd.R_reads' HO_313000.out).2.1)
                                  rintro e w105 ⟨v354, rfl, ho0, hb⟩
                                  refine ⟨_, rfl, ?_⟩
                                  have n0_ := Aside0.mk (Kd.R_elder' (by (with_reducible repeat (first | apply Kd.R_alloc | apply Kd.R_drewN | apply Kd.R_drew)); exact HO_313000.out) (Kd.R_base ho0) hb)
                                  have n1_ := Aside0.mk (Kd.R_elder' (by (with_reducible repeat (first | apply Kd.R_alloc | apply Kd.R_drewN | apply Kd.R_drew)); exact HO_322001.out) (Kd.R_base ho0) hb)
                                  have n2_ := Aside0.mk (Kd.R_elder' (by (with_reducible repeat (first | apply Kd.R_alloc | apply Kd.R_drewN | apply Kd.R_drew)); exact HO_322002.out) (Kd.R_base ho0) hb)
                                  have n3_ := Aside0.mk (Kd.R_elder' (by (with_reducible repeat (first | apply Kd.R_alloc | apply Kd.R_drewN | apply Kd.R_drew)); exact HO341.out) (Kd.R_base ho0) hb)
                                  have n4_ := Aside0.mk (Kd.R_elder' (by (with_reducible repeat (first | apply Kd.R_alloc | apply Kd.R_drewN | apply Kd.R_drew)); exact HO344.out) (Kd.R_base ho0) hb)
                                  have n5_ := Aside0.mk (Kd.R_elder' (by (with_reducible repeat (first | apply Kd.R_alloc | apply Kd.R_drewN | apply Kd.R_drew)); exact HO348.out) (Kd.R_base ho0) hb)
                                  have n6_ := Aside0.mk (Kd.R_elder' (by (with_reducible repeat (first | apply Kd.R_alloc | apply Kd.R_drewN | apply Kd.R_drew)); exact HO351.out) (Kd.R_base ho0) hb)
                                  have n7_ := Aside0.mk (Kd.R_lower (Kd.R_new' (Kd.R_new' (Kd.R_new' (Kd.R_new' (Kd.R_new' (Kd.R_new' (Kd.R_new' ho0 (Kd.R_lt (by (with_reducible repeat (first | apply Kd.R_alloc | apply Kd.R_drewN | apply Kd.R_drew)); exact HO_313000.out))) (Kd.R_lt (by (with_reducible repeat (first | apply Kd.R_alloc | apply Kd.R_drewN | apply Kd.R_drew)); exact HO_322001.out))) (Kd.R_lt (by (with_reducible repeat (first | apply Kd.R_alloc | apply Kd.R_drewN | apply Kd.R_drew)); exact HO_322002.out))) (Kd.R_lt (by (with_reducible repeat (first | apply Kd.R_alloc | apply Kd.R_drewN | apply Kd.R_drew)); exact HO341.out))) (Kd.R_lt (by (with_reducible repeat (first | apply Kd.R_alloc | apply Kd.R_drewN | apply Kd.R_drew)); exact HO344.out))) (Kd.R_lt (by (with_reducible repeat (first | apply Kd.R_alloc | apply Kd.R_drewN | apply Kd.R_drew)); exact HO348.out))) (Kd.R_lt (by (with_reducible repeat (first | apply Kd.R_alloc | apply Kd.R_drewN | apply Kd.R_drew)); exact HO351.out))) (below_size (by repeat (first | (with_reducible first | exact HB.out | apply below_alloc | apply pw_below_drewN | apply below_drew1 | refine below_set ?_ GE312.out | refine below_set ?_ GE321.out) | exact HB.out))))
                                  have n8_ := Aside0.mk (blk_below (g := gb312) (o := .cells #[.slice Ao9 t308.length co9] 24 (0, 0)) (by (with_reducible repeat (first | refine blk_drewN ?_ _ | refine blk_drew ?_ | refine blk_alloc ?_ _)); exact BK312.out) hb)
                                  have n9_ := Aside0.mk (blk_below (g := gb321) (o := .cells #[.int .i64 t313, .slice Ao15 t314.length co15, .slice Ao16 t317.length co16] 39 (0, 0)) (by (with_reducible repeat (first | refine blk_drewN ?_ _ | refine blk_drew ?_ | refine blk_alloc ?_ _)); exact BK321.out) hb)
                                  have n10_ := Aside0.mk (below_step (by repeat (first | (with_reducible first | exact HB.out | apply below_alloc | apply pw_below_drewN | apply below_drew1 | refine below_set ?_ GE312.out | refine below_set ?_ GE321.out) | exact HB.out)) hb)
                                  clear HO_313000
                                  clear HO_322001
                                  clear HO_322002
                                  clear HO341
                                  clear HO344
                                  clear HO348
                                  clear HO351
                                  clear BK312
                                  clear BK321
                                  clear HB
                                  have HO_313000 := n0_
                                  have HO_322001 := n1_
                                  have HO_322002 := n2_
                                  have HO341 := n3_
                                  have HO344 := n4_
                                  have HO348 := n5_
                                  have HO351 := n6_
                                  have HO355 := n7_
                                  have BK312 := n8_
                                  have BK321 := n9_
                                  have HB := n10_
                                  clear n0_ n1_ n2_ n3_ n4_ n5_ n6_ n7_ n8_ n9_ n10_
                                  (try clear hb)
                                  (try clear hb2)
                                  (try clear hk)
                                  (try clear hi)
                                  (try clear ho0)
                                  refine hK.out _ _ ⟨(blk_cell BK312.out 0).trans rfl, (blk_cell BK321.out 0).trans rfl, (blk_cell BK321.out 1).trans rfl, (blk_cell BK321.out 2).trans rfl⟩ (fun hHeld => ?_)
                                  clear hK K
                                  refine norm_ (a' := ?_) ?_ ?_
                                  rotate_left
                                  · show Act.put _ (some 160) _ = _
                                    simp only [Act.put, List.setIfInBounds_toArray, List.set_cons_zero, List.set_cons_succ, i64_w, i32_w]
                                    rfl
                                  refine one_ (i := 22) (N := some 163) #[true, true, true, true, true, true, true, true, true, true, true, true, true, true, true, true, true, true, true, true, true, true, true, false, false, false, false, false, false] rfl rfl (one_of HT_.out (by kernel_rfl)) (by decide) (fun K hK => ?_)
                                  refine goes_ Try.func28 (by kernel_rfl) rfl #[.agg #[.int .i64 t313, .slice Ao15 t314.length co15, .slice Ao16 t317.length co16], .int .i64 a1] (by rfl) rfl rfl (by (try simp only [List.map_toArray, List.map_cons, List.map_nil]); first | done | rfl | (simp only [List.length_drop, List.length_take]; rfl)) ?_
                                  with_reducible refine (carlingref12_Shape_Under.calls k5 t313 _ _ t314 _ _ t317 a1 t356 _ ?side1 ?side2 ?side3 ?side4 A92.out).mono ?_
                                  (case side1 => repeat (first | exact (Kd.R_reads' HO_322001.out).2.2 | (with_reducible refine Kd.C_alloc ?_ _) | (with_reducible refine Kd.C_drewN ?_ _) | (with_reducible refine Kd.C_drew ?_)))
                                  (case side2 => exact (Kd.R_reads' HO_322001.out).2.1)
                                  (case side3 => repeat (first | exact (Kd.R_reads' HO_322002.out).2.2 | (with_reducible refine Kd.C_alloc ?_ _) | (with_reducible refine Kd.C_drewN ?_ _) | (with_reducible refine Kd.C_drew ?_)))
                                  (case side4 => exact (Kd.R_reads' HO_322002.out).2.1)
                                  rintro e w106 ⟨v357, rfl, ho0, hb⟩
                                  refine ⟨_, rfl, ?_⟩
                                  have n0_ := Aside0.mk (Kd.R_elder' (by (with_reducible repeat (first | apply Kd.R_alloc | apply Kd.R_drewN | apply Kd.R_drew)); exact HO_313000.out) (Kd.R_base ho0) hb)
                                  have n1_ := Aside0.mk (Kd.R_elder' (by (with_reducible repeat (first | apply Kd.R_alloc | apply Kd.R_drewN | apply Kd.R_drew)); exact HO_322001.out) (Kd.R_base ho0) hb)
                                  have n2_ := Aside0.mk (Kd.R_elder' (by (with_reducible repeat (first | apply Kd.R_alloc | apply Kd.R_drewN | apply Kd.R_drew)); exact HO_322002.out) (Kd.R_base ho0) hb)
                                  have n3_ := Aside0.mk (Kd.R_elder' (by (with_reducible repeat (first | apply Kd.R_alloc | apply Kd.R_drewN | apply Kd.R_drew)); exact HO341.out) (Kd.R_base ho0) hb)
                                  have n4_ := Aside0.mk (Kd.R_elder' (by (with_reducible repeat (first | apply Kd.R_alloc | apply Kd.R_drewN | apply Kd.R_drew)); exact HO344.out) (Kd.R_base ho0) hb)
                                  have n5_ := Aside0.mk (Kd.R_elder' (by (with_reducible repeat (first | apply Kd.R_alloc | apply Kd.R_drewN | apply Kd.R_drew)); exact HO348.out) (Kd.R_base ho0) hb)
                                  have n6_ := Aside0.mk (Kd.R_elder' (by (with_reducible repeat (first | apply Kd.R_alloc | apply Kd.R_drewN | apply Kd.R_drew)); exact HO351.out) (Kd.R_base ho0) hb)
                                  have n7_ := Aside0.mk (Kd.R_elder' (by (with_reducible repeat (first | apply Kd.R_alloc | apply Kd.R_drewN | apply Kd.R_drew)); exact HO355.out) (Kd.R_base ho0) hb)
                                  have n8_ := Aside0.mk (Kd.R_lower (Kd.R_new' (Kd.R_new' (Kd.R_new' (Kd.R_new' (Kd.R_new' (Kd.R_new' (Kd.R_new' (Kd.R_new' ho0 (Kd.R_lt (by (with_reducible repeat (first | apply Kd.R_alloc | apply Kd.R_drewN | apply Kd.R_drew)); exact HO_313000.out))) (Kd.R_lt (by (with_reducible repeat (first | apply Kd.R_alloc | apply Kd.R_drewN | apply Kd.R_drew)); exact HO_322001.out))) (Kd.R_lt (by (with_reducible repeat (first | apply Kd.R_alloc | apply Kd.R_drewN | apply Kd.R_drew)); exact HO_322002.out))) (Kd.R_lt (by (with_reducible repeat (first | apply Kd.R_alloc | apply Kd.R_drewN | apply Kd.R_drew)); exact HO341.out))) (Kd.R_lt (by (with_reducible repeat (first | apply Kd.R_alloc | apply Kd.R_drewN | apply Kd.R_drew)); exact HO344.out))) (Kd.R_lt (by (with_reducible repeat (first | apply Kd.R_alloc | apply Kd.R_drewN | apply Kd.R_drew)); exact HO348.out))) (Kd.R_lt (by (with_reducible repeat (first | apply Kd.R_alloc | apply Kd.R_drewN | apply Kd.R_drew)); exact HO351.out))) (Kd.R_lt (by (with_reducible repeat (first | apply Kd.R_alloc | apply Kd.R_drewN | apply Kd.R_drew)); exact HO355.out))) (below_size (by repeat (first | (with_reducible first | exact HB.out | apply below_alloc | apply pw_below_drewN | apply below_drew1 | refine below_set ?_ GE312.out | refine below_set ?_ GE321.out) | exact HB.out))))
                                  have n9_ := Aside0.mk (blk_below (g := gb312) (o := .cells #[.slice Ao9 t308.length co9] 24 (0, 0)) (by (with_reducible repeat (first | refine blk_drewN ?_ _ | refine blk_drew ?_ | refine blk_alloc ?_ _)); exact BK312.out) hb)
                                  have n10_ := Aside0.mk (blk_below (g := gb321) (o := .cells #[.int .i64 t313, .slice Ao15 t314.length co15, .slice Ao16 t317.length co16] 39 (0, 0)) (by (with_reducible repeat (first | refine blk_drewN ?_ _ | refine blk_drew ?_ | refine blk_alloc ?_ _)); exact BK321.out) hb)
                                  have n11_ := Aside0.mk (below_step (by repeat (first | (with_reducible first | exact HB.out | apply below_alloc | apply pw_below_drewN | apply below_drew1 | refine below_set ?_ GE312.out | refine below_set ?_ GE321.out) | exact HB.out)) hb)
                                  clear HO_313000
                                  clear HO_322001
                                  clear HO_322002
                                  clear HO341
                                  clear HO344
                                  clear HO348
                                  clear HO351
                                  clear HO355
                                  clear BK312
                                  clear BK321
                                  clear HB
                                  have HO_313000 := n0_
                                  have HO_322001 := n1_
                                  have HO_322002 := n2_
                                  have HO341 := n3_
                                  have HO344 := n4_
                                  have HO348 := n5_
                                  have HO351 := n6_
                                  have HO355 := n7_
                                  have HO358 := n8_
                                  have BK312 := n9_
                                  have BK321 := n10_
                                  have HB := n11_
                                  clear n0_ n1_ n2_ n3_ n4_ n5_ n6_ n7_ n8_ n9_ n10_ n11_
                                  (try clear hb)
                                  (try clear hb2)
                                  (try clear hk)
                                  (try clear hi)
                                  (try clear ho0)
                                  obtain ⟨Ao107, co107, eo107⟩ := Kd.R_slice HO355.out
                                  (first | subst eo107 | (injection eo107 with f1_ f2_ f3_; have f4_ := f1_.symm; have f5_ := f3_.symm; clear f1_ f2_ f3_; subst f4_; subst f5_))
                                  obtain ⟨Ao108, co108, eo108⟩ := Kd.R_slice HO358.out
                                  (first | subst eo108 | (injection eo108 with f1_ f2_ f3_; have f4_ := f1_.symm; have f5_ := f3_.symm; clear f1_ f2_ f3_; subst f4_; subst f5_))
                                  refine hK.out _ _ ⟨(blk_cell BK312.out 0).trans rfl, (blk_cell BK321.out 0).trans rfl, (blk_cell BK321.out 1).trans rfl, (blk_cell BK321.out 2).trans rfl⟩ (fun hHeld => ?_)
                                  clear hK K
                                  refine norm_ (a' := ?_) ?_ ?_
                                  rotate_left
                                  · show Act.put _ (some 163) _ = _
                                    simp only [Act.put, List.setIfInBounds_toArray, List.set_cons_zero, List.set_cons_succ, i64_w, i32_w]
                                    rfl
                                  refine one_ (i := 23) (N := some 164) #[true, true, true, true, true, true, true, true, true, true, true, true, true, true, true, true, true, true, true, true, true, true, true, true, false, false, false, false, false] rfl rfl (one_of HT_.out (by kernel_rfl)) (by decide) (fun K hK => ?_)
                                  refine goes_ Try.func25 (by kernel_rfl) rfl #[.slice Ao107 t353.length co107, .slice Ao108 t356.length co108] (by rfl) rfl rfl (by (try simp only [List.map_toArray, List.map_cons, List.map_nil]); first | done | rfl | (simp only [List.length_drop, List.length_take]; rfl)) ?_
                                  with_reducible refine (carlinglaw12_same.calls k5 _ _ t353 _ _ t356 true _ ?side1 ?side2 ?side3 ?side4 A93.out).mono ?_
                                  (case side1 => repeat (first | exact (Kd.R_reads' HO355.out).2.2 | (with_reducible refine Kd.C_alloc ?_ _) | (with_reducible refine Kd.C_drewN ?_ _) | (with_reducible refine Kd.C_drew ?_)))
                                  (case side2 => exact (Kd.R_reads' HO355.out).2.1)
                                  (case side3 => repeat (first | exact (Kd.R_reads' HO358.out).2.2 | (with_reducible refine Kd.C_alloc ?_ _) | (with_reducible refine Kd.C_drewN ?_ _) | (with_reducible refine Kd.C_drew ?_)))
                                  (case side4 => exact (Kd.R_reads' HO358.out).2.1)
                                  rintro e w' ⟨rfl, ⟨nd, rfl⟩⟩
                                  refine ⟨_, rfl, ?_⟩
                                  refine hK.out _ _ ⟨(blk_cell BK312.out 0).trans rfl, (blk_cell BK321.out 0).trans rfl, (blk_cell BK321.out 1).trans rfl, (blk_cell BK321.out 2).trans rfl⟩ (fun hHeld => ?_)
                                  clear hK K
                                  refine norm_ (a' := ?_) ?_ ?_
                                  rotate_left
                                  · show Act.put _ (some 164) _ = _
                                    simp only [Act.put, List.setIfInBounds_toArray, List.set_cons_zero, List.set_cons_succ, i64_w, i32_w]
                                    rfl
                                  refine pure_ (i := 24) (N := some 165) (v := ?_) (a' := ?_) #[true, true, true, true, true, true, true, true, true, true, true, true, true, true, true, true, true, true, true, true, true, true, true, true, true, false, false, false, false] rfl rfl (any_of HT_.out (by kernel_rfl)) (fun _ _ _ h => h) (Or.inl ⟨by rfl, ?_⟩) ?_ ?_
                                  rotate_left
                                  · intro w'
                                    go_simp
                                    with_reducible rfl
                                  rotate_left
                                  · simp only [Act.put, List.setIfInBounds_toArray, List.set_cons_zero, List.set_cons_succ, i64_w, i32_w]
                                    rfl
                                  refine pure_ (i := 25) (N := some 166) (v := ?_) (a' := ?_) #[true, true, true, true, true, true, true, true, true, true, true, true, true, true, true, true, true, true, true, true, true, true, true, true, true, true, false, false, false] rfl rfl (any_of HT_.out (by kernel_rfl)) (fun _ _ _ h => h) (Or.inl ⟨by rfl, ?_⟩) ?_ ?_
                                  rotate_left
                                  · intro w'
                                    go_simp
                                    with_reducible rfl
                                  rotate_left
                                  · simp only [Act.put, List.setIfInBounds_toArray, List.set_cons_zero, List.set_cons_succ, i64_w, i32_w]
                                    rfl
                                  refine one_ (i := 26) (N := some 167) #[true, true, true, true, true, true, true, true, true, true, true, true, true, true, true, true, true, true, true, true, true, true, true, true, true, true, true, false, false] rfl rfl (one_of HT_.out (by kernel_rfl)) (by decide) (fun K hK => ?_)
                                  refine goes_ Try.func8 (by kernel_rfl) rfl #[] (by rfl) rfl rfl (by (try simp only [List.map_toArray, List.map_cons, List.map_nil]); first | done | rfl | (simp only [List.length_drop, List.length_take]; rfl)) ?_
                                  with_reducible refine (carlinglaw12_alive.calls k5  t360 _ A95.out).mono ?_
                                  rintro e w109 ⟨rfl, hb⟩
                                  refine ⟨_, rfl, ?_⟩
                                  have n0_ := Aside0.mk (Kd.R_below (by (with_reducible repeat (first | apply Kd.R_alloc | apply Kd.R_drewN | apply Kd.R_drew)); exact HO_313000.out) hb)
                                  have n1_ := Aside0.mk (Kd.R_below (by (with_reducible repeat (first | apply Kd.R_alloc | apply Kd.R_drewN | apply Kd.R_drew)); exact HO_322001.out) hb)
                                  have n2_ := Aside0.mk (Kd.R_below (by (with_reducible repeat (first | apply Kd.R_alloc | apply Kd.R_drewN | apply Kd.R_drew)); exact HO_322002.out) hb)
                                  have n3_ := Aside0.mk (Kd.R_below (by (with_reducible repeat (first | apply Kd.R_alloc | apply Kd.R_drewN | apply Kd.R_drew)); exact HO341.out) hb)
                                  have n4_ := Aside0.mk (Kd.R_below (by (with_reducible repeat (first | apply Kd.R_alloc | apply Kd.R_drewN | apply Kd.R_drew)); exact HO344.out) hb)
                                  have n5_ := Aside0.mk (Kd.R_below (by (with_reducible repeat (first | apply Kd.R_alloc | apply Kd.R_drewN | apply Kd.R_drew)); exact HO348.out) hb)
                                  have n6_ := Aside0.mk (Kd.R_below (by (with_reducible repeat (first | apply Kd.R_alloc | apply Kd.R_drewN | apply Kd.R_drew)); exact HO351.out) hb)
                                  have n7_ := Aside0.mk (Kd.R_below (by (with_reducible repeat (first | apply Kd.R_alloc | apply Kd.R_drewN | apply Kd.R_drew)); exact HO355.out) hb)
                                  have n8_ := Aside0.mk (Kd.R_below (by (with_reducible repeat (first | apply Kd.R_alloc | apply Kd.R_drewN | apply Kd.R_drew)); exact HO358.out) hb)
                                  have n9_ := Aside0.mk (blk_below (g := gb312) (o := .cells #[.slice Ao9 t308.length co9] 24 (0, 0)) (by (with_reducible repeat (first | refine blk_drewN ?_ _ | refine blk_drew ?_ | refine blk_alloc ?_ _)); exact BK312.out) hb)
                                  have n10_ := Aside0.mk (blk_below (g := gb321) (o := .cells #[.int .i64 t313, .slice Ao15 t314.length co15, .slice Ao16 t317.length co16] 39 (0, 0)) (by (with_reducible repeat (first | refine blk_drewN ?_ _ | refine blk_drew ?_ | refine blk_alloc ?_ _)); exact BK321.out) hb)
                                  have n11_ := Aside0.mk (below_step (by repeat (first | (with_reducible first | exact HB.out | apply below_alloc | apply pw_below_drewN | apply below_drew1 | refine below_set ?_ GE312.out | refine below_set ?_ GE321.out) | exact HB.out)) hb)
                                  clear HO_313000
                                  clear HO_322001
                                  clear HO_322002
                                  clear HO341
                                  clear HO344
                                  clear HO348
                                  clear HO351
                                  clear HO355
                                  clear HO358
                                  clear BK312
                                  clear BK321
                                  clear HB
                                  have HO_313000 := n0_
                                  have HO_322001 := n1_
                                  have HO_322002 := n2_
                                  have HO341 := n3_
                                  have HO344 := n4_
                                  have HO348 := n5_
                                  have HO351 := n6_
                                  have HO355 := n7_
                                  have HO358 := n8_
                                  have BK312 := n9_
                                  have BK321 := n10_
                                  have HB := n11_
                                  clear n0_ n1_ n2_ n3_ n4_ n5_ n6_ n7_ n8_ n9_ n10_ n11_
                                  (try clear hb)
                                  (try clear hb2)
                                  (try clear hk)
                                  (try clear hi)
                                  refine hK.out _ _ ⟨(blk_cell BK312.out 0).trans rfl, (blk_cell BK321.out 0).trans rfl, (blk_cell BK321.out 1).trans rfl, (blk_cell BK321.out 2).trans rfl⟩ (fun hHeld => ?_)
                                  clear hK K
                                  refine norm_ (a' := ?_) ?_ ?_
                                  rotate_left
                                  · show Act.put _ (some 167) _ = _
                                    simp only [Act.put, List.setIfInBounds_toArray, List.set_cons_zero, List.set_cons_succ, i64_w, i32_w]
                                    rfl
                                  refine pure_ (i := 27) (N := some 168) (v := ?_) (a' := ?_) #[true, true, true, true, true, true, true, true, true, true, true, true, true, true, true, true, true, true, true, true, true, true, true, true, true, true, true, true, false] rfl rfl (any_of HT_.out (by kernel_rfl)) (fun _ _ _ h => h) (Or.inl ⟨by rfl, ?_⟩) ?_ ?_
                                  rotate_left
                                  · intro w'
                                    go_simp
                                    with_reducible rfl
                                  rotate_left
                                  · simp only [Act.put, List.setIfInBounds_toArray, List.set_cons_zero, List.set_cons_succ, i64_w, i32_w]
                                    rfl
                                  refine pure_ (i := 28) (N := some 6) (v := ?_) (a' := ?_) #[true, true, true, true, true, true, true, true, true, true, true, true, true, true, true, true, true, true, true, true, true, true, true, true, true, true, true, true, true] rfl rfl (any_of HT_.out (by kernel_rfl)) (fun _ _ _ h => h) (Or.inl ⟨by rfl, ?_⟩) ?_ ?_
                                  rotate_left
                                  · intro w'
                                    go_simp
                                    with_reducible rfl
                                  rotate_left
                                  · simp only [Act.put, List.setIfInBounds_toArray, List.set_cons_zero, List.set_cons_succ, i64_w, i32_w]
                                    rfl
                                  refine done_ (done_of HT_.out (by kernel_rfl)) ?_
                                  try go_wp2
                                  go_ret
                                  exact ⟨by first | rfl | (simp [errW_none, errW_some] <;> rfl) | (simp [*, errW_none, errW_some] <;> rfl), by repeat (first | (with_reducible first | exact HB.out | apply below_alloc | apply pw_below_drewN | apply below_drew1 | refine below_set ?_ GE312.out | refine below_set ?_ GE321.out) | exact HB.out)⟩
                                · replace c94 := Bool.eq_false_iff.mpr c94
                                  subst c94
                                  have H1 : (none) = some r := by rw [if_neg (show ¬ (false = true) by decide)] at H; exact H
                                  clear H
                                  have H := H1
                                  clear H1
                                  exact absurd H (by simp)
                              · replace c90 := Bool.eq_false_iff.mpr c90
                                subst c90
                                have H1 : (none) = some r := by rw [if_neg (show ¬ (false = true) by decide)] at H; exact H
                                clear H
                                have H := H1
                                clear H1
                                exact absurd H (by simp)
                            · replace c86 := Bool.eq_false_iff.mpr c86
                              subst c86
                              have H1 : (none) = some r := by rw [if_neg (show ¬ (false = true) by decide)] at H; exact H
                              clear H
                              have H := H1
                              clear H1
                              exact absurd H (by simp)

/-- THE ONE PURE STATEMENT of carlinglaw12_ShapeItems: yours. -/
def carlinglaw12_ShapeItems.Pure : Prop := ∀ (a0 : Int) (a1 : Int) (a2 : Int), (Lit.int .i64 a0).wf = true → (Lit.int .i64 a1).wf = true → (Lit.int .i64 a2).wf = true → ∃ k, carlinglaw12_ShapeItems.f k a0 a1 a2 = some true
theorem carlinglaw12_ShapeItems.walk (P : carlinglaw12_ShapeItems.Pure) (a0 : Int) (a1 : Int) (a2 : Int) (w : World) (w0 : (Lit.int .i64 a0).wf = true) (w1 : (Lit.int .i64 a1).wf = true) (w2 : (Lit.int .i64 a2).wf = true) :
    Calls Try.prog 6 #[.int .i64 a0, .int .i64 a1, .int .i64 a2] w fun e w' => e = .returned (.bool true) ∧ Below w.heap.size w w' := by
  obtain ⟨k, h⟩ := P a0 a1 a2 w0 w1 w2
  refine (carlinglaw12_ShapeItems.calls k a0 a1 a2 true w h).mono ?_
  rintro e w' ⟨rfl, hd⟩
  exact ⟨rfl, hd⟩

end Go.Proofs.Ythpmlhiilmaigaa.PS
