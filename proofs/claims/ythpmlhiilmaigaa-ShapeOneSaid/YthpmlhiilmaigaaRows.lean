/-
  No cell of these rows narrows 'for every input' (looked for: loops, veiled, ifaces, maps, wideKeys, modest, calm, conditions, laid).
  DERIVED. THE GIVEN ROWS OF THIS SEAT. 4 by the template 'for every input the law returns true; each argument reads behind the call as it read before'; 0 by the template 'total and deterministic' (their statements: YthpmlhiilmaigaaTotals.lean).
  GIVEN WITH THE SEED: the statements are not yours to turn. If you find one false, say at which input.
  Laid BY PROGRAM, IN A SANDBOX (cutbox-rows.mjs): the forced cells as the released guide's own fill.sh prints them over the translation ca37b81ee6304292… (all of the seat's roots in one cut). By AI agents, Wed Nov 11 2026. No macro, syntax, notation, axiom, sorry.
-/
import Derived.Test.YthpmlhiilmaigaaChecked
import GoSem.Claim
import GoSem.ClaimJoined
import GoSem.ClaimMapViews
import Derived.JoinedTies
import Derived.KernelRfl
namespace Go.Proofs.Ythpmlhiilmaigaa
/- THE CELL 'sum', in the pinned program and in every row, IS THE sha256 OF THE DUMP (.gsa) THAT YthpmlhiilmaigaaProg.lean LOADS. Nothing in Lean hashes anything: it is a label: what it is worth is what the hold of that sum in a sandbox is worth. -/
noncomputable def Try.pinned : Pinned := { name := "ythpmlhiilmaigaa", sum := "ca37b81ee63042927e51ae8f44a6a9cfea80cc4044cbfb8e82c14e20d3b903bf", checked := Try.checked }
namespace Rows
def none {H : Type} : Left H := { results := [], args := [] }

/-- 'carlinglaw12.ShapeOne': WHATEVER THE INPUT: true; the input reads as it did. -/
def shapeOneSpec : ChangeSpec := { name := "shapeOne", fn := fun _ => fun
  | [d] => { results := [.lit (.bool true)], args := [d] }
  | _ => none }
def shapeOneRow : OpenClaim := { program := "ythpmlhiilmaigaa", sum := "ca37b81ee63042927e51ae8f44a6a9cfea80cc4044cbfb8e82c14e20d3b903bf", func := "carling/carlinglaw12.ShapeOne", spec := "shapeOne", apart := false }
def ShapeOneSaid : Prop := shapeOneRow.holds Try.pinned (OpenSpec.ofChange shapeOneSpec)

/-- ITS FALSE NEIGHBOUR: 'it returns false'. Refute it at one input. -/
def shapeOneWrong : ChangeSpec := { name := "shapeOne", fn := fun _ => fun
  | [d] => { results := [.lit (.bool false)], args := [d] }
  | _ => none }
def ShapeOneWrongFalsely : Prop := shapeOneRow.holds Try.pinned (OpenSpec.ofChange shapeOneWrong)

/-- 'carlinglaw12.ShapeUnder': WHATEVER THE INPUT: true; the input reads as it did. -/
def shapeUnderSpec : ChangeSpec := { name := "shapeUnder", fn := fun _ => fun
  | [d1, d2] => { results := [.lit (.bool true)], args := [d1, d2] }
  | _ => none }
def shapeUnderRow : OpenClaim := { program := "ythpmlhiilmaigaa", sum := "ca37b81ee63042927e51ae8f44a6a9cfea80cc4044cbfb8e82c14e20d3b903bf", func := "carling/carlinglaw12.ShapeUnder", spec := "shapeUnder", recurses := true, apart := false }
def ShapeUnderSaid : Prop := shapeUnderRow.holds Try.pinned (OpenSpec.ofChange shapeUnderSpec)

/-- ITS FALSE NEIGHBOUR: 'it returns false'. Refute it at one input. -/
def shapeUnderWrong : ChangeSpec := { name := "shapeUnder", fn := fun _ => fun
  | [d1, d2] => { results := [.lit (.bool false)], args := [d1, d2] }
  | _ => none }
def ShapeUnderWrongFalsely : Prop := shapeUnderRow.holds Try.pinned (OpenSpec.ofChange shapeUnderWrong)

/-- 'carlinglaw12.ShapeMakes': WHATEVER THE INPUT: true; the input reads as it did. -/
def shapeMakesSpec : ChangeSpec := { name := "shapeMakes", fn := fun _ => fun
  | [d] => { results := [.lit (.bool true)], args := [d] }
  | _ => none }
def shapeMakesRow : OpenClaim := { program := "ythpmlhiilmaigaa", sum := "ca37b81ee63042927e51ae8f44a6a9cfea80cc4044cbfb8e82c14e20d3b903bf", func := "carling/carlinglaw12.ShapeMakes", spec := "shapeMakes", recurses := true, apart := false }
def ShapeMakesSaid : Prop := shapeMakesRow.holds Try.pinned (OpenSpec.ofChange shapeMakesSpec)

/-- ITS FALSE NEIGHBOUR: 'it returns false'. Refute it at one input. -/
def shapeMakesWrong : ChangeSpec := { name := "shapeMakes", fn := fun _ => fun
  | [d] => { results := [.lit (.bool false)], args := [d] }
  | _ => none }
def ShapeMakesWrongFalsely : Prop := shapeMakesRow.holds Try.pinned (OpenSpec.ofChange shapeMakesWrong)

/-- 'carlinglaw12.ShapeItems': WHATEVER THE INPUT: true; the input reads as it did. -/
def shapeItemsSpec : ChangeSpec := { name := "shapeItems", fn := fun _ => fun
  | [d1, d2, d3] => { results := [.lit (.bool true)], args := [d1, d2, d3] }
  | _ => none }
def shapeItemsRow : OpenClaim := { program := "ythpmlhiilmaigaa", sum := "ca37b81ee63042927e51ae8f44a6a9cfea80cc4044cbfb8e82c14e20d3b903bf", func := "carling/carlinglaw12.ShapeItems", spec := "shapeItems", recurses := true, apart := false }
def ShapeItemsSaid : Prop := shapeItemsRow.holds Try.pinned (OpenSpec.ofChange shapeItemsSpec)

/-- ITS FALSE NEIGHBOUR: 'it returns false'. Refute it at one input. -/
def shapeItemsWrong : ChangeSpec := { name := "shapeItems", fn := fun _ => fun
  | [d1, d2, d3] => { results := [.lit (.bool false)], args := [d1, d2, d3] }
  | _ => none }
def ShapeItemsWrongFalsely : Prop := shapeItemsRow.holds Try.pinned (OpenSpec.ofChange shapeItemsWrong)

/- THE SECOND FORM. 'bulk': how many values and letters a reading holds, each counted each time it is reached (what is shared counts as often as it is met; a slice's spare places count too). A statement '..UptoSaid' is the law's where the arguments, and the package variables that the reading takes, are together of bulk at most 1048576: NARROWER than '..Said'. Prove '..Said' where nothing that the law and all that it calls make is longer than what came in: it says more and counts as full. Else prove '..UptoSaid'. A law counts once. -/
mutual
def uptoBulk {H : Type} : DataW H → Nat
  | .lit (.string bytes) => bytes.length + 1
  | .lit _ => 1
  | .nil => 1
  | .ptr d => uptoBulk d + 1
  | .slice elems spare => uptoBulkAll elems + uptoBulkAll spare + 1
  | .agg parts => uptoBulkAll parts + 1
  | .iface _ d => uptoBulk d + 1
  | .map entries => uptoBulkEntries entries + 1
  | .held _ => 1
def uptoBulkAll {H : Type} : List (DataW H) → Nat
  | [] => 0
  | d :: r => uptoBulk d + uptoBulkAll r
def uptoBulkEntries {H : Type} : List (Lit × DataW H) → Nat
  | [] => 0
  | x :: r => uptoBulkEntry x + uptoBulkEntries r
def uptoBulkEntry {H : Type} : Lit × DataW H → Nat
  | (.string bytes, d) => bytes.length + uptoBulk d + 1
  | (_, d) => uptoBulk d + 1
 end
def uptoSmall : (H : Type) → List (DataW H) → Bool := fun _ ds => decide (uptoBulkAll ds ≤ 1048576)
def OpenSpec.upto (s : _root_.Go.ChangeSpec) : _root_.Go.OpenSpec := { _root_.Go.OpenSpec.ofChange s with cond := some uptoSmall }

/-- 'carlinglaw12.ShapeOne', WHERE WHAT IT READS IS OF BULK AT MOST 1048576: true; the input reads as it did. -/
def shapeOneUptoRow : OpenClaim := { program := "ythpmlhiilmaigaa", sum := "ca37b81ee63042927e51ae8f44a6a9cfea80cc4044cbfb8e82c14e20d3b903bf", func := "carling/carlinglaw12.ShapeOne", spec := "shapeOne", apart := false, narrowed := true }
def ShapeOneUptoSaid : Prop := shapeOneUptoRow.holds Try.pinned (OpenSpec.upto shapeOneSpec)

/-- 'carlinglaw12.ShapeUnder', WHERE WHAT IT READS IS OF BULK AT MOST 1048576: true; the input reads as it did. -/
def shapeUnderUptoRow : OpenClaim := { program := "ythpmlhiilmaigaa", sum := "ca37b81ee63042927e51ae8f44a6a9cfea80cc4044cbfb8e82c14e20d3b903bf", func := "carling/carlinglaw12.ShapeUnder", spec := "shapeUnder", recurses := true, apart := false, narrowed := true }
def ShapeUnderUptoSaid : Prop := shapeUnderUptoRow.holds Try.pinned (OpenSpec.upto shapeUnderSpec)

/-- 'carlinglaw12.ShapeMakes', WHERE WHAT IT READS IS OF BULK AT MOST 1048576: true; the input reads as it did. -/
def shapeMakesUptoRow : OpenClaim := { program := "ythpmlhiilmaigaa", sum := "ca37b81ee63042927e51ae8f44a6a9cfea80cc4044cbfb8e82c14e20d3b903bf", func := "carling/carlinglaw12.ShapeMakes", spec := "shapeMakes", recurses := true, apart := false, narrowed := true }
def ShapeMakesUptoSaid : Prop := shapeMakesUptoRow.holds Try.pinned (OpenSpec.upto shapeMakesSpec)

/-- 'carlinglaw12.ShapeItems', WHERE WHAT IT READS IS OF BULK AT MOST 1048576: true; the input reads as it did. -/
def shapeItemsUptoRow : OpenClaim := { program := "ythpmlhiilmaigaa", sum := "ca37b81ee63042927e51ae8f44a6a9cfea80cc4044cbfb8e82c14e20d3b903bf", func := "carling/carlinglaw12.ShapeItems", spec := "shapeItems", recurses := true, apart := false, narrowed := true }
def ShapeItemsUptoSaid : Prop := shapeItemsUptoRow.holds Try.pinned (OpenSpec.upto shapeItemsSpec)

end Rows
end Go.Proofs.Ythpmlhiilmaigaa
