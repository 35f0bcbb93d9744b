/-
  No cell of these rows narrows 'for every input' (looked for: loops, veiled, ifaces, maps, wideKeys, modest, calm, conditions, laid).
  DERIVED. THE GIVEN ROWS OF THIS SEAT. 4 by the template 'for every input the law returns true; each argument reads behind the call as it read before'; 0 by the template 'total and deterministic' (their statements: YtlcbdalgifjocaaTotals.lean).
  GIVEN WITH THE SEED: the statements are not yours to turn. If you find one false, say at which input.
  Laid BY PROGRAM, IN A SANDBOX (cutbox-rows.mjs): the forced cells as the released guide's own fill.sh prints them over the translation 8c503fb2f9984042… (all of the seat's roots in one cut). By AI agents, Wed Nov 11 2026. No macro, syntax, notation, axiom, sorry.
-/
import Derived.Test.YtlcbdalgifjocaaChecked
import GoSem.Claim
import GoSem.ClaimJoined
import GoSem.ClaimMapViews
import Derived.JoinedTies
import Derived.KernelRfl
namespace Go.Proofs.Ytlcbdalgifjocaa
/- THE CELL 'sum', in the pinned program and in every row, IS THE sha256 OF THE DUMP (.gsa) THAT YtlcbdalgifjocaaProg.lean LOADS. Nothing in Lean hashes anything: it is a label: what it is worth is what the hold of that sum in a sandbox is worth. -/
noncomputable def Try.pinned : Pinned := { name := "ytlcbdalgifjocaa", sum := "8c503fb2f9984042e02259e052cc1aa90fa44bd307a6233ba2330955061390f5", checked := Try.checked }
namespace Rows
def none {H : Type} : Left H := { results := [], args := [] }

/-- 'carlinglaw20.BitmapTakes': WHATEVER THE INPUT: true; the input reads as it did. -/
def bitmapTakesSpec : ChangeSpec := { name := "bitmapTakes", fn := fun _ => fun
  | [d1, d2] => { results := [.lit (.bool true)], args := [d1, d2] }
  | _ => none }
def bitmapTakesRow : OpenClaim := { program := "ytlcbdalgifjocaa", sum := "8c503fb2f9984042e02259e052cc1aa90fa44bd307a6233ba2330955061390f5", func := "carling/carlinglaw20.BitmapTakes", spec := "bitmapTakes", apart := false }
def BitmapTakesSaid : Prop := bitmapTakesRow.holds Try.pinned (OpenSpec.ofChange bitmapTakesSpec)

/-- ITS FALSE NEIGHBOUR: 'it returns false'. Refute it at one input. -/
def bitmapTakesWrong : ChangeSpec := { name := "bitmapTakes", fn := fun _ => fun
  | [d1, d2] => { results := [.lit (.bool false)], args := [d1, d2] }
  | _ => none }
def BitmapTakesWrongFalsely : Prop := bitmapTakesRow.holds Try.pinned (OpenSpec.ofChange bitmapTakesWrong)

/-- 'carlinglaw20.BitmapGives': WHATEVER THE INPUT: true; the input reads as it did. -/
def bitmapGivesSpec : ChangeSpec := { name := "bitmapGives", fn := fun _ => fun
  | [d1, d2] => { results := [.lit (.bool true)], args := [d1, d2] }
  | _ => none }
def bitmapGivesRow : OpenClaim := { program := "ytlcbdalgifjocaa", sum := "8c503fb2f9984042e02259e052cc1aa90fa44bd307a6233ba2330955061390f5", func := "carling/carlinglaw20.BitmapGives", spec := "bitmapGives", apart := false }
def BitmapGivesSaid : Prop := bitmapGivesRow.holds Try.pinned (OpenSpec.ofChange bitmapGivesSpec)

/-- ITS FALSE NEIGHBOUR: 'it returns false'. Refute it at one input. -/
def bitmapGivesWrong : ChangeSpec := { name := "bitmapGives", fn := fun _ => fun
  | [d1, d2] => { results := [.lit (.bool false)], args := [d1, d2] }
  | _ => none }
def BitmapGivesWrongFalsely : Prop := bitmapGivesRow.holds Try.pinned (OpenSpec.ofChange bitmapGivesWrong)

/-- 'carlinglaw20.BitmapBack': WHATEVER THE INPUT: true; the input reads as it did. -/
def bitmapBackSpec : ChangeSpec := { name := "bitmapBack", fn := fun _ => fun
  | [d1, d2] => { results := [.lit (.bool true)], args := [d1, d2] }
  | _ => none }
def bitmapBackRow : OpenClaim := { program := "ytlcbdalgifjocaa", sum := "8c503fb2f9984042e02259e052cc1aa90fa44bd307a6233ba2330955061390f5", func := "carling/carlinglaw20.BitmapBack", spec := "bitmapBack", apart := false }
def BitmapBackSaid : Prop := bitmapBackRow.holds Try.pinned (OpenSpec.ofChange bitmapBackSpec)

/-- ITS FALSE NEIGHBOUR: 'it returns false'. Refute it at one input. -/
def bitmapBackWrong : ChangeSpec := { name := "bitmapBack", fn := fun _ => fun
  | [d1, d2] => { results := [.lit (.bool false)], args := [d1, d2] }
  | _ => none }
def BitmapBackWrongFalsely : Prop := bitmapBackRow.holds Try.pinned (OpenSpec.ofChange bitmapBackWrong)

/-- 'carlinglaw20.BitmapBits': WHATEVER THE INPUT: true; the input reads as it did. -/
def bitmapBitsSpec : ChangeSpec := { name := "bitmapBits", fn := fun _ => fun
  | [d1, d2, d3] => { results := [.lit (.bool true)], args := [d1, d2, d3] }
  | _ => none }
def bitmapBitsRow : OpenClaim := { program := "ytlcbdalgifjocaa", sum := "8c503fb2f9984042e02259e052cc1aa90fa44bd307a6233ba2330955061390f5", func := "carling/carlinglaw20.BitmapBits", spec := "bitmapBits", apart := false }
def BitmapBitsSaid : Prop := bitmapBitsRow.holds Try.pinned (OpenSpec.ofChange bitmapBitsSpec)

/-- ITS FALSE NEIGHBOUR: 'it returns false'. Refute it at one input. -/
def bitmapBitsWrong : ChangeSpec := { name := "bitmapBits", fn := fun _ => fun
  | [d1, d2, d3] => { results := [.lit (.bool false)], args := [d1, d2, d3] }
  | _ => none }
def BitmapBitsWrongFalsely : Prop := bitmapBitsRow.holds Try.pinned (OpenSpec.ofChange bitmapBitsWrong)

/- THE SECOND FORM. 'bulk': how many values and letters a reading holds, each counted each time it is reached (what is shared counts as often as it is met; a slice's spare places count too). A statement '..UptoSaid' is the law's where the arguments, and the package variables that the reading takes, are together of bulk at most 1048576: NARROWER than '..Said'. Prove '..Said' where nothing that the law and all that it calls make is longer than what came in: it says more and counts as full. Else prove '..UptoSaid'. A law counts once. -/
mutual
def uptoBulk {H : Type} : DataW H → Nat
  | .lit (.string bytes) => bytes.length + 1
  | .lit _ => 1
  | .nil => 1
  | .ptr d => uptoBulk d + 1
  | .slice elems spare => uptoBulkAll elems + uptoBulkAll spare + 1
  | .agg parts => uptoBulkAll parts + 1
  | .iface _ d => uptoBulk d + 1
  | .map entries => uptoBulkEntries entries + 1
  | .held _ => 1
def uptoBulkAll {H : Type} : List (DataW H) → Nat
  | [] => 0
  | d :: r => uptoBulk d + uptoBulkAll r
def uptoBulkEntries {H : Type} : List (Lit × DataW H) → Nat
  | [] => 0
  | x :: r => uptoBulkEntry x + uptoBulkEntries r
def uptoBulkEntry {H : Type} : Lit × DataW H → Nat
  | (.string bytes, d) => bytes.length + uptoBulk d + 1
  | (_, d) => uptoBulk d + 1
 end
def uptoSmall : (H : Type) → List (DataW H) → Bool := fun _ ds => decide (uptoBulkAll ds ≤ 1048576)
def OpenSpec.upto (s : _root_.Go.ChangeSpec) : _root_.Go.OpenSpec := { _root_.Go.OpenSpec.ofChange s with cond := some uptoSmall }

/-- 'carlinglaw20.BitmapTakes', WHERE WHAT IT READS IS OF BULK AT MOST 1048576: true; the input reads as it did. -/
def bitmapTakesUptoRow : OpenClaim := { program := "ytlcbdalgifjocaa", sum := "8c503fb2f9984042e02259e052cc1aa90fa44bd307a6233ba2330955061390f5", func := "carling/carlinglaw20.BitmapTakes", spec := "bitmapTakes", apart := false, narrowed := true }
def BitmapTakesUptoSaid : Prop := bitmapTakesUptoRow.holds Try.pinned (OpenSpec.upto bitmapTakesSpec)

/-- 'carlinglaw20.BitmapGives', WHERE WHAT IT READS IS OF BULK AT MOST 1048576: true; the input reads as it did. -/
def bitmapGivesUptoRow : OpenClaim := { program := "ytlcbdalgifjocaa", sum := "8c503fb2f9984042e02259e052cc1aa90fa44bd307a6233ba2330955061390f5", func := "carling/carlinglaw20.BitmapGives", spec := "bitmapGives", apart := false, narrowed := true }
def BitmapGivesUptoSaid : Prop := bitmapGivesUptoRow.holds Try.pinned (OpenSpec.upto bitmapGivesSpec)

/-- 'carlinglaw20.BitmapBack', WHERE WHAT IT READS IS OF BULK AT MOST 1048576: true; the input reads as it did. -/
def bitmapBackUptoRow : OpenClaim := { program := "ytlcbdalgifjocaa", sum := "8c503fb2f9984042e02259e052cc1aa90fa44bd307a6233ba2330955061390f5", func := "carling/carlinglaw20.BitmapBack", spec := "bitmapBack", apart := false, narrowed := true }
def BitmapBackUptoSaid : Prop := bitmapBackUptoRow.holds Try.pinned (OpenSpec.upto bitmapBackSpec)

/-- 'carlinglaw20.BitmapBits', WHERE WHAT IT READS IS OF BULK AT MOST 1048576: true; the input reads as it did. -/
def bitmapBitsUptoRow : OpenClaim := { program := "ytlcbdalgifjocaa", sum := "8c503fb2f9984042e02259e052cc1aa90fa44bd307a6233ba2330955061390f5", func := "carling/carlinglaw20.BitmapBits", spec := "bitmapBits", apart := false, narrowed := true }
def BitmapBitsUptoSaid : Prop := bitmapBitsUptoRow.holds Try.pinned (OpenSpec.upto bitmapBitsSpec)

end Rows
end Go.Proofs.Ytlcbdalgifjocaa
