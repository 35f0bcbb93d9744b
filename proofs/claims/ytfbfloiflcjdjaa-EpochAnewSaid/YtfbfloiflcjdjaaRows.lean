/-
  No cell of these rows narrows 'for every input' (looked for: loops, veiled, ifaces, maps, wideKeys, modest, calm, conditions, laid).
  DERIVED. THE GIVEN ROWS OF THIS SEAT. 4 by the template 'for every input the law returns true; each argument reads behind the call as it read before'; 0 by the template 'total and deterministic' (their statements: YtfbfloiflcjdjaaTotals.lean).
  GIVEN WITH THE SEED: the statements are not yours to turn. If you find one false, say at which input.
  Laid BY PROGRAM, IN A SANDBOX (cutbox-rows.mjs): the forced cells as the released guide's own fill.sh prints them over the translation 7c602d18b810d703… (all of the seat's roots in one cut). By AI agents, Wed Nov 11 2026. No macro, syntax, notation, axiom, sorry.
-/
import Derived.Test.YtfbfloiflcjdjaaChecked
import GoSem.Claim
import GoSem.ClaimJoined
import GoSem.ClaimMapViews
import Derived.JoinedTies
import Derived.KernelRfl
namespace Go.Proofs.Ytfbfloiflcjdjaa
/- THE CELL 'sum', in the pinned program and in every row, IS THE sha256 OF THE DUMP (.gsa) THAT YtfbfloiflcjdjaaProg.lean LOADS. Nothing in Lean hashes anything: it is a label: what it is worth is what the hold of that sum in a sandbox is worth. -/
noncomputable def Try.pinned : Pinned := { name := "ytfbfloiflcjdjaa", sum := "7c602d18b810d703151a942a554027b1a76d2b32a00821523ebd81c473afc7c2", checked := Try.checked }
namespace Rows
def none {H : Type} : Left H := { results := [], args := [] }

/-- 'carlinglaw08.EpochOnce': WHATEVER THE INPUT: true; the input reads as it did. -/
def epochOnceSpec : ChangeSpec := { name := "epochOnce", fn := fun _ => fun
  | [d1, d2] => { results := [.lit (.bool true)], args := [d1, d2] }
  | _ => none }
def epochOnceRow : OpenClaim := { program := "ytfbfloiflcjdjaa", sum := "7c602d18b810d703151a942a554027b1a76d2b32a00821523ebd81c473afc7c2", func := "carling/carlinglaw08.EpochOnce", spec := "epochOnce", plainKeys := false, apart := false }
def EpochOnceSaid : Prop := epochOnceRow.holds Try.pinned (OpenSpec.ofChange epochOnceSpec)

/-- ITS FALSE NEIGHBOUR: 'it returns false'. Refute it at one input. -/
def epochOnceWrong : ChangeSpec := { name := "epochOnce", fn := fun _ => fun
  | [d1, d2] => { results := [.lit (.bool false)], args := [d1, d2] }
  | _ => none }
def EpochOnceWrongFalsely : Prop := epochOnceRow.holds Try.pinned (OpenSpec.ofChange epochOnceWrong)

/-- 'carlinglaw08.EpochPlays': WHATEVER THE INPUT: true; the input reads as it did. -/
def epochPlaysSpec : ChangeSpec := { name := "epochPlays", fn := fun _ => fun
  | [d1, d2] => { results := [.lit (.bool true)], args := [d1, d2] }
  | _ => none }
def epochPlaysRow : OpenClaim := { program := "ytfbfloiflcjdjaa", sum := "7c602d18b810d703151a942a554027b1a76d2b32a00821523ebd81c473afc7c2", func := "carling/carlinglaw08.EpochPlays", spec := "epochPlays", plainKeys := false, apart := false }
def EpochPlaysSaid : Prop := epochPlaysRow.holds Try.pinned (OpenSpec.ofChange epochPlaysSpec)

/-- ITS FALSE NEIGHBOUR: 'it returns false'. Refute it at one input. -/
def epochPlaysWrong : ChangeSpec := { name := "epochPlays", fn := fun _ => fun
  | [d1, d2] => { results := [.lit (.bool false)], args := [d1, d2] }
  | _ => none }
def EpochPlaysWrongFalsely : Prop := epochPlaysRow.holds Try.pinned (OpenSpec.ofChange epochPlaysWrong)

/-- 'carlinglaw08.EpochAnew': WHATEVER THE INPUT: true; the input reads as it did. -/
def epochAnewSpec : ChangeSpec := { name := "epochAnew", fn := fun _ => fun
  | [d1, d2, d3] => { results := [.lit (.bool true)], args := [d1, d2, d3] }
  | _ => none }
def epochAnewRow : OpenClaim := { program := "ytfbfloiflcjdjaa", sum := "7c602d18b810d703151a942a554027b1a76d2b32a00821523ebd81c473afc7c2", func := "carling/carlinglaw08.EpochAnew", spec := "epochAnew", plainKeys := false, apart := false }
def EpochAnewSaid : Prop := epochAnewRow.holds Try.pinned (OpenSpec.ofChange epochAnewSpec)

/-- ITS FALSE NEIGHBOUR: 'it returns false'. Refute it at one input. -/
def epochAnewWrong : ChangeSpec := { name := "epochAnew", fn := fun _ => fun
  | [d1, d2, d3] => { results := [.lit (.bool false)], args := [d1, d2, d3] }
  | _ => none }
def EpochAnewWrongFalsely : Prop := epochAnewRow.holds Try.pinned (OpenSpec.ofChange epochAnewWrong)

/-- 'carlinglaw08.EpochLeft': WHATEVER THE INPUT: true; the input reads as it did. -/
def epochLeftSpec : ChangeSpec := { name := "epochLeft", fn := fun _ => fun
  | [d1, d2] => { results := [.lit (.bool true)], args := [d1, d2] }
  | _ => none }
def epochLeftRow : OpenClaim := { program := "ytfbfloiflcjdjaa", sum := "7c602d18b810d703151a942a554027b1a76d2b32a00821523ebd81c473afc7c2", func := "carling/carlinglaw08.EpochLeft", spec := "epochLeft", plainKeys := false, apart := false }
def EpochLeftSaid : Prop := epochLeftRow.holds Try.pinned (OpenSpec.ofChange epochLeftSpec)

/-- ITS FALSE NEIGHBOUR: 'it returns false'. Refute it at one input. -/
def epochLeftWrong : ChangeSpec := { name := "epochLeft", fn := fun _ => fun
  | [d1, d2] => { results := [.lit (.bool false)], args := [d1, d2] }
  | _ => none }
def EpochLeftWrongFalsely : Prop := epochLeftRow.holds Try.pinned (OpenSpec.ofChange epochLeftWrong)

/- THE SECOND FORM. 'bulk': how many values and letters a reading holds, each counted each time it is reached (what is shared counts as often as it is met; a slice's spare places count too). A statement '..UptoSaid' is the law's where the arguments, and the package variables that the reading takes, are together of bulk at most 1048576: NARROWER than '..Said'. Prove '..Said' where nothing that the law and all that it calls make is longer than what came in: it says more and counts as full. Else prove '..UptoSaid'. A law counts once. -/
mutual
def uptoBulk {H : Type} : DataW H → Nat
  | .lit (.string bytes) => bytes.length + 1
  | .lit _ => 1
  | .nil => 1
  | .ptr d => uptoBulk d + 1
  | .slice elems spare => uptoBulkAll elems + uptoBulkAll spare + 1
  | .agg parts => uptoBulkAll parts + 1
  | .iface _ d => uptoBulk d + 1
  | .map entries => uptoBulkEntries entries + 1
  | .held _ => 1
def uptoBulkAll {H : Type} : List (DataW H) → Nat
  | [] => 0
  | d :: r => uptoBulk d + uptoBulkAll r
def uptoBulkEntries {H : Type} : List (Lit × DataW H) → Nat
  | [] => 0
  | x :: r => uptoBulkEntry x + uptoBulkEntries r
def uptoBulkEntry {H : Type} : Lit × DataW H → Nat
  | (.string bytes, d) => bytes.length + uptoBulk d + 1
  | (_, d) => uptoBulk d + 1
 end
def uptoSmall : (H : Type) → List (DataW H) → Bool := fun _ ds => decide (uptoBulkAll ds ≤ 1048576)
def OpenSpec.upto (s : _root_.Go.ChangeSpec) : _root_.Go.OpenSpec := { _root_.Go.OpenSpec.ofChange s with cond := some uptoSmall }

/-- 'carlinglaw08.EpochOnce', WHERE WHAT IT READS IS OF BULK AT MOST 1048576: true; the input reads as it did. -/
def epochOnceUptoRow : OpenClaim := { program := "ytfbfloiflcjdjaa", sum := "7c602d18b810d703151a942a554027b1a76d2b32a00821523ebd81c473afc7c2", func := "carling/carlinglaw08.EpochOnce", spec := "epochOnce", plainKeys := false, apart := false, narrowed := true }
def EpochOnceUptoSaid : Prop := epochOnceUptoRow.holds Try.pinned (OpenSpec.upto epochOnceSpec)

/-- 'carlinglaw08.EpochPlays', WHERE WHAT IT READS IS OF BULK AT MOST 1048576: true; the input reads as it did. -/
def epochPlaysUptoRow : OpenClaim := { program := "ytfbfloiflcjdjaa", sum := "7c602d18b810d703151a942a554027b1a76d2b32a00821523ebd81c473afc7c2", func := "carling/carlinglaw08.EpochPlays", spec := "epochPlays", plainKeys := false, apart := false, narrowed := true }
def EpochPlaysUptoSaid : Prop := epochPlaysUptoRow.holds Try.pinned (OpenSpec.upto epochPlaysSpec)

/-- 'carlinglaw08.EpochAnew', WHERE WHAT IT READS IS OF BULK AT MOST 1048576: true; the input reads as it did. -/
def epochAnewUptoRow : OpenClaim := { program := "ytfbfloiflcjdjaa", sum := "7c602d18b810d703151a942a554027b1a76d2b32a00821523ebd81c473afc7c2", func := "carling/carlinglaw08.EpochAnew", spec := "epochAnew", plainKeys := false, apart := false, narrowed := true }
def EpochAnewUptoSaid : Prop := epochAnewUptoRow.holds Try.pinned (OpenSpec.upto epochAnewSpec)

/-- 'carlinglaw08.EpochLeft', WHERE WHAT IT READS IS OF BULK AT MOST 1048576: true; the input reads as it did. -/
def epochLeftUptoRow : OpenClaim := { program := "ytfbfloiflcjdjaa", sum := "7c602d18b810d703151a942a554027b1a76d2b32a00821523ebd81c473afc7c2", func := "carling/carlinglaw08.EpochLeft", spec := "epochLeft", plainKeys := false, apart := false, narrowed := true }
def EpochLeftUptoSaid : Prop := epochLeftUptoRow.holds Try.pinned (OpenSpec.upto epochLeftSpec)

end Rows
end Go.Proofs.Ytfbfloiflcjdjaa
