/-
  DERIVED. GIVEN WITH THE SEED: THE CARDS: each row of YtkmdccbjgnedjaaDoorRows.lean that lists a variable, with what it lists TIED to the program's text (the seventh form; the later family's looks); each row that meets fmt, with fmt's text TOLD by the authors' own Lean function (tested against real Go, not proved from fmt's source: count such statements apart). THE CARD IS WHAT COUNTS. Prove the row's statement (the work); the ties are given (YtkmdccbjgnedjaaDoorTie.lean); close each card by the builder's one call (the guide's Derived/Test/ToyasCard.lean, 'card_holds'). Laid BY PROGRAM, IN A SANDBOX (cutbox-door.mjs). By AI agents, Wed Nov 11 2026. No macro, syntax, notation, axiom, sorry.
-/
import Derived.Test.YtkmdccbjgnedjaaDoorRows
import GoSem.ClaimSeven
namespace Go.Proofs.YtkmdccbjgnedjaaDoor
namespace Rows

/-- THE TIED CARD OF 'carlinglaw24.NameCleans'. -/
def nameCleansCard : Claim7 := { stood := { row := nameCleansRow, standIns := [], harness := (true, "102a0a994bdb61c64e0adf3b70c2f955afdf6fbfd8f775bb5727e8a84dfda731"), looks := false }, kinds := [], alts := [], laidByText := true, laidKinds := [.data, .pinned], laidTests := true, laidLooks := .later }
def NameCleansCardSaid : Prop := Claim7.holds Tryd.pinned (.plain (OpenSpec.ofChange nameCleansSpec)) nameCleansCard

/-- THE TIED CARD OF 'carlinglaw24.NameBack'. -/
def nameBackCard : Claim7 := { stood := { row := nameBackRow, standIns := [], harness := (true, "102a0a994bdb61c64e0adf3b70c2f955afdf6fbfd8f775bb5727e8a84dfda731"), looks := false }, kinds := [], alts := [], laidByText := true, laidKinds := [.data, .pinned], laidTests := true, laidLooks := .later }
def NameBackCardSaid : Prop := Claim7.holds Tryd.pinned (.plain (OpenSpec.ofChange nameBackSpec)) nameBackCard

/-- THE TIED CARD OF 'carlinglaw24.NameSplits'. -/
def nameSplitsCard : Claim7 := { stood := { row := nameSplitsRow, standIns := [], harness := (true, "102a0a994bdb61c64e0adf3b70c2f955afdf6fbfd8f775bb5727e8a84dfda731"), looks := false }, kinds := [], alts := [], laidByText := true, laidKinds := [.data, .pinned], laidTests := true, laidLooks := .later }
def NameSplitsCardSaid : Prop := Claim7.holds Tryd.pinned (.plain (OpenSpec.ofChange nameSplitsSpec)) nameSplitsCard

/-- THE TIED CARD OF 'carlinglaw24.NameLasts'. -/
def nameLastsCard : Claim7 := { stood := { row := nameLastsRow, standIns := [], harness := (true, "102a0a994bdb61c64e0adf3b70c2f955afdf6fbfd8f775bb5727e8a84dfda731"), looks := false }, kinds := [], alts := [], laidByText := true, laidKinds := [.data, .pinned], laidTests := true, laidLooks := .later }
def NameLastsCardSaid : Prop := Claim7.holds Tryd.pinned (.plain (OpenSpec.ofChange nameLastsSpec)) nameLastsCard

/-- THE SECOND FORM's CARD OF 'carlinglaw24.NameCleans'. -/
def nameCleansUptoCard : Claim7 := { stood := { row := nameCleansUptoRow, standIns := [], harness := (true, "102a0a994bdb61c64e0adf3b70c2f955afdf6fbfd8f775bb5727e8a84dfda731"), looks := false }, kinds := [], alts := [], laidByText := true, laidKinds := [.data, .pinned], laidTests := true, laidLooks := .later }
def NameCleansUptoCardSaid : Prop := Claim7.holds Tryd.pinned (.plain (OpenSpec.upto nameCleansSpec)) nameCleansUptoCard

/-- THE SECOND FORM's CARD OF 'carlinglaw24.NameBack'. -/
def nameBackUptoCard : Claim7 := { stood := { row := nameBackUptoRow, standIns := [], harness := (true, "102a0a994bdb61c64e0adf3b70c2f955afdf6fbfd8f775bb5727e8a84dfda731"), looks := false }, kinds := [], alts := [], laidByText := true, laidKinds := [.data, .pinned], laidTests := true, laidLooks := .later }
def NameBackUptoCardSaid : Prop := Claim7.holds Tryd.pinned (.plain (OpenSpec.upto nameBackSpec)) nameBackUptoCard

/-- THE SECOND FORM's CARD OF 'carlinglaw24.NameSplits'. -/
def nameSplitsUptoCard : Claim7 := { stood := { row := nameSplitsUptoRow, standIns := [], harness := (true, "102a0a994bdb61c64e0adf3b70c2f955afdf6fbfd8f775bb5727e8a84dfda731"), looks := false }, kinds := [], alts := [], laidByText := true, laidKinds := [.data, .pinned], laidTests := true, laidLooks := .later }
def NameSplitsUptoCardSaid : Prop := Claim7.holds Tryd.pinned (.plain (OpenSpec.upto nameSplitsSpec)) nameSplitsUptoCard

/-- THE SECOND FORM's CARD OF 'carlinglaw24.NameLasts'. -/
def nameLastsUptoCard : Claim7 := { stood := { row := nameLastsUptoRow, standIns := [], harness := (true, "102a0a994bdb61c64e0adf3b70c2f955afdf6fbfd8f775bb5727e8a84dfda731"), looks := false }, kinds := [], alts := [], laidByText := true, laidKinds := [.data, .pinned], laidTests := true, laidLooks := .later }
def NameLastsUptoCardSaid : Prop := Claim7.holds Tryd.pinned (.plain (OpenSpec.upto nameLastsSpec)) nameLastsUptoCard
end Rows
end Go.Proofs.YtkmdccbjgnedjaaDoor
