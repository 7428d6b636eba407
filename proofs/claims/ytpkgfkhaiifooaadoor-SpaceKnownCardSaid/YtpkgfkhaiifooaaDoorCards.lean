/-
  DERIVED. GIVEN WITH THE SEED: THE CARDS: each row of YtpkgfkhaiifooaaDoorRows.lean that lists a variable, with what it lists TIED to the program's text (the seventh form; the later family's looks); each row that meets fmt, with fmt's text TOLD by the authors' own Lean function (tested against real Go, not proved from fmt's source: count such statements apart). THE CARD IS WHAT COUNTS. Prove the row's statement (the work); the ties are given (YtpkgfkhaiifooaaDoorTie.lean); close each card by the builder's one call (the guide's Derived/Test/ToyasCard.lean, 'card_holds'). Laid BY PROGRAM, IN A SANDBOX (cutbox-door.mjs). By AI agents, Wed Nov 11 2026. No macro, syntax, notation, axiom, sorry.
-/
import Derived.Test.YtpkgfkhaiifooaaDoorRows
import GoSem.ClaimSeven
namespace Go.Proofs.YtpkgfkhaiifooaaDoor
namespace Rows

/-- THE TIED CARD OF 'headgatelaw27.SpaceSides'. -/
def spaceSidesCard : Claim7 := { stood := { row := spaceSidesRow, standIns := [], harness := (true, "5d35fa9cebeef275c2dd7bd4adca16ae484cd4dd12cbe4f3acdc5d5ab1851852"), looks := false }, kinds := [], alts := [], laidByText := true, laidKinds := [.data], laidTests := true, laidLooks := .later }
def SpaceSidesCardSaid : Prop := Claim7.holds Tryd.pinned (.plain (OpenSpec.ofChange spaceSidesSpec)) spaceSidesCard

/-- THE TIED CARD OF 'headgatelaw27.SpaceSets'. -/
def spaceSetsCard : Claim7 := { stood := { row := spaceSetsRow, standIns := [], harness := (true, "5d35fa9cebeef275c2dd7bd4adca16ae484cd4dd12cbe4f3acdc5d5ab1851852"), looks := false }, kinds := [], alts := [], laidByText := true, laidKinds := [.data], laidTests := true, laidLooks := .later }
def SpaceSetsCardSaid : Prop := Claim7.holds Tryd.pinned (.plain (OpenSpec.ofChange spaceSetsSpec)) spaceSetsCard

/-- THE TIED CARD OF 'headgatelaw27.SpaceFinds'. -/
def spaceFindsCard : Claim7 := { stood := { row := spaceFindsRow, standIns := [], harness := (true, "5d35fa9cebeef275c2dd7bd4adca16ae484cd4dd12cbe4f3acdc5d5ab1851852"), looks := false }, kinds := [], alts := [], laidByText := true, laidKinds := [.data], laidTests := true, laidLooks := .later }
def SpaceFindsCardSaid : Prop := Claim7.holds Tryd.pinned (.plain (OpenSpec.ofChange spaceFindsSpec)) spaceFindsCard

/-- THE TIED CARD OF 'headgatelaw27.SpaceMoves'. -/
def spaceMovesCard : Claim7 := { stood := { row := spaceMovesRow, standIns := [], harness := (true, "5d35fa9cebeef275c2dd7bd4adca16ae484cd4dd12cbe4f3acdc5d5ab1851852"), looks := false }, kinds := [], alts := [], laidByText := true, laidKinds := [.data], laidTests := true, laidLooks := .later }
def SpaceMovesCardSaid : Prop := Claim7.holds Tryd.pinned (.plain (OpenSpec.ofChange spaceMovesSpec)) spaceMovesCard

/-- THE TIED CARD OF 'headgatelaw27.SpaceLoses'. -/
def spaceLosesCard : Claim7 := { stood := { row := spaceLosesRow, standIns := [], harness := (true, "5d35fa9cebeef275c2dd7bd4adca16ae484cd4dd12cbe4f3acdc5d5ab1851852"), looks := false }, kinds := [], alts := [], laidByText := true, laidKinds := [.data], laidTests := true, laidLooks := .later }
def SpaceLosesCardSaid : Prop := Claim7.holds Tryd.pinned (.plain (OpenSpec.ofChange spaceLosesSpec)) spaceLosesCard

/-- THE TIED CARD OF 'headgatelaw27.SpaceKnown'. -/
def spaceKnownCard : Claim7 := { stood := { row := spaceKnownRow, standIns := [], harness := (true, "5d35fa9cebeef275c2dd7bd4adca16ae484cd4dd12cbe4f3acdc5d5ab1851852"), looks := false }, kinds := [], alts := [], laidByText := true, laidKinds := [.data], laidTests := true, laidLooks := .later }
def SpaceKnownCardSaid : Prop := Claim7.holds Tryd.pinned (.plain (OpenSpec.ofChange spaceKnownSpec)) spaceKnownCard

/-- THE SECOND FORM's CARD OF 'headgatelaw27.SpaceSides'. -/
def spaceSidesUptoCard : Claim7 := { stood := { row := spaceSidesUptoRow, standIns := [], harness := (true, "5d35fa9cebeef275c2dd7bd4adca16ae484cd4dd12cbe4f3acdc5d5ab1851852"), looks := false }, kinds := [], alts := [], laidByText := true, laidKinds := [.data], laidTests := true, laidLooks := .later }
def SpaceSidesUptoCardSaid : Prop := Claim7.holds Tryd.pinned (.plain (OpenSpec.upto spaceSidesSpec)) spaceSidesUptoCard

/-- THE SECOND FORM's CARD OF 'headgatelaw27.SpaceSets'. -/
def spaceSetsUptoCard : Claim7 := { stood := { row := spaceSetsUptoRow, standIns := [], harness := (true, "5d35fa9cebeef275c2dd7bd4adca16ae484cd4dd12cbe4f3acdc5d5ab1851852"), looks := false }, kinds := [], alts := [], laidByText := true, laidKinds := [.data], laidTests := true, laidLooks := .later }
def SpaceSetsUptoCardSaid : Prop := Claim7.holds Tryd.pinned (.plain (OpenSpec.upto spaceSetsSpec)) spaceSetsUptoCard

/-- THE SECOND FORM's CARD OF 'headgatelaw27.SpaceFinds'. -/
def spaceFindsUptoCard : Claim7 := { stood := { row := spaceFindsUptoRow, standIns := [], harness := (true, "5d35fa9cebeef275c2dd7bd4adca16ae484cd4dd12cbe4f3acdc5d5ab1851852"), looks := false }, kinds := [], alts := [], laidByText := true, laidKinds := [.data], laidTests := true, laidLooks := .later }
def SpaceFindsUptoCardSaid : Prop := Claim7.holds Tryd.pinned (.plain (OpenSpec.upto spaceFindsSpec)) spaceFindsUptoCard

/-- THE SECOND FORM's CARD OF 'headgatelaw27.SpaceMoves'. -/
def spaceMovesUptoCard : Claim7 := { stood := { row := spaceMovesUptoRow, standIns := [], harness := (true, "5d35fa9cebeef275c2dd7bd4adca16ae484cd4dd12cbe4f3acdc5d5ab1851852"), looks := false }, kinds := [], alts := [], laidByText := true, laidKinds := [.data], laidTests := true, laidLooks := .later }
def SpaceMovesUptoCardSaid : Prop := Claim7.holds Tryd.pinned (.plain (OpenSpec.upto spaceMovesSpec)) spaceMovesUptoCard

/-- THE SECOND FORM's CARD OF 'headgatelaw27.SpaceLoses'. -/
def spaceLosesUptoCard : Claim7 := { stood := { row := spaceLosesUptoRow, standIns := [], harness := (true, "5d35fa9cebeef275c2dd7bd4adca16ae484cd4dd12cbe4f3acdc5d5ab1851852"), looks := false }, kinds := [], alts := [], laidByText := true, laidKinds := [.data], laidTests := true, laidLooks := .later }
def SpaceLosesUptoCardSaid : Prop := Claim7.holds Tryd.pinned (.plain (OpenSpec.upto spaceLosesSpec)) spaceLosesUptoCard

/-- THE SECOND FORM's CARD OF 'headgatelaw27.SpaceKnown'. -/
def spaceKnownUptoCard : Claim7 := { stood := { row := spaceKnownUptoRow, standIns := [], harness := (true, "5d35fa9cebeef275c2dd7bd4adca16ae484cd4dd12cbe4f3acdc5d5ab1851852"), looks := false }, kinds := [], alts := [], laidByText := true, laidKinds := [.data], laidTests := true, laidLooks := .later }
def SpaceKnownUptoCardSaid : Prop := Claim7.holds Tryd.pinned (.plain (OpenSpec.upto spaceKnownSpec)) spaceKnownUptoCard
end Rows
end Go.Proofs.YtpkgfkhaiifooaaDoor
