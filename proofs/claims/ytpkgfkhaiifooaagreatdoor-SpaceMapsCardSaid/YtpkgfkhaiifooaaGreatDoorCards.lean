/-
  DERIVED. GIVEN WITH THE SEED: THE CARDS: each row of YtpkgfkhaiifooaaGreatDoorRows.lean that lists a variable, with what it lists TIED to the program's text (the seventh form; the later family's looks); each row that meets fmt, with fmt's text TOLD by the authors' own Lean function (tested against real Go, not proved from fmt's source: count such statements apart). THE CARD IS WHAT COUNTS. Prove the row's statement (the work); the ties are given (YtpkgfkhaiifooaaGreatDoorTie.lean); close each card by the builder's one call (the guide's Derived/Test/ToyasCard.lean, 'card_holds'). Laid BY PROGRAM, IN A SANDBOX (cutbox-door.mjs). By AI agents, Wed Nov 11 2026. No macro, syntax, notation, axiom, sorry.
-/
import Derived.Test.YtpkgfkhaiifooaaGreatDoorRows
import GoSem.ClaimSeven
namespace Go.Proofs.YtpkgfkhaiifooaaGreatDoor
namespace Rows

/-- THE TIED CARD OF 'headgatelaw27.SpaceMaps'. -/
def spaceMapsCard : Claim7 := { stood := { row := spaceMapsRow, standIns := [], harness := (true, "ef9a5cc2ae0ce01700a74bce861495ff623c4845751b1abfb3b175f645c4f6df"), looks := false }, kinds := [], alts := [], laidByText := true, laidKinds := [.data], laidTests := true, laidLooks := .later }
def SpaceMapsCardSaid : Prop := Claim7.holds Tryz.pinned (.plain (OpenSpec.ofChange spaceMapsSpec)) spaceMapsCard

/-- THE SECOND FORM's CARD OF 'headgatelaw27.SpaceMaps'. -/
def spaceMapsUptoCard : Claim7 := { stood := { row := spaceMapsUptoRow, standIns := [], harness := (true, "ef9a5cc2ae0ce01700a74bce861495ff623c4845751b1abfb3b175f645c4f6df"), looks := false }, kinds := [], alts := [], laidByText := true, laidKinds := [.data], laidTests := true, laidLooks := .later }
def SpaceMapsUptoCardSaid : Prop := Claim7.holds Tryz.pinned (.plain (OpenSpec.upto spaceMapsSpec)) spaceMapsUptoCard
end Rows
end Go.Proofs.YtpkgfkhaiifooaaGreatDoor
