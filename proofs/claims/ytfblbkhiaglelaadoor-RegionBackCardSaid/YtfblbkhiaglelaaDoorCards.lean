/-
  DERIVED. GIVEN WITH THE SEED: THE CARDS: each row of YtfblbkhiaglelaaDoorRows.lean that lists a variable, with what it lists TIED to the program's text (the seventh form; the later family's looks); each row that meets fmt, with fmt's text TOLD by the authors' own Lean function (tested against real Go, not proved from fmt's source: count such statements apart). THE CARD IS WHAT COUNTS. Prove the row's statement (the work); the ties are given (YtfblbkhiaglelaaDoorTie.lean); close each card by the builder's one call (the guide's Derived/Test/ToyasCard.lean, 'card_holds'). Laid BY PROGRAM, IN A SANDBOX (cutbox-door.mjs). By AI agents, Wed Nov 11 2026. No macro, syntax, notation, axiom, sorry.
-/
import Derived.Test.YtfblbkhiaglelaaDoorRows
import GoSem.ClaimSeven
namespace Go.Proofs.YtfblbkhiaglelaaDoor
namespace Rows

/-- THE TIED CARD OF 'headgatelaw24.RegionLooks'. -/
def regionLooksCard : Claim7 := { stood := { row := regionLooksRow, standIns := [], harness := (true, "7a36bff13a986164ab3927cec774871335546154cea69231c1d903f4274d4aeb"), looks := false }, kinds := [], alts := [], laidByText := true, laidKinds := [.data, .data, .data], laidTests := true, laidLooks := .later }
def RegionLooksCardSaid : Prop := Claim7.holds Tryd.pinned (.plain (OpenSpec.ofChange regionLooksSpec)) regionLooksCard

/-- THE TIED CARD OF 'headgatelaw24.RegionBack'. -/
def regionBackCard : Claim7 := { stood := { row := regionBackRow, standIns := [], harness := (true, "7a36bff13a986164ab3927cec774871335546154cea69231c1d903f4274d4aeb"), looks := false }, kinds := [], alts := [], laidByText := true, laidKinds := [.data, .data, .data], laidTests := true, laidLooks := .later }
def RegionBackCardSaid : Prop := Claim7.holds Tryd.pinned (.plain (OpenSpec.ofChange regionBackSpec)) regionBackCard

/-- THE SECOND FORM's CARD OF 'headgatelaw24.RegionLooks'. -/
def regionLooksUptoCard : Claim7 := { stood := { row := regionLooksUptoRow, standIns := [], harness := (true, "7a36bff13a986164ab3927cec774871335546154cea69231c1d903f4274d4aeb"), looks := false }, kinds := [], alts := [], laidByText := true, laidKinds := [.data, .data, .data], laidTests := true, laidLooks := .later }
def RegionLooksUptoCardSaid : Prop := Claim7.holds Tryd.pinned (.plain (OpenSpec.upto regionLooksSpec)) regionLooksUptoCard

/-- THE SECOND FORM's CARD OF 'headgatelaw24.RegionBack'. -/
def regionBackUptoCard : Claim7 := { stood := { row := regionBackUptoRow, standIns := [], harness := (true, "7a36bff13a986164ab3927cec774871335546154cea69231c1d903f4274d4aeb"), looks := false }, kinds := [], alts := [], laidByText := true, laidKinds := [.data, .data, .data], laidTests := true, laidLooks := .later }
def RegionBackUptoCardSaid : Prop := Claim7.holds Tryd.pinned (.plain (OpenSpec.upto regionBackSpec)) regionBackUptoCard
end Rows
end Go.Proofs.YtfblbkhiaglelaaDoor
