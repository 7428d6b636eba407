/-
  DERIVED. GIVEN WITH THE SEED: THE CARDS: each row of YtnmknbnidfmmoaaDoorRows.lean that lists a variable, with what it lists TIED to the program's text (the seventh form; the later family's looks); each row that meets fmt, with fmt's text TOLD by the authors' own Lean function (tested against real Go, not proved from fmt's source: count such statements apart). THE CARD IS WHAT COUNTS. Prove the row's statement (the work); the ties are given (YtnmknbnidfmmoaaDoorTie.lean); close each card by the builder's one call (the guide's Derived/Test/ToyasCard.lean, 'card_holds'). Laid BY PROGRAM, IN A SANDBOX (cutbox-door.mjs). By AI agents, Wed Nov 11 2026. No macro, syntax, notation, axiom, sorry.
-/
import Derived.Test.YtnmknbnidfmmoaaDoorRows
import GoSem.ClaimSeven
namespace Go.Proofs.YtnmknbnidfmmoaaDoor
namespace Rows

/-- THE TIED CARD OF 'headgatelaw23.TableLooks'. -/
def tableLooksCard : Claim7 := { stood := { row := tableLooksRow, standIns := [], harness := (true, "e936bfc5e4326b8d218be18837b0d190e51bfc49843dc546d88d15b1c1fce6d6"), looks := false }, kinds := [], alts := [], laidByText := true, laidKinds := [.data], laidTests := true, laidLooks := .later }
def TableLooksCardSaid : Prop := Claim7.holds Tryd.pinned (.plain (OpenSpec.ofChange tableLooksSpec)) tableLooksCard

/-- THE TIED CARD OF 'headgatelaw23.TableParts'. -/
def tablePartsCard : Claim7 := { stood := { row := tablePartsRow, standIns := [], harness := (true, "e936bfc5e4326b8d218be18837b0d190e51bfc49843dc546d88d15b1c1fce6d6"), looks := false }, kinds := [], alts := [], laidByText := true, laidKinds := [.data], laidTests := true, laidLooks := .later }
def TablePartsCardSaid : Prop := Claim7.holds Tryd.pinned (.plain (OpenSpec.ofChange tablePartsSpec)) tablePartsCard

/-- THE TIED CARD OF 'headgatelaw23.TablePuts'. -/
def tablePutsCard : Claim7 := { stood := { row := tablePutsRow, standIns := [], harness := (true, "e936bfc5e4326b8d218be18837b0d190e51bfc49843dc546d88d15b1c1fce6d6"), looks := false }, kinds := [], alts := [], laidByText := true, laidKinds := [.data], laidTests := true, laidLooks := .later }
def TablePutsCardSaid : Prop := Claim7.holds Tryd.pinned (.plain (OpenSpec.ofChange tablePutsSpec)) tablePutsCard

/-- THE TIED CARD OF 'headgatelaw23.TableBack'. -/
def tableBackCard : Claim7 := { stood := { row := tableBackRow, standIns := [], harness := (true, "e936bfc5e4326b8d218be18837b0d190e51bfc49843dc546d88d15b1c1fce6d6"), looks := false }, kinds := [], alts := [], laidByText := true, laidKinds := [.data], laidTests := true, laidLooks := .later }
def TableBackCardSaid : Prop := Claim7.holds Tryd.pinned (.plain (OpenSpec.ofChange tableBackSpec)) tableBackCard

/-- THE TIED CARD OF 'headgatelaw23.TableTrims'. -/
def tableTrimsCard : Claim7 := { stood := { row := tableTrimsRow, standIns := [], harness := (true, "e936bfc5e4326b8d218be18837b0d190e51bfc49843dc546d88d15b1c1fce6d6"), looks := false }, kinds := [], alts := [], laidByText := true, laidKinds := [.data], laidTests := true, laidLooks := .later }
def TableTrimsCardSaid : Prop := Claim7.holds Tryd.pinned (.plain (OpenSpec.ofChange tableTrimsSpec)) tableTrimsCard

/-- THE TIED CARD OF 'headgatelaw23.TableKnown'. -/
def tableKnownCard : Claim7 := { stood := { row := tableKnownRow, standIns := [], harness := (true, "e936bfc5e4326b8d218be18837b0d190e51bfc49843dc546d88d15b1c1fce6d6"), looks := false }, kinds := [], alts := [], laidByText := true, laidKinds := [.data], laidTests := true, laidLooks := .later }
def TableKnownCardSaid : Prop := Claim7.holds Tryd.pinned (.plain (OpenSpec.ofChange tableKnownSpec)) tableKnownCard

/-- THE SECOND FORM's CARD OF 'headgatelaw23.TableLooks'. -/
def tableLooksUptoCard : Claim7 := { stood := { row := tableLooksUptoRow, standIns := [], harness := (true, "e936bfc5e4326b8d218be18837b0d190e51bfc49843dc546d88d15b1c1fce6d6"), looks := false }, kinds := [], alts := [], laidByText := true, laidKinds := [.data], laidTests := true, laidLooks := .later }
def TableLooksUptoCardSaid : Prop := Claim7.holds Tryd.pinned (.plain (OpenSpec.upto tableLooksSpec)) tableLooksUptoCard

/-- THE SECOND FORM's CARD OF 'headgatelaw23.TableParts'. -/
def tablePartsUptoCard : Claim7 := { stood := { row := tablePartsUptoRow, standIns := [], harness := (true, "e936bfc5e4326b8d218be18837b0d190e51bfc49843dc546d88d15b1c1fce6d6"), looks := false }, kinds := [], alts := [], laidByText := true, laidKinds := [.data], laidTests := true, laidLooks := .later }
def TablePartsUptoCardSaid : Prop := Claim7.holds Tryd.pinned (.plain (OpenSpec.upto tablePartsSpec)) tablePartsUptoCard

/-- THE SECOND FORM's CARD OF 'headgatelaw23.TablePuts'. -/
def tablePutsUptoCard : Claim7 := { stood := { row := tablePutsUptoRow, standIns := [], harness := (true, "e936bfc5e4326b8d218be18837b0d190e51bfc49843dc546d88d15b1c1fce6d6"), looks := false }, kinds := [], alts := [], laidByText := true, laidKinds := [.data], laidTests := true, laidLooks := .later }
def TablePutsUptoCardSaid : Prop := Claim7.holds Tryd.pinned (.plain (OpenSpec.upto tablePutsSpec)) tablePutsUptoCard

/-- THE SECOND FORM's CARD OF 'headgatelaw23.TableBack'. -/
def tableBackUptoCard : Claim7 := { stood := { row := tableBackUptoRow, standIns := [], harness := (true, "e936bfc5e4326b8d218be18837b0d190e51bfc49843dc546d88d15b1c1fce6d6"), looks := false }, kinds := [], alts := [], laidByText := true, laidKinds := [.data], laidTests := true, laidLooks := .later }
def TableBackUptoCardSaid : Prop := Claim7.holds Tryd.pinned (.plain (OpenSpec.upto tableBackSpec)) tableBackUptoCard

/-- THE SECOND FORM's CARD OF 'headgatelaw23.TableTrims'. -/
def tableTrimsUptoCard : Claim7 := { stood := { row := tableTrimsUptoRow, standIns := [], harness := (true, "e936bfc5e4326b8d218be18837b0d190e51bfc49843dc546d88d15b1c1fce6d6"), looks := false }, kinds := [], alts := [], laidByText := true, laidKinds := [.data], laidTests := true, laidLooks := .later }
def TableTrimsUptoCardSaid : Prop := Claim7.holds Tryd.pinned (.plain (OpenSpec.upto tableTrimsSpec)) tableTrimsUptoCard

/-- THE SECOND FORM's CARD OF 'headgatelaw23.TableKnown'. -/
def tableKnownUptoCard : Claim7 := { stood := { row := tableKnownUptoRow, standIns := [], harness := (true, "e936bfc5e4326b8d218be18837b0d190e51bfc49843dc546d88d15b1c1fce6d6"), looks := false }, kinds := [], alts := [], laidByText := true, laidKinds := [.data], laidTests := true, laidLooks := .later }
def TableKnownUptoCardSaid : Prop := Claim7.holds Tryd.pinned (.plain (OpenSpec.upto tableKnownSpec)) tableKnownUptoCard
end Rows
end Go.Proofs.YtnmknbnidfmmoaaDoor
