/-
  DERIVED. GIVEN WITH THE SEED: THE CARDS: each row of YtmaebbbaooodaaaDoorRows.lean that lists a variable, with what it lists TIED to the program's text (the seventh form; the later family's looks); each row that meets fmt, with fmt's text TOLD by the authors' own Lean function (tested against real Go, not proved from fmt's source: count such statements apart). THE CARD IS WHAT COUNTS. Prove the row's statement (the work); the ties are given (YtmaebbbaooodaaaDoorTie.lean); close each card by the builder's one call (the guide's Derived/Test/ToyasCard.lean, 'card_holds'). Laid BY PROGRAM, IN A SANDBOX (cutbox-door.mjs). By AI agents, Wed Nov 11 2026. No macro, syntax, notation, axiom, sorry.
-/
import Derived.Test.YtmaebbbaooodaaaDoorRows
import GoSem.ClaimSeven
namespace Go.Proofs.YtmaebbbaooodaaaDoor
namespace Rows

/-- THE TIED CARD OF 'headgatelaw03.AddrTexts'. -/
def addrTextsCard : Claim7 := { stood := { row := addrTextsRow, standIns := [], harness := (true, "42e7e65c64dbe15ecca31ceb4f6aa9abf8b1399b7924728978e66b47cf3dc414"), looks := false }, kinds := [], alts := [], laidByText := true, laidKinds := [.data, .data, .data], laidTests := true, laidLooks := .later }
def AddrTextsCardSaid : Prop := Claim7.holds Tryd.pinned (.plain (OpenSpec.ofChange addrTextsSpec)) addrTextsCard

/-- THE TIED CARD OF 'headgatelaw03.AddrSingle'. -/
def addrSingleCard : Claim7 := { stood := { row := addrSingleRow, standIns := [], harness := (true, "42e7e65c64dbe15ecca31ceb4f6aa9abf8b1399b7924728978e66b47cf3dc414"), looks := false }, kinds := [], alts := [], laidByText := true, laidKinds := [.data, .data, .data], laidTests := true, laidLooks := .later }
def AddrSingleCardSaid : Prop := Claim7.holds Tryd.pinned (.plain (OpenSpec.ofChange addrSingleSpec)) addrSingleCard

/-- THE TIED CARD OF 'headgatelaw03.AddrKnown'. -/
def addrKnownCard : Claim7 := { stood := { row := addrKnownRow, standIns := [], harness := (true, "42e7e65c64dbe15ecca31ceb4f6aa9abf8b1399b7924728978e66b47cf3dc414"), looks := false }, kinds := [], alts := [], laidByText := true, laidKinds := [.data, .data, .data], laidTests := true, laidLooks := .later }
def AddrKnownCardSaid : Prop := Claim7.holds Tryd.pinned (.plain (OpenSpec.ofChange addrKnownSpec)) addrKnownCard

/-- THE SECOND FORM's CARD OF 'headgatelaw03.AddrTexts'. -/
def addrTextsUptoCard : Claim7 := { stood := { row := addrTextsUptoRow, standIns := [], harness := (true, "42e7e65c64dbe15ecca31ceb4f6aa9abf8b1399b7924728978e66b47cf3dc414"), looks := false }, kinds := [], alts := [], laidByText := true, laidKinds := [.data, .data, .data], laidTests := true, laidLooks := .later }
def AddrTextsUptoCardSaid : Prop := Claim7.holds Tryd.pinned (.plain (OpenSpec.upto addrTextsSpec)) addrTextsUptoCard

/-- THE SECOND FORM's CARD OF 'headgatelaw03.AddrSingle'. -/
def addrSingleUptoCard : Claim7 := { stood := { row := addrSingleUptoRow, standIns := [], harness := (true, "42e7e65c64dbe15ecca31ceb4f6aa9abf8b1399b7924728978e66b47cf3dc414"), looks := false }, kinds := [], alts := [], laidByText := true, laidKinds := [.data, .data, .data], laidTests := true, laidLooks := .later }
def AddrSingleUptoCardSaid : Prop := Claim7.holds Tryd.pinned (.plain (OpenSpec.upto addrSingleSpec)) addrSingleUptoCard

/-- THE SECOND FORM's CARD OF 'headgatelaw03.AddrKnown'. -/
def addrKnownUptoCard : Claim7 := { stood := { row := addrKnownUptoRow, standIns := [], harness := (true, "42e7e65c64dbe15ecca31ceb4f6aa9abf8b1399b7924728978e66b47cf3dc414"), looks := false }, kinds := [], alts := [], laidByText := true, laidKinds := [.data, .data, .data], laidTests := true, laidLooks := .later }
def AddrKnownUptoCardSaid : Prop := Claim7.holds Tryd.pinned (.plain (OpenSpec.upto addrKnownSpec)) addrKnownUptoCard
end Rows
end Go.Proofs.YtmaebbbaooodaaaDoor
