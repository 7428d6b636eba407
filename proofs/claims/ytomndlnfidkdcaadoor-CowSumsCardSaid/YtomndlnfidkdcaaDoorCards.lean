/-
  DERIVED. GIVEN WITH THE SEED: THE CARDS: each row of YtomndlnfidkdcaaDoorRows.lean that lists a variable, with what it lists TIED to the program's text (the seventh form; the later family's looks); each row that meets fmt, with fmt's text TOLD by the authors' own Lean function (tested against real Go, not proved from fmt's source: count such statements apart). THE CARD IS WHAT COUNTS. Prove the row's statement (the work); the ties are given (YtomndlnfidkdcaaDoorTie.lean); close each card by the builder's one call (the guide's Derived/Test/ToyasCard.lean, 'card_holds'). Laid BY PROGRAM, IN A SANDBOX (cutbox-door.mjs). By AI agents, Wed Nov 11 2026. No macro, syntax, notation, axiom, sorry.
-/
import Derived.Test.YtomndlnfidkdcaaDoorRows
import GoSem.ClaimSeven
namespace Go.Proofs.YtomndlnfidkdcaaDoor
namespace Rows

/-- THE TIED CARD OF 'headgatelaw26.CowChanges'. -/
def cowChangesCard : Claim7 := { stood := { row := cowChangesRow, standIns := [], harness := (true, "f42f3b0f252efed00fe1d74762932c0d2aef8a4a23ab51af5f4bae6f4ab8476f"), looks := false }, kinds := [], alts := [], laidByText := true, laidKinds := [.data], laidTests := true, laidLooks := .later }
def CowChangesCardSaid : Prop := Claim7.holds Tryd.pinned (.plain (OpenSpec.ofChange cowChangesSpec)) cowChangesCard

/-- THE TIED CARD OF 'headgatelaw26.CowLooks'. -/
def cowLooksCard : Claim7 := { stood := { row := cowLooksRow, standIns := [], harness := (true, "f42f3b0f252efed00fe1d74762932c0d2aef8a4a23ab51af5f4bae6f4ab8476f"), looks := false }, kinds := [], alts := [], laidByText := true, laidKinds := [.data], laidTests := true, laidLooks := .later }
def CowLooksCardSaid : Prop := Claim7.holds Tryd.pinned (.plain (OpenSpec.ofChange cowLooksSpec)) cowLooksCard

/-- THE TIED CARD OF 'headgatelaw26.CowKnown'. -/
def cowKnownCard : Claim7 := { stood := { row := cowKnownRow, standIns := [], harness := (true, "f42f3b0f252efed00fe1d74762932c0d2aef8a4a23ab51af5f4bae6f4ab8476f"), looks := false }, kinds := [], alts := [], laidByText := true, laidKinds := [.data], laidTests := true, laidLooks := .later }
def CowKnownCardSaid : Prop := Claim7.holds Tryd.pinned (.plain (OpenSpec.ofChange cowKnownSpec)) cowKnownCard

/-- THE TIED CARD OF 'headgatelaw26.CowSums'. -/
def cowSumsCard : Claim7 := { stood := { row := cowSumsRow, standIns := [], harness := (true, "f42f3b0f252efed00fe1d74762932c0d2aef8a4a23ab51af5f4bae6f4ab8476f"), looks := false }, kinds := [], alts := [], laidByText := true, laidKinds := [.data], laidTests := true, laidLooks := .later }
def CowSumsCardSaid : Prop := Claim7.holds Tryd.pinned (.plain (OpenSpec.ofChange cowSumsSpec)) cowSumsCard

/-- THE TIED CARD OF 'headgatelaw26.CowForks'. -/
def cowForksCard : Claim7 := { stood := { row := cowForksRow, standIns := [], harness := (true, "f42f3b0f252efed00fe1d74762932c0d2aef8a4a23ab51af5f4bae6f4ab8476f"), looks := false }, kinds := [], alts := [], laidByText := true, laidKinds := [.data], laidTests := true, laidLooks := .later }
def CowForksCardSaid : Prop := Claim7.holds Tryd.pinned (.plain (OpenSpec.ofChange cowForksSpec)) cowForksCard

/-- THE TIED CARD OF 'headgatelaw26.CowLast'. -/
def cowLastCard : Claim7 := { stood := { row := cowLastRow, standIns := [], harness := (true, "f42f3b0f252efed00fe1d74762932c0d2aef8a4a23ab51af5f4bae6f4ab8476f"), looks := false }, kinds := [], alts := [], laidByText := true, laidKinds := [.data], laidTests := true, laidLooks := .later }
def CowLastCardSaid : Prop := Claim7.holds Tryd.pinned (.plain (OpenSpec.ofChange cowLastSpec)) cowLastCard

/-- THE TIED CARD OF 'headgatelaw26.CowOut'. -/
def cowOutCard : Claim7 := { stood := { row := cowOutRow, standIns := [], harness := (true, "f42f3b0f252efed00fe1d74762932c0d2aef8a4a23ab51af5f4bae6f4ab8476f"), looks := false }, kinds := [], alts := [], laidByText := true, laidKinds := [.data], laidTests := true, laidLooks := .later }
def CowOutCardSaid : Prop := Claim7.holds Tryd.pinned (.plain (OpenSpec.ofChange cowOutSpec)) cowOutCard

/-- THE SECOND FORM's CARD OF 'headgatelaw26.CowChanges'. -/
def cowChangesUptoCard : Claim7 := { stood := { row := cowChangesUptoRow, standIns := [], harness := (true, "f42f3b0f252efed00fe1d74762932c0d2aef8a4a23ab51af5f4bae6f4ab8476f"), looks := false }, kinds := [], alts := [], laidByText := true, laidKinds := [.data], laidTests := true, laidLooks := .later }
def CowChangesUptoCardSaid : Prop := Claim7.holds Tryd.pinned (.plain (OpenSpec.upto cowChangesSpec)) cowChangesUptoCard

/-- THE SECOND FORM's CARD OF 'headgatelaw26.CowLooks'. -/
def cowLooksUptoCard : Claim7 := { stood := { row := cowLooksUptoRow, standIns := [], harness := (true, "f42f3b0f252efed00fe1d74762932c0d2aef8a4a23ab51af5f4bae6f4ab8476f"), looks := false }, kinds := [], alts := [], laidByText := true, laidKinds := [.data], laidTests := true, laidLooks := .later }
def CowLooksUptoCardSaid : Prop := Claim7.holds Tryd.pinned (.plain (OpenSpec.upto cowLooksSpec)) cowLooksUptoCard

/-- THE SECOND FORM's CARD OF 'headgatelaw26.CowKnown'. -/
def cowKnownUptoCard : Claim7 := { stood := { row := cowKnownUptoRow, standIns := [], harness := (true, "f42f3b0f252efed00fe1d74762932c0d2aef8a4a23ab51af5f4bae6f4ab8476f"), looks := false }, kinds := [], alts := [], laidByText := true, laidKinds := [.data], laidTests := true, laidLooks := .later }
def CowKnownUptoCardSaid : Prop := Claim7.holds Tryd.pinned (.plain (OpenSpec.upto cowKnownSpec)) cowKnownUptoCard

/-- THE SECOND FORM's CARD OF 'headgatelaw26.CowSums'. -/
def cowSumsUptoCard : Claim7 := { stood := { row := cowSumsUptoRow, standIns := [], harness := (true, "f42f3b0f252efed00fe1d74762932c0d2aef8a4a23ab51af5f4bae6f4ab8476f"), looks := false }, kinds := [], alts := [], laidByText := true, laidKinds := [.data], laidTests := true, laidLooks := .later }
def CowSumsUptoCardSaid : Prop := Claim7.holds Tryd.pinned (.plain (OpenSpec.upto cowSumsSpec)) cowSumsUptoCard

/-- THE SECOND FORM's CARD OF 'headgatelaw26.CowForks'. -/
def cowForksUptoCard : Claim7 := { stood := { row := cowForksUptoRow, standIns := [], harness := (true, "f42f3b0f252efed00fe1d74762932c0d2aef8a4a23ab51af5f4bae6f4ab8476f"), looks := false }, kinds := [], alts := [], laidByText := true, laidKinds := [.data], laidTests := true, laidLooks := .later }
def CowForksUptoCardSaid : Prop := Claim7.holds Tryd.pinned (.plain (OpenSpec.upto cowForksSpec)) cowForksUptoCard

/-- THE SECOND FORM's CARD OF 'headgatelaw26.CowLast'. -/
def cowLastUptoCard : Claim7 := { stood := { row := cowLastUptoRow, standIns := [], harness := (true, "f42f3b0f252efed00fe1d74762932c0d2aef8a4a23ab51af5f4bae6f4ab8476f"), looks := false }, kinds := [], alts := [], laidByText := true, laidKinds := [.data], laidTests := true, laidLooks := .later }
def CowLastUptoCardSaid : Prop := Claim7.holds Tryd.pinned (.plain (OpenSpec.upto cowLastSpec)) cowLastUptoCard

/-- THE SECOND FORM's CARD OF 'headgatelaw26.CowOut'. -/
def cowOutUptoCard : Claim7 := { stood := { row := cowOutUptoRow, standIns := [], harness := (true, "f42f3b0f252efed00fe1d74762932c0d2aef8a4a23ab51af5f4bae6f4ab8476f"), looks := false }, kinds := [], alts := [], laidByText := true, laidKinds := [.data], laidTests := true, laidLooks := .later }
def CowOutUptoCardSaid : Prop := Claim7.holds Tryd.pinned (.plain (OpenSpec.upto cowOutSpec)) cowOutUptoCard
end Rows
end Go.Proofs.YtomndlnfidkdcaaDoor
