/-
  DERIVED. GIVEN WITH THE SEED: THE CARDS: each row of YtbifecejaphcfaaDoorRows.lean that lists a variable, with what it lists TIED to the program's text (the seventh form; the later family's looks); each row that meets fmt, with fmt's text TOLD by the authors' own Lean function (tested against real Go, not proved from fmt's source: count such statements apart). THE CARD IS WHAT COUNTS. Prove the row's statement (the work); the ties are given (YtbifecejaphcfaaDoorTie.lean); close each card by the builder's one call (the guide's Derived/Test/ToyasCard.lean, 'card_holds'). Laid BY PROGRAM, IN A SANDBOX (cutbox-door.mjs). By AI agents, Wed Nov 11 2026. No macro, syntax, notation, axiom, sorry.
-/
import Derived.Test.YtbifecejaphcfaaDoorRows
import GoSem.ClaimSeven
namespace Go.Proofs.YtbifecejaphcfaaDoor
namespace Rows

/-- THE TIED CARD OF 'headgatelaw02.EntryWords'. -/
def entryWordsCard : Claim7 := { stood := { row := entryWordsRow, standIns := [], harness := (true, "872af4d4e8e0ad4039838bffc0061668ca864a82d8b13ec5580842ac91a341ac"), looks := false }, kinds := [], alts := [], laidByText := true, laidKinds := [.data, .data, .data, .data], laidTests := true, laidLooks := .later }
def EntryWordsCardSaid : Prop := Claim7.holds Tryd.pinned (.plain (OpenSpec.ofChange entryWordsSpec)) entryWordsCard

/-- THE TIED CARD OF 'headgatelaw02.EntryReads'. -/
def entryReadsCard : Claim7 := { stood := { row := entryReadsRow, standIns := [], harness := (true, "872af4d4e8e0ad4039838bffc0061668ca864a82d8b13ec5580842ac91a341ac"), looks := false }, kinds := [], alts := [], laidByText := true, laidKinds := [.data, .data, .data, .data], laidTests := true, laidLooks := .later }
def EntryReadsCardSaid : Prop := Claim7.holds Tryd.pinned (.plain (OpenSpec.ofChange entryReadsSpec)) entryReadsCard

/-- THE TIED CARD OF 'headgatelaw02.EntryChanges'. -/
def entryChangesCard : Claim7 := { stood := { row := entryChangesRow, standIns := [], harness := (true, "872af4d4e8e0ad4039838bffc0061668ca864a82d8b13ec5580842ac91a341ac"), looks := false }, kinds := [], alts := [], laidByText := true, laidKinds := [.data, .data, .data, .data], laidTests := true, laidLooks := .later }
def EntryChangesCardSaid : Prop := Claim7.holds Tryd.pinned (.plain (OpenSpec.ofChange entryChangesSpec)) entryChangesCard

/-- THE TIED CARD OF 'headgatelaw02.EntryParses'. -/
def entryParsesCard : Claim7 := { stood := { row := entryParsesRow, standIns := [], harness := (true, "872af4d4e8e0ad4039838bffc0061668ca864a82d8b13ec5580842ac91a341ac"), looks := false }, kinds := [], alts := [], laidByText := true, laidKinds := [.data, .data, .data, .data], laidTests := true, laidLooks := .later }
def EntryParsesCardSaid : Prop := Claim7.holds Tryd.pinned (.plain (OpenSpec.ofChange entryParsesSpec)) entryParsesCard

/-- THE TIED CARD OF 'headgatelaw02.EntryKnown'. -/
def entryKnownCard : Claim7 := { stood := { row := entryKnownRow, standIns := [], harness := (true, "872af4d4e8e0ad4039838bffc0061668ca864a82d8b13ec5580842ac91a341ac"), looks := false }, kinds := [], alts := [], laidByText := true, laidKinds := [.data, .data, .data, .data], laidTests := true, laidLooks := .later }
def EntryKnownCardSaid : Prop := Claim7.holds Tryd.pinned (.plain (OpenSpec.ofChange entryKnownSpec)) entryKnownCard

/-- THE TIED CARD OF 'headgatelaw02.EntryBack'. -/
def entryBackCard : Claim7 := { stood := { row := entryBackRow, standIns := [], harness := (true, "872af4d4e8e0ad4039838bffc0061668ca864a82d8b13ec5580842ac91a341ac"), looks := false }, kinds := [], alts := [], laidByText := true, laidKinds := [.data, .data, .data, .data], laidTests := true, laidLooks := .later }
def EntryBackCardSaid : Prop := Claim7.holds Tryd.pinned (.plain (OpenSpec.ofChange entryBackSpec)) entryBackCard

/-- THE TIED CARD OF 'headgatelaw02.EntryOnly'. -/
def entryOnlyCard : Claim7 := { stood := { row := entryOnlyRow, standIns := [], harness := (true, "872af4d4e8e0ad4039838bffc0061668ca864a82d8b13ec5580842ac91a341ac"), looks := false }, kinds := [], alts := [], laidByText := true, laidKinds := [.data, .data, .data, .data], laidTests := true, laidLooks := .later }
def EntryOnlyCardSaid : Prop := Claim7.holds Tryd.pinned (.plain (OpenSpec.ofChange entryOnlySpec)) entryOnlyCard

/-- THE TIED CARD OF 'headgatelaw02.EntryFlags'. -/
def entryFlagsCard : Claim7 := { stood := { row := entryFlagsRow, standIns := [], harness := (true, "872af4d4e8e0ad4039838bffc0061668ca864a82d8b13ec5580842ac91a341ac"), looks := false }, kinds := [], alts := [], laidByText := true, laidKinds := [.data, .data, .data, .data], laidTests := true, laidLooks := .later }
def EntryFlagsCardSaid : Prop := Claim7.holds Tryd.pinned (.plain (OpenSpec.ofChange entryFlagsSpec)) entryFlagsCard

/-- THE SECOND FORM's CARD OF 'headgatelaw02.EntryWords'. -/
def entryWordsUptoCard : Claim7 := { stood := { row := entryWordsUptoRow, standIns := [], harness := (true, "872af4d4e8e0ad4039838bffc0061668ca864a82d8b13ec5580842ac91a341ac"), looks := false }, kinds := [], alts := [], laidByText := true, laidKinds := [.data, .data, .data, .data], laidTests := true, laidLooks := .later }
def EntryWordsUptoCardSaid : Prop := Claim7.holds Tryd.pinned (.plain (OpenSpec.upto entryWordsSpec)) entryWordsUptoCard

/-- THE SECOND FORM's CARD OF 'headgatelaw02.EntryReads'. -/
def entryReadsUptoCard : Claim7 := { stood := { row := entryReadsUptoRow, standIns := [], harness := (true, "872af4d4e8e0ad4039838bffc0061668ca864a82d8b13ec5580842ac91a341ac"), looks := false }, kinds := [], alts := [], laidByText := true, laidKinds := [.data, .data, .data, .data], laidTests := true, laidLooks := .later }
def EntryReadsUptoCardSaid : Prop := Claim7.holds Tryd.pinned (.plain (OpenSpec.upto entryReadsSpec)) entryReadsUptoCard

/-- THE SECOND FORM's CARD OF 'headgatelaw02.EntryChanges'. -/
def entryChangesUptoCard : Claim7 := { stood := { row := entryChangesUptoRow, standIns := [], harness := (true, "872af4d4e8e0ad4039838bffc0061668ca864a82d8b13ec5580842ac91a341ac"), looks := false }, kinds := [], alts := [], laidByText := true, laidKinds := [.data, .data, .data, .data], laidTests := true, laidLooks := .later }
def EntryChangesUptoCardSaid : Prop := Claim7.holds Tryd.pinned (.plain (OpenSpec.upto entryChangesSpec)) entryChangesUptoCard

/-- THE SECOND FORM's CARD OF 'headgatelaw02.EntryParses'. -/
def entryParsesUptoCard : Claim7 := { stood := { row := entryParsesUptoRow, standIns := [], harness := (true, "872af4d4e8e0ad4039838bffc0061668ca864a82d8b13ec5580842ac91a341ac"), looks := false }, kinds := [], alts := [], laidByText := true, laidKinds := [.data, .data, .data, .data], laidTests := true, laidLooks := .later }
def EntryParsesUptoCardSaid : Prop := Claim7.holds Tryd.pinned (.plain (OpenSpec.upto entryParsesSpec)) entryParsesUptoCard

/-- THE SECOND FORM's CARD OF 'headgatelaw02.EntryKnown'. -/
def entryKnownUptoCard : Claim7 := { stood := { row := entryKnownUptoRow, standIns := [], harness := (true, "872af4d4e8e0ad4039838bffc0061668ca864a82d8b13ec5580842ac91a341ac"), looks := false }, kinds := [], alts := [], laidByText := true, laidKinds := [.data, .data, .data, .data], laidTests := true, laidLooks := .later }
def EntryKnownUptoCardSaid : Prop := Claim7.holds Tryd.pinned (.plain (OpenSpec.upto entryKnownSpec)) entryKnownUptoCard

/-- THE SECOND FORM's CARD OF 'headgatelaw02.EntryBack'. -/
def entryBackUptoCard : Claim7 := { stood := { row := entryBackUptoRow, standIns := [], harness := (true, "872af4d4e8e0ad4039838bffc0061668ca864a82d8b13ec5580842ac91a341ac"), looks := false }, kinds := [], alts := [], laidByText := true, laidKinds := [.data, .data, .data, .data], laidTests := true, laidLooks := .later }
def EntryBackUptoCardSaid : Prop := Claim7.holds Tryd.pinned (.plain (OpenSpec.upto entryBackSpec)) entryBackUptoCard

/-- THE SECOND FORM's CARD OF 'headgatelaw02.EntryOnly'. -/
def entryOnlyUptoCard : Claim7 := { stood := { row := entryOnlyUptoRow, standIns := [], harness := (true, "872af4d4e8e0ad4039838bffc0061668ca864a82d8b13ec5580842ac91a341ac"), looks := false }, kinds := [], alts := [], laidByText := true, laidKinds := [.data, .data, .data, .data], laidTests := true, laidLooks := .later }
def EntryOnlyUptoCardSaid : Prop := Claim7.holds Tryd.pinned (.plain (OpenSpec.upto entryOnlySpec)) entryOnlyUptoCard

/-- THE SECOND FORM's CARD OF 'headgatelaw02.EntryFlags'. -/
def entryFlagsUptoCard : Claim7 := { stood := { row := entryFlagsUptoRow, standIns := [], harness := (true, "872af4d4e8e0ad4039838bffc0061668ca864a82d8b13ec5580842ac91a341ac"), looks := false }, kinds := [], alts := [], laidByText := true, laidKinds := [.data, .data, .data, .data], laidTests := true, laidLooks := .later }
def EntryFlagsUptoCardSaid : Prop := Claim7.holds Tryd.pinned (.plain (OpenSpec.upto entryFlagsSpec)) entryFlagsUptoCard
end Rows
end Go.Proofs.YtbifecejaphcfaaDoor
