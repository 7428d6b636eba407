/-
  DERIVED. GIVEN WITH THE SEED: THE CARDS: each row of YtihbdndigfnhkaaDoorRows.lean that lists a variable, with what it lists TIED to the program's text (the seventh form; the later family's looks); each row that meets fmt, with fmt's text TOLD by the authors' own Lean function (tested against real Go, not proved from fmt's source: count such statements apart). THE CARD IS WHAT COUNTS. Prove the row's statement (the work); the ties are given (YtihbdndigfnhkaaDoorTie.lean); close each card by the builder's one call (the guide's Derived/Test/ToyasCard.lean, 'card_holds'). Laid BY PROGRAM, IN A SANDBOX (cutbox-door.mjs). By AI agents, Wed Nov 11 2026. No macro, syntax, notation, axiom, sorry.
-/
import Derived.Test.YtihbdndigfnhkaaDoorRows
import GoSem.ClaimSeven
namespace Go.Proofs.YtihbdndigfnhkaaDoor
namespace Rows

/-- THE TIED CARD OF 'headgatelaw01.BitmapPuts'. -/
def bitmapPutsCard : Claim7 := { stood := { row := bitmapPutsRow, standIns := [], harness := (true, "40d2268266f8658f2f534559b4d76744195f97fa8f39c0e4f00d9718971eabbd"), looks := false }, kinds := [], alts := [], laidByText := true, laidKinds := [.data], laidTests := true, laidLooks := .later }
def BitmapPutsCardSaid : Prop := Claim7.holds Tryd.pinned (.plain (OpenSpec.ofChange bitmapPutsSpec)) bitmapPutsCard

/-- THE TIED CARD OF 'headgatelaw01.BitmapChecks'. -/
def bitmapChecksCard : Claim7 := { stood := { row := bitmapChecksRow, standIns := [], harness := (true, "40d2268266f8658f2f534559b4d76744195f97fa8f39c0e4f00d9718971eabbd"), looks := false }, kinds := [], alts := [], laidByText := true, laidKinds := [.data], laidTests := true, laidLooks := .later }
def BitmapChecksCardSaid : Prop := Claim7.holds Tryd.pinned (.plain (OpenSpec.ofChange bitmapChecksSpec)) bitmapChecksCard

/-- THE TIED CARD OF 'headgatelaw01.BitmapCombines'. -/
def bitmapCombinesCard : Claim7 := { stood := { row := bitmapCombinesRow, standIns := [], harness := (true, "40d2268266f8658f2f534559b4d76744195f97fa8f39c0e4f00d9718971eabbd"), looks := false }, kinds := [], alts := [], laidByText := true, laidKinds := [.data], laidTests := true, laidLooks := .later }
def BitmapCombinesCardSaid : Prop := Claim7.holds Tryd.pinned (.plain (OpenSpec.ofChange bitmapCombinesSpec)) bitmapCombinesCard

/-- THE TIED CARD OF 'headgatelaw01.BitmapTexts'. -/
def bitmapTextsCard : Claim7 := { stood := { row := bitmapTextsRow, standIns := [], harness := (true, "40d2268266f8658f2f534559b4d76744195f97fa8f39c0e4f00d9718971eabbd"), looks := false }, kinds := [], alts := [], laidByText := true, laidKinds := [.data, .data, .data], laidTests := true, laidLooks := .later }
def BitmapTextsCardSaid : Prop := Claim7.holds Tryd.pinned (.plain (OpenSpec.ofChange bitmapTextsSpec)) bitmapTextsCard

/-- THE TIED CARD OF 'headgatelaw01.BitmapKnown'. -/
def bitmapKnownCard : Claim7 := { stood := { row := bitmapKnownRow, standIns := [], harness := (true, "40d2268266f8658f2f534559b4d76744195f97fa8f39c0e4f00d9718971eabbd"), looks := false }, kinds := [], alts := [], laidByText := true, laidKinds := [.data, .data, .data], laidTests := true, laidLooks := .later }
def BitmapKnownCardSaid : Prop := Claim7.holds Tryd.pinned (.plain (OpenSpec.ofChange bitmapKnownSpec)) bitmapKnownCard

/-- THE TIED CARD OF 'headgatelaw01.BitmapRuns'. -/
def bitmapRunsCard : Claim7 := { stood := { row := bitmapRunsRow, standIns := [], harness := (true, "40d2268266f8658f2f534559b4d76744195f97fa8f39c0e4f00d9718971eabbd"), looks := false }, kinds := [], alts := [], laidByText := true, laidKinds := [.data, .data, .data], laidTests := true, laidLooks := .later }
def BitmapRunsCardSaid : Prop := Claim7.holds Tryd.pinned (.plain (OpenSpec.ofChange bitmapRunsSpec)) bitmapRunsCard

/-- THE TIED CARD OF 'headgatelaw01.BitmapSums'. -/
def bitmapSumsCard : Claim7 := { stood := { row := bitmapSumsRow, standIns := [], harness := (true, "40d2268266f8658f2f534559b4d76744195f97fa8f39c0e4f00d9718971eabbd"), looks := false }, kinds := [], alts := [], laidByText := true, laidKinds := [.data, .data, .data], laidTests := true, laidLooks := .later }
def BitmapSumsCardSaid : Prop := Claim7.holds Tryd.pinned (.plain (OpenSpec.ofChange bitmapSumsSpec)) bitmapSumsCard

/-- THE TIED CARD OF 'headgatelaw01.BitmapPut'. -/
def bitmapPutCard : Claim7 := { stood := { row := bitmapPutRow, standIns := [], harness := (true, "40d2268266f8658f2f534559b4d76744195f97fa8f39c0e4f00d9718971eabbd"), looks := false }, kinds := [], alts := [], laidByText := true, laidKinds := [.data, .data, .data], laidTests := true, laidLooks := .later }
def BitmapPutCardSaid : Prop := Claim7.holds Tryd.pinned (.plain (OpenSpec.ofChange bitmapPutSpec)) bitmapPutCard

/-- THE TIED CARD OF 'headgatelaw01.BitmapWalks'. -/
def bitmapWalksCard : Claim7 := { stood := { row := bitmapWalksRow, standIns := [], harness := (true, "40d2268266f8658f2f534559b4d76744195f97fa8f39c0e4f00d9718971eabbd"), looks := false }, kinds := [], alts := [], laidByText := true, laidKinds := [.data, .data, .data], laidTests := true, laidLooks := .later }
def BitmapWalksCardSaid : Prop := Claim7.holds Tryd.pinned (.plain (OpenSpec.ofChange bitmapWalksSpec)) bitmapWalksCard

/-- THE SECOND FORM's CARD OF 'headgatelaw01.BitmapPuts'. -/
def bitmapPutsUptoCard : Claim7 := { stood := { row := bitmapPutsUptoRow, standIns := [], harness := (true, "40d2268266f8658f2f534559b4d76744195f97fa8f39c0e4f00d9718971eabbd"), looks := false }, kinds := [], alts := [], laidByText := true, laidKinds := [.data], laidTests := true, laidLooks := .later }
def BitmapPutsUptoCardSaid : Prop := Claim7.holds Tryd.pinned (.plain (OpenSpec.upto bitmapPutsSpec)) bitmapPutsUptoCard

/-- THE SECOND FORM's CARD OF 'headgatelaw01.BitmapChecks'. -/
def bitmapChecksUptoCard : Claim7 := { stood := { row := bitmapChecksUptoRow, standIns := [], harness := (true, "40d2268266f8658f2f534559b4d76744195f97fa8f39c0e4f00d9718971eabbd"), looks := false }, kinds := [], alts := [], laidByText := true, laidKinds := [.data], laidTests := true, laidLooks := .later }
def BitmapChecksUptoCardSaid : Prop := Claim7.holds Tryd.pinned (.plain (OpenSpec.upto bitmapChecksSpec)) bitmapChecksUptoCard

/-- THE SECOND FORM's CARD OF 'headgatelaw01.BitmapCombines'. -/
def bitmapCombinesUptoCard : Claim7 := { stood := { row := bitmapCombinesUptoRow, standIns := [], harness := (true, "40d2268266f8658f2f534559b4d76744195f97fa8f39c0e4f00d9718971eabbd"), looks := false }, kinds := [], alts := [], laidByText := true, laidKinds := [.data], laidTests := true, laidLooks := .later }
def BitmapCombinesUptoCardSaid : Prop := Claim7.holds Tryd.pinned (.plain (OpenSpec.upto bitmapCombinesSpec)) bitmapCombinesUptoCard

/-- THE SECOND FORM's CARD OF 'headgatelaw01.BitmapTexts'. -/
def bitmapTextsUptoCard : Claim7 := { stood := { row := bitmapTextsUptoRow, standIns := [], harness := (true, "40d2268266f8658f2f534559b4d76744195f97fa8f39c0e4f00d9718971eabbd"), looks := false }, kinds := [], alts := [], laidByText := true, laidKinds := [.data, .data, .data], laidTests := true, laidLooks := .later }
def BitmapTextsUptoCardSaid : Prop := Claim7.holds Tryd.pinned (.plain (OpenSpec.upto bitmapTextsSpec)) bitmapTextsUptoCard

/-- THE SECOND FORM's CARD OF 'headgatelaw01.BitmapKnown'. -/
def bitmapKnownUptoCard : Claim7 := { stood := { row := bitmapKnownUptoRow, standIns := [], harness := (true, "40d2268266f8658f2f534559b4d76744195f97fa8f39c0e4f00d9718971eabbd"), looks := false }, kinds := [], alts := [], laidByText := true, laidKinds := [.data, .data, .data], laidTests := true, laidLooks := .later }
def BitmapKnownUptoCardSaid : Prop := Claim7.holds Tryd.pinned (.plain (OpenSpec.upto bitmapKnownSpec)) bitmapKnownUptoCard

/-- THE SECOND FORM's CARD OF 'headgatelaw01.BitmapRuns'. -/
def bitmapRunsUptoCard : Claim7 := { stood := { row := bitmapRunsUptoRow, standIns := [], harness := (true, "40d2268266f8658f2f534559b4d76744195f97fa8f39c0e4f00d9718971eabbd"), looks := false }, kinds := [], alts := [], laidByText := true, laidKinds := [.data, .data, .data], laidTests := true, laidLooks := .later }
def BitmapRunsUptoCardSaid : Prop := Claim7.holds Tryd.pinned (.plain (OpenSpec.upto bitmapRunsSpec)) bitmapRunsUptoCard

/-- THE SECOND FORM's CARD OF 'headgatelaw01.BitmapSums'. -/
def bitmapSumsUptoCard : Claim7 := { stood := { row := bitmapSumsUptoRow, standIns := [], harness := (true, "40d2268266f8658f2f534559b4d76744195f97fa8f39c0e4f00d9718971eabbd"), looks := false }, kinds := [], alts := [], laidByText := true, laidKinds := [.data, .data, .data], laidTests := true, laidLooks := .later }
def BitmapSumsUptoCardSaid : Prop := Claim7.holds Tryd.pinned (.plain (OpenSpec.upto bitmapSumsSpec)) bitmapSumsUptoCard

/-- THE SECOND FORM's CARD OF 'headgatelaw01.BitmapPut'. -/
def bitmapPutUptoCard : Claim7 := { stood := { row := bitmapPutUptoRow, standIns := [], harness := (true, "40d2268266f8658f2f534559b4d76744195f97fa8f39c0e4f00d9718971eabbd"), looks := false }, kinds := [], alts := [], laidByText := true, laidKinds := [.data, .data, .data], laidTests := true, laidLooks := .later }
def BitmapPutUptoCardSaid : Prop := Claim7.holds Tryd.pinned (.plain (OpenSpec.upto bitmapPutSpec)) bitmapPutUptoCard

/-- THE SECOND FORM's CARD OF 'headgatelaw01.BitmapWalks'. -/
def bitmapWalksUptoCard : Claim7 := { stood := { row := bitmapWalksUptoRow, standIns := [], harness := (true, "40d2268266f8658f2f534559b4d76744195f97fa8f39c0e4f00d9718971eabbd"), looks := false }, kinds := [], alts := [], laidByText := true, laidKinds := [.data, .data, .data], laidTests := true, laidLooks := .later }
def BitmapWalksUptoCardSaid : Prop := Claim7.holds Tryd.pinned (.plain (OpenSpec.upto bitmapWalksSpec)) bitmapWalksUptoCard
end Rows
end Go.Proofs.YtihbdndigfnhkaaDoor
