/-
  DERIVED. GIVEN WITH THE SEED: THE CARDS: each row of YtmjahjdnfijpkaaDoorRows.lean that lists a variable, with what it lists TIED to the program's text (the seventh form; the later family's looks); each row that meets fmt, with fmt's text TOLD by the authors' own Lean function (tested against real Go, not proved from fmt's source: count such statements apart). THE CARD IS WHAT COUNTS. Prove the row's statement (the work); the ties are given (YtmjahjdnfijpkaaDoorTie.lean); close each card by the builder's one call (the guide's Derived/Test/ToyasCard.lean, 'card_holds'). Laid BY PROGRAM, IN A SANDBOX (cutbox-door.mjs). By AI agents, Wed Nov 11 2026. No macro, syntax, notation, axiom, sorry.
-/
import Derived.Test.YtmjahjdnfijpkaaDoorRows
import GoSem.ClaimSeven
namespace Go.Proofs.YtmjahjdnfijpkaaDoor
namespace Rows

/-- THE TIED CARD OF 'headgatelaw28.ForkSides'. -/
def forkSidesCard : Claim7 := { stood := { row := forkSidesRow, standIns := [], harness := (true, "e996f4b40a1793723f085adea2be789fb55dcc214951f48554b7946a17cfa636"), looks := false }, kinds := [], alts := [], laidByText := true, laidKinds := [.data], laidTests := true, laidLooks := .later }
def ForkSidesCardSaid : Prop := Claim7.holds Tryd.pinned (.plain (OpenSpec.ofChange forkSidesSpec)) forkSidesCard

/-- THE TIED CARD OF 'headgatelaw28.ForkLooks'. -/
def forkLooksCard : Claim7 := { stood := { row := forkLooksRow, standIns := [], harness := (true, "e996f4b40a1793723f085adea2be789fb55dcc214951f48554b7946a17cfa636"), looks := false }, kinds := [], alts := [], laidByText := true, laidKinds := [.data], laidTests := true, laidLooks := .later }
def ForkLooksCardSaid : Prop := Claim7.holds Tryd.pinned (.plain (OpenSpec.ofChange forkLooksSpec)) forkLooksCard

/-- THE TIED CARD OF 'headgatelaw28.ForkShows'. -/
def forkShowsCard : Claim7 := { stood := { row := forkShowsRow, standIns := [], harness := (true, "e996f4b40a1793723f085adea2be789fb55dcc214951f48554b7946a17cfa636"), looks := false }, kinds := [], alts := [], laidByText := true, laidKinds := [.data], laidTests := true, laidLooks := .later }
def ForkShowsCardSaid : Prop := Claim7.holds Tryd.pinned (.plain (OpenSpec.ofChange forkShowsSpec)) forkShowsCard

/-- THE TIED CARD OF 'headgatelaw28.ForkAdds'. -/
def forkAddsCard : Claim7 := { stood := { row := forkAddsRow, standIns := [], harness := (true, "e996f4b40a1793723f085adea2be789fb55dcc214951f48554b7946a17cfa636"), looks := false }, kinds := [], alts := [], laidByText := true, laidKinds := [.data], laidTests := true, laidLooks := .later }
def ForkAddsCardSaid : Prop := Claim7.holds Tryd.pinned (.plain (OpenSpec.ofChange forkAddsSpec)) forkAddsCard

/-- THE TIED CARD OF 'headgatelaw28.ForkCounts'. -/
def forkCountsCard : Claim7 := { stood := { row := forkCountsRow, standIns := [], harness := (true, "e996f4b40a1793723f085adea2be789fb55dcc214951f48554b7946a17cfa636"), looks := false }, kinds := [], alts := [], laidByText := true, laidKinds := [.data], laidTests := true, laidLooks := .later }
def ForkCountsCardSaid : Prop := Claim7.holds Tryd.pinned (.plain (OpenSpec.ofChange forkCountsSpec)) forkCountsCard

/-- THE TIED CARD OF 'headgatelaw28.ForkOwns'. -/
def forkOwnsCard : Claim7 := { stood := { row := forkOwnsRow, standIns := [], harness := (true, "e996f4b40a1793723f085adea2be789fb55dcc214951f48554b7946a17cfa636"), looks := false }, kinds := [], alts := [], laidByText := true, laidKinds := [.data], laidTests := true, laidLooks := .later }
def ForkOwnsCardSaid : Prop := Claim7.holds Tryd.pinned (.plain (OpenSpec.ofChange forkOwnsSpec)) forkOwnsCard

/-- THE TIED CARD OF 'headgatelaw28.ForkKnown'. -/
def forkKnownCard : Claim7 := { stood := { row := forkKnownRow, standIns := [], harness := (true, "e996f4b40a1793723f085adea2be789fb55dcc214951f48554b7946a17cfa636"), looks := false }, kinds := [], alts := [], laidByText := true, laidKinds := [.data], laidTests := true, laidLooks := .later }
def ForkKnownCardSaid : Prop := Claim7.holds Tryd.pinned (.plain (OpenSpec.ofChange forkKnownSpec)) forkKnownCard

/-- THE SECOND FORM's CARD OF 'headgatelaw28.ForkSides'. -/
def forkSidesUptoCard : Claim7 := { stood := { row := forkSidesUptoRow, standIns := [], harness := (true, "e996f4b40a1793723f085adea2be789fb55dcc214951f48554b7946a17cfa636"), looks := false }, kinds := [], alts := [], laidByText := true, laidKinds := [.data], laidTests := true, laidLooks := .later }
def ForkSidesUptoCardSaid : Prop := Claim7.holds Tryd.pinned (.plain (OpenSpec.upto forkSidesSpec)) forkSidesUptoCard

/-- THE SECOND FORM's CARD OF 'headgatelaw28.ForkLooks'. -/
def forkLooksUptoCard : Claim7 := { stood := { row := forkLooksUptoRow, standIns := [], harness := (true, "e996f4b40a1793723f085adea2be789fb55dcc214951f48554b7946a17cfa636"), looks := false }, kinds := [], alts := [], laidByText := true, laidKinds := [.data], laidTests := true, laidLooks := .later }
def ForkLooksUptoCardSaid : Prop := Claim7.holds Tryd.pinned (.plain (OpenSpec.upto forkLooksSpec)) forkLooksUptoCard

/-- THE SECOND FORM's CARD OF 'headgatelaw28.ForkShows'. -/
def forkShowsUptoCard : Claim7 := { stood := { row := forkShowsUptoRow, standIns := [], harness := (true, "e996f4b40a1793723f085adea2be789fb55dcc214951f48554b7946a17cfa636"), looks := false }, kinds := [], alts := [], laidByText := true, laidKinds := [.data], laidTests := true, laidLooks := .later }
def ForkShowsUptoCardSaid : Prop := Claim7.holds Tryd.pinned (.plain (OpenSpec.upto forkShowsSpec)) forkShowsUptoCard

/-- THE SECOND FORM's CARD OF 'headgatelaw28.ForkAdds'. -/
def forkAddsUptoCard : Claim7 := { stood := { row := forkAddsUptoRow, standIns := [], harness := (true, "e996f4b40a1793723f085adea2be789fb55dcc214951f48554b7946a17cfa636"), looks := false }, kinds := [], alts := [], laidByText := true, laidKinds := [.data], laidTests := true, laidLooks := .later }
def ForkAddsUptoCardSaid : Prop := Claim7.holds Tryd.pinned (.plain (OpenSpec.upto forkAddsSpec)) forkAddsUptoCard

/-- THE SECOND FORM's CARD OF 'headgatelaw28.ForkCounts'. -/
def forkCountsUptoCard : Claim7 := { stood := { row := forkCountsUptoRow, standIns := [], harness := (true, "e996f4b40a1793723f085adea2be789fb55dcc214951f48554b7946a17cfa636"), looks := false }, kinds := [], alts := [], laidByText := true, laidKinds := [.data], laidTests := true, laidLooks := .later }
def ForkCountsUptoCardSaid : Prop := Claim7.holds Tryd.pinned (.plain (OpenSpec.upto forkCountsSpec)) forkCountsUptoCard

/-- THE SECOND FORM's CARD OF 'headgatelaw28.ForkOwns'. -/
def forkOwnsUptoCard : Claim7 := { stood := { row := forkOwnsUptoRow, standIns := [], harness := (true, "e996f4b40a1793723f085adea2be789fb55dcc214951f48554b7946a17cfa636"), looks := false }, kinds := [], alts := [], laidByText := true, laidKinds := [.data], laidTests := true, laidLooks := .later }
def ForkOwnsUptoCardSaid : Prop := Claim7.holds Tryd.pinned (.plain (OpenSpec.upto forkOwnsSpec)) forkOwnsUptoCard

/-- THE SECOND FORM's CARD OF 'headgatelaw28.ForkKnown'. -/
def forkKnownUptoCard : Claim7 := { stood := { row := forkKnownUptoRow, standIns := [], harness := (true, "e996f4b40a1793723f085adea2be789fb55dcc214951f48554b7946a17cfa636"), looks := false }, kinds := [], alts := [], laidByText := true, laidKinds := [.data], laidTests := true, laidLooks := .later }
def ForkKnownUptoCardSaid : Prop := Claim7.holds Tryd.pinned (.plain (OpenSpec.upto forkKnownSpec)) forkKnownUptoCard
end Rows
end Go.Proofs.YtmjahjdnfijpkaaDoor
