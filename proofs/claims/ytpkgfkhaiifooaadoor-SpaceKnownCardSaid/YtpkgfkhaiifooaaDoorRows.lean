/-
  NARROWER THAN 'FOR EVERY INPUT', by the rows' own cells (each row's printed sentence says how): SpaceSides: laid · SpaceSets: laid · SpaceFinds: laid · SpaceMoves: laid · SpaceLoses: laid · SpaceKnown: laid.
  DERIVED. THE GIVEN ROWS OF THIS SEAT. 6 by the template 'for every input the law returns true; each argument reads behind the call as it read before'; 0 by the template 'total and deterministic' (their statements: YtpkgfkhaiifooaaDoorTotals.lean).
  GIVEN WITH THE SEED: the statements are not yours to turn. If you find one false, say at which input.
  Laid BY PROGRAM, IN A SANDBOX (cutbox-rows.mjs): the forced cells as the released guide's own fill.sh prints them over the translation 66d255cb32fd40b8… (all of the seat's roots in one cut). By AI agents, Wed Nov 11 2026. No macro, syntax, notation, axiom, sorry.
-/
import Derived.Test.YtpkgfkhaiifooaaDoorChecked
import GoSem.Claim
import GoSem.ClaimJoined
import GoSem.ClaimMapViews
import Derived.JoinedTies
import Derived.KernelRfl
namespace Go.Proofs.YtpkgfkhaiifooaaDoor
/- THE CELL 'sum', in the pinned program and in every row, IS THE sha256 OF THE DUMP (.gsa) THAT YtpkgfkhaiifooaaDoorProg.lean LOADS. Nothing in Lean hashes anything: it is a label: what it is worth is what the hold of that sum in a sandbox is worth. -/
noncomputable def Tryd.pinned : Pinned := { name := "ytpkgfkhaiifooaadoor", sum := "66d255cb32fd40b88cf069c06aa13af74ee0667d78e5290c8ec060ea2bf66af5", checked := Tryd.checked }
namespace Rows
def none {H : Type} : Left H := { results := [], args := [] }

/- WHAT THE LISTED PACKAGE-LEVEL VARIABLES READ AS WHEN THE CALL BEGINS. Each datum BY PROGRAM (the guide's laid-datum.mjs) off the statement by which the dump's own 'gosem.cut.vars' lays the variable. In a bare row this is a premise. The card (YtpkgfkhaiifooaaDoorCards.lean) ties it to the program's text. -/
def laid_headgate_entry_layout {H : Type} : DataW H := .agg [.agg [.lit (.int .u64 0), .lit (.int .u64 3)], .agg [.lit (.int .u64 2), .lit (.int .u64 7)], .agg [.lit (.int .u64 8), .lit (.int .u64 255)]]

/-- 'headgatelaw27.SpaceSides': WHATEVER THE INPUT: true; the input reads as it did. -/
def spaceSidesSpec : ChangeSpec := { name := "spaceSides", fn := fun _ => fun
  | [d1, d2, d3, d4] => { results := [.lit (.bool true)], args := [d1, d2, d3, d4] }
  | _ => none }
def spaceSidesRow : OpenClaim := { program := "ytpkgfkhaiifooaadoor", sum := "66d255cb32fd40b88cf069c06aa13af74ee0667d78e5290c8ec060ea2bf66af5", func := "headgate/headgatelaw27.SpaceSides", spec := "spaceSides", unfollowed := true, recurses := true, named := ["headgate/entry.layout"], apart := false, laid := [("headgate/entry.layout", laid_headgate_entry_layout)] }
def SpaceSidesSaid : Prop := spaceSidesRow.holds Tryd.pinned (OpenSpec.ofChange spaceSidesSpec)

/-- ITS FALSE NEIGHBOUR: 'it returns false'. Refute it at one input. -/
def spaceSidesWrong : ChangeSpec := { name := "spaceSides", fn := fun _ => fun
  | [d1, d2, d3, d4] => { results := [.lit (.bool false)], args := [d1, d2, d3, d4] }
  | _ => none }
def SpaceSidesWrongFalsely : Prop := spaceSidesRow.holds Tryd.pinned (OpenSpec.ofChange spaceSidesWrong)

/-- 'headgatelaw27.SpaceSets': WHATEVER THE INPUT: true; the input reads as it did. -/
def spaceSetsSpec : ChangeSpec := { name := "spaceSets", fn := fun _ => fun
  | [d1, d2, d3, d4, d5] => { results := [.lit (.bool true)], args := [d1, d2, d3, d4, d5] }
  | _ => none }
def spaceSetsRow : OpenClaim := { program := "ytpkgfkhaiifooaadoor", sum := "66d255cb32fd40b88cf069c06aa13af74ee0667d78e5290c8ec060ea2bf66af5", func := "headgate/headgatelaw27.SpaceSets", spec := "spaceSets", unfollowed := true, recurses := true, named := ["headgate/entry.layout"], apart := false, laid := [("headgate/entry.layout", laid_headgate_entry_layout)] }
def SpaceSetsSaid : Prop := spaceSetsRow.holds Tryd.pinned (OpenSpec.ofChange spaceSetsSpec)

/-- ITS FALSE NEIGHBOUR: 'it returns false'. Refute it at one input. -/
def spaceSetsWrong : ChangeSpec := { name := "spaceSets", fn := fun _ => fun
  | [d1, d2, d3, d4, d5] => { results := [.lit (.bool false)], args := [d1, d2, d3, d4, d5] }
  | _ => none }
def SpaceSetsWrongFalsely : Prop := spaceSetsRow.holds Tryd.pinned (OpenSpec.ofChange spaceSetsWrong)

/-- 'headgatelaw27.SpaceFinds': WHATEVER THE INPUT: true; the input reads as it did. -/
def spaceFindsSpec : ChangeSpec := { name := "spaceFinds", fn := fun _ => fun
  | [d1, d2, d3, d4] => { results := [.lit (.bool true)], args := [d1, d2, d3, d4] }
  | _ => none }
def spaceFindsRow : OpenClaim := { program := "ytpkgfkhaiifooaadoor", sum := "66d255cb32fd40b88cf069c06aa13af74ee0667d78e5290c8ec060ea2bf66af5", func := "headgate/headgatelaw27.SpaceFinds", spec := "spaceFinds", unfollowed := true, recurses := true, named := ["headgate/entry.layout"], apart := false, laid := [("headgate/entry.layout", laid_headgate_entry_layout)] }
def SpaceFindsSaid : Prop := spaceFindsRow.holds Tryd.pinned (OpenSpec.ofChange spaceFindsSpec)

/-- ITS FALSE NEIGHBOUR: 'it returns false'. Refute it at one input. -/
def spaceFindsWrong : ChangeSpec := { name := "spaceFinds", fn := fun _ => fun
  | [d1, d2, d3, d4] => { results := [.lit (.bool false)], args := [d1, d2, d3, d4] }
  | _ => none }
def SpaceFindsWrongFalsely : Prop := spaceFindsRow.holds Tryd.pinned (OpenSpec.ofChange spaceFindsWrong)

/-- 'headgatelaw27.SpaceMoves': WHATEVER THE INPUT: true; the input reads as it did. -/
def spaceMovesSpec : ChangeSpec := { name := "spaceMoves", fn := fun _ => fun
  | [d1, d2, d3, d4] => { results := [.lit (.bool true)], args := [d1, d2, d3, d4] }
  | _ => none }
def spaceMovesRow : OpenClaim := { program := "ytpkgfkhaiifooaadoor", sum := "66d255cb32fd40b88cf069c06aa13af74ee0667d78e5290c8ec060ea2bf66af5", func := "headgate/headgatelaw27.SpaceMoves", spec := "spaceMoves", unfollowed := true, recurses := true, named := ["headgate/entry.layout"], apart := false, laid := [("headgate/entry.layout", laid_headgate_entry_layout)] }
def SpaceMovesSaid : Prop := spaceMovesRow.holds Tryd.pinned (OpenSpec.ofChange spaceMovesSpec)

/-- ITS FALSE NEIGHBOUR: 'it returns false'. Refute it at one input. -/
def spaceMovesWrong : ChangeSpec := { name := "spaceMoves", fn := fun _ => fun
  | [d1, d2, d3, d4] => { results := [.lit (.bool false)], args := [d1, d2, d3, d4] }
  | _ => none }
def SpaceMovesWrongFalsely : Prop := spaceMovesRow.holds Tryd.pinned (OpenSpec.ofChange spaceMovesWrong)

/-- 'headgatelaw27.SpaceLoses': WHATEVER THE INPUT: true; the input reads as it did. -/
def spaceLosesSpec : ChangeSpec := { name := "spaceLoses", fn := fun _ => fun
  | [d1, d2, d3] => { results := [.lit (.bool true)], args := [d1, d2, d3] }
  | _ => none }
def spaceLosesRow : OpenClaim := { program := "ytpkgfkhaiifooaadoor", sum := "66d255cb32fd40b88cf069c06aa13af74ee0667d78e5290c8ec060ea2bf66af5", func := "headgate/headgatelaw27.SpaceLoses", spec := "spaceLoses", inPlace := ["slices.overlaps[headgate/api.Range]"], unfollowed := true, recurses := true, named := ["headgate/entry.layout"], apart := false, laid := [("headgate/entry.layout", laid_headgate_entry_layout)] }
def SpaceLosesSaid : Prop := spaceLosesRow.holds Tryd.pinned (OpenSpec.ofChange spaceLosesSpec)

/-- ITS FALSE NEIGHBOUR: 'it returns false'. Refute it at one input. -/
def spaceLosesWrong : ChangeSpec := { name := "spaceLoses", fn := fun _ => fun
  | [d1, d2, d3] => { results := [.lit (.bool false)], args := [d1, d2, d3] }
  | _ => none }
def SpaceLosesWrongFalsely : Prop := spaceLosesRow.holds Tryd.pinned (OpenSpec.ofChange spaceLosesWrong)

/-- 'headgatelaw27.SpaceKnown': WHATEVER THE INPUT: true; the input reads as it did. -/
def spaceKnownSpec : ChangeSpec := { name := "spaceKnown", fn := fun _ => fun
  | [] => { results := [.lit (.bool true)], args := [] }
  | _ => none }
def spaceKnownRow : OpenClaim := { program := "ytpkgfkhaiifooaadoor", sum := "66d255cb32fd40b88cf069c06aa13af74ee0667d78e5290c8ec060ea2bf66af5", func := "headgate/headgatelaw27.SpaceKnown", spec := "spaceKnown", inPlace := ["slices.overlaps[headgate/api.Range]"], unfollowed := true, recurses := true, named := ["headgate/entry.layout"], apart := false, laid := [("headgate/entry.layout", laid_headgate_entry_layout)] }
def SpaceKnownSaid : Prop := spaceKnownRow.holds Tryd.pinned (OpenSpec.ofChange spaceKnownSpec)

/-- ITS FALSE NEIGHBOUR: 'it returns false'. Refute it at one input. -/
def spaceKnownWrong : ChangeSpec := { name := "spaceKnown", fn := fun _ => fun
  | [] => { results := [.lit (.bool false)], args := [] }
  | _ => none }
def SpaceKnownWrongFalsely : Prop := spaceKnownRow.holds Tryd.pinned (OpenSpec.ofChange spaceKnownWrong)

/- THE SECOND FORM. 'bulk': how many values and letters a reading holds, each counted each time it is reached (what is shared counts as often as it is met; a slice's spare places count too). A statement '..UptoSaid' is the law's where the arguments, and the package variables that the reading takes, are together of bulk at most 1048576: NARROWER than '..Said'. Prove '..Said' where nothing that the law and all that it calls make is longer than what came in: it says more and counts as full. Else prove '..UptoSaid'. A law counts once. -/
mutual
def uptoBulk {H : Type} : DataW H → Nat
  | .lit (.string bytes) => bytes.length + 1
  | .lit _ => 1
  | .nil => 1
  | .ptr d => uptoBulk d + 1
  | .slice elems spare => uptoBulkAll elems + uptoBulkAll spare + 1
  | .agg parts => uptoBulkAll parts + 1
  | .iface _ d => uptoBulk d + 1
  | .map entries => uptoBulkEntries entries + 1
  | .held _ => 1
def uptoBulkAll {H : Type} : List (DataW H) → Nat
  | [] => 0
  | d :: r => uptoBulk d + uptoBulkAll r
def uptoBulkEntries {H : Type} : List (Lit × DataW H) → Nat
  | [] => 0
  | x :: r => uptoBulkEntry x + uptoBulkEntries r
def uptoBulkEntry {H : Type} : Lit × DataW H → Nat
  | (.string bytes, d) => bytes.length + uptoBulk d + 1
  | (_, d) => uptoBulk d + 1
 end
def uptoSmall : (H : Type) → List (DataW H) → Bool := fun _ ds => decide (uptoBulkAll ds ≤ 1048576)
def OpenSpec.upto (s : _root_.Go.ChangeSpec) : _root_.Go.OpenSpec := { _root_.Go.OpenSpec.ofChange s with cond := some uptoSmall }

/-- 'headgatelaw27.SpaceSides', WHERE WHAT IT READS IS OF BULK AT MOST 1048576: true; the input reads as it did. -/
def spaceSidesUptoRow : OpenClaim := { program := "ytpkgfkhaiifooaadoor", sum := "66d255cb32fd40b88cf069c06aa13af74ee0667d78e5290c8ec060ea2bf66af5", func := "headgate/headgatelaw27.SpaceSides", spec := "spaceSides", unfollowed := true, recurses := true, named := ["headgate/entry.layout"], apart := false, laid := [("headgate/entry.layout", laid_headgate_entry_layout)], narrowed := true }
def SpaceSidesUptoSaid : Prop := spaceSidesUptoRow.holds Tryd.pinned (OpenSpec.upto spaceSidesSpec)

/-- 'headgatelaw27.SpaceSets', WHERE WHAT IT READS IS OF BULK AT MOST 1048576: true; the input reads as it did. -/
def spaceSetsUptoRow : OpenClaim := { program := "ytpkgfkhaiifooaadoor", sum := "66d255cb32fd40b88cf069c06aa13af74ee0667d78e5290c8ec060ea2bf66af5", func := "headgate/headgatelaw27.SpaceSets", spec := "spaceSets", unfollowed := true, recurses := true, named := ["headgate/entry.layout"], apart := false, laid := [("headgate/entry.layout", laid_headgate_entry_layout)], narrowed := true }
def SpaceSetsUptoSaid : Prop := spaceSetsUptoRow.holds Tryd.pinned (OpenSpec.upto spaceSetsSpec)

/-- 'headgatelaw27.SpaceFinds', WHERE WHAT IT READS IS OF BULK AT MOST 1048576: true; the input reads as it did. -/
def spaceFindsUptoRow : OpenClaim := { program := "ytpkgfkhaiifooaadoor", sum := "66d255cb32fd40b88cf069c06aa13af74ee0667d78e5290c8ec060ea2bf66af5", func := "headgate/headgatelaw27.SpaceFinds", spec := "spaceFinds", unfollowed := true, recurses := true, named := ["headgate/entry.layout"], apart := false, laid := [("headgate/entry.layout", laid_headgate_entry_layout)], narrowed := true }
def SpaceFindsUptoSaid : Prop := spaceFindsUptoRow.holds Tryd.pinned (OpenSpec.upto spaceFindsSpec)

/-- 'headgatelaw27.SpaceMoves', WHERE WHAT IT READS IS OF BULK AT MOST 1048576: true; the input reads as it did. -/
def spaceMovesUptoRow : OpenClaim := { program := "ytpkgfkhaiifooaadoor", sum := "66d255cb32fd40b88cf069c06aa13af74ee0667d78e5290c8ec060ea2bf66af5", func := "headgate/headgatelaw27.SpaceMoves", spec := "spaceMoves", unfollowed := true, recurses := true, named := ["headgate/entry.layout"], apart := false, laid := [("headgate/entry.layout", laid_headgate_entry_layout)], narrowed := true }
def SpaceMovesUptoSaid : Prop := spaceMovesUptoRow.holds Tryd.pinned (OpenSpec.upto spaceMovesSpec)

/-- 'headgatelaw27.SpaceLoses', WHERE WHAT IT READS IS OF BULK AT MOST 1048576: true; the input reads as it did. -/
def spaceLosesUptoRow : OpenClaim := { program := "ytpkgfkhaiifooaadoor", sum := "66d255cb32fd40b88cf069c06aa13af74ee0667d78e5290c8ec060ea2bf66af5", func := "headgate/headgatelaw27.SpaceLoses", spec := "spaceLoses", inPlace := ["slices.overlaps[headgate/api.Range]"], unfollowed := true, recurses := true, named := ["headgate/entry.layout"], apart := false, laid := [("headgate/entry.layout", laid_headgate_entry_layout)], narrowed := true }
def SpaceLosesUptoSaid : Prop := spaceLosesUptoRow.holds Tryd.pinned (OpenSpec.upto spaceLosesSpec)

/-- 'headgatelaw27.SpaceKnown', WHERE WHAT IT READS IS OF BULK AT MOST 1048576: true; the input reads as it did. -/
def spaceKnownUptoRow : OpenClaim := { program := "ytpkgfkhaiifooaadoor", sum := "66d255cb32fd40b88cf069c06aa13af74ee0667d78e5290c8ec060ea2bf66af5", func := "headgate/headgatelaw27.SpaceKnown", spec := "spaceKnown", inPlace := ["slices.overlaps[headgate/api.Range]"], unfollowed := true, recurses := true, named := ["headgate/entry.layout"], apart := false, laid := [("headgate/entry.layout", laid_headgate_entry_layout)], narrowed := true }
def SpaceKnownUptoSaid : Prop := spaceKnownUptoRow.holds Tryd.pinned (OpenSpec.upto spaceKnownSpec)

end Rows
end Go.Proofs.YtpkgfkhaiifooaaDoor
