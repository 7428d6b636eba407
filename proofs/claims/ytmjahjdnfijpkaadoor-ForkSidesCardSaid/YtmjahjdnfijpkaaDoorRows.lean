/-
  NARROWER THAN 'FOR EVERY INPUT', by the rows' own cells (each row's printed sentence says how): ForkSides: laid · ForkLooks: laid · ForkShows: laid · ForkAdds: laid · ForkCounts: laid · ForkOwns: laid · ForkKnown: laid.
  DERIVED. THE GIVEN ROWS OF THIS SEAT. 7 by the template 'for every input the law returns true; each argument reads behind the call as it read before'; 0 by the template 'total and deterministic' (their statements: YtmjahjdnfijpkaaDoorTotals.lean).
  GIVEN WITH THE SEED: the statements are not yours to turn. If you find one false, say at which input.
  Laid BY PROGRAM, IN A SANDBOX (cutbox-rows.mjs): the forced cells as the released guide's own fill.sh prints them over the translation e47c7e79ddfe136e… (all of the seat's roots in one cut). By AI agents, Wed Nov 11 2026. No macro, syntax, notation, axiom, sorry.
-/
import Derived.Test.YtmjahjdnfijpkaaDoorChecked
import GoSem.Claim
import GoSem.ClaimJoined
import GoSem.ClaimMapViews
import Derived.JoinedTies
import Derived.KernelRfl
namespace Go.Proofs.YtmjahjdnfijpkaaDoor
/- THE CELL 'sum', in the pinned program and in every row, IS THE sha256 OF THE DUMP (.gsa) THAT YtmjahjdnfijpkaaDoorProg.lean LOADS. Nothing in Lean hashes anything: it is a label: what it is worth is what the hold of that sum in a sandbox is worth. -/
noncomputable def Tryd.pinned : Pinned := { name := "ytmjahjdnfijpkaadoor", sum := "e47c7e79ddfe136e2c9392abb40e5445c9d30b7c16e54461ce6208c4916a2fc3", checked := Tryd.checked }
namespace Rows
def none {H : Type} : Left H := { results := [], args := [] }

/- WHAT THE LISTED PACKAGE-LEVEL VARIABLES READ AS WHEN THE CALL BEGINS. Each datum BY PROGRAM (the guide's laid-datum.mjs) off the statement by which the dump's own 'gosem.cut.vars' lays the variable. In a bare row this is a premise. The card (YtmjahjdnfijpkaaDoorCards.lean) ties it to the program's text. -/
def laid_headgate_entry_layout {H : Type} : DataW H := .agg [.agg [.lit (.int .u64 0), .lit (.int .u64 3)], .agg [.lit (.int .u64 2), .lit (.int .u64 7)], .agg [.lit (.int .u64 8), .lit (.int .u64 255)]]

/-- 'headgatelaw28.ForkSides': WHATEVER THE INPUT: true; the input reads as it did. -/
def forkSidesSpec : ChangeSpec := { name := "forkSides", fn := fun _ => fun
  | [d1, d2] => { results := [.lit (.bool true)], args := [d1, d2] }
  | _ => none }
def forkSidesRow : OpenClaim := { program := "ytmjahjdnfijpkaadoor", sum := "e47c7e79ddfe136e2c9392abb40e5445c9d30b7c16e54461ce6208c4916a2fc3", func := "headgate/headgatelaw28.ForkSides", spec := "forkSides", unfollowed := true, recurses := true, named := ["headgate/entry.layout"], apart := false, laid := [("headgate/entry.layout", laid_headgate_entry_layout)] }
def ForkSidesSaid : Prop := forkSidesRow.holds Tryd.pinned (OpenSpec.ofChange forkSidesSpec)

/-- ITS FALSE NEIGHBOUR: 'it returns false'. Refute it at one input. -/
def forkSidesWrong : ChangeSpec := { name := "forkSides", fn := fun _ => fun
  | [d1, d2] => { results := [.lit (.bool false)], args := [d1, d2] }
  | _ => none }
def ForkSidesWrongFalsely : Prop := forkSidesRow.holds Tryd.pinned (OpenSpec.ofChange forkSidesWrong)

/-- 'headgatelaw28.ForkLooks': WHATEVER THE INPUT: true; the input reads as it did. -/
def forkLooksSpec : ChangeSpec := { name := "forkLooks", fn := fun _ => fun
  | [d1, d2] => { results := [.lit (.bool true)], args := [d1, d2] }
  | _ => none }
def forkLooksRow : OpenClaim := { program := "ytmjahjdnfijpkaadoor", sum := "e47c7e79ddfe136e2c9392abb40e5445c9d30b7c16e54461ce6208c4916a2fc3", func := "headgate/headgatelaw28.ForkLooks", spec := "forkLooks", unfollowed := true, recurses := true, named := ["headgate/entry.layout"], apart := false, laid := [("headgate/entry.layout", laid_headgate_entry_layout)] }
def ForkLooksSaid : Prop := forkLooksRow.holds Tryd.pinned (OpenSpec.ofChange forkLooksSpec)

/-- ITS FALSE NEIGHBOUR: 'it returns false'. Refute it at one input. -/
def forkLooksWrong : ChangeSpec := { name := "forkLooks", fn := fun _ => fun
  | [d1, d2] => { results := [.lit (.bool false)], args := [d1, d2] }
  | _ => none }
def ForkLooksWrongFalsely : Prop := forkLooksRow.holds Tryd.pinned (OpenSpec.ofChange forkLooksWrong)

/-- 'headgatelaw28.ForkShows': WHATEVER THE INPUT: true; the input reads as it did. -/
def forkShowsSpec : ChangeSpec := { name := "forkShows", fn := fun _ => fun
  | [d] => { results := [.lit (.bool true)], args := [d] }
  | _ => none }
def forkShowsRow : OpenClaim := { program := "ytmjahjdnfijpkaadoor", sum := "e47c7e79ddfe136e2c9392abb40e5445c9d30b7c16e54461ce6208c4916a2fc3", func := "headgate/headgatelaw28.ForkShows", spec := "forkShows", unfollowed := true, recurses := true, named := ["headgate/entry.layout"], apart := false, laid := [("headgate/entry.layout", laid_headgate_entry_layout)] }
def ForkShowsSaid : Prop := forkShowsRow.holds Tryd.pinned (OpenSpec.ofChange forkShowsSpec)

/-- ITS FALSE NEIGHBOUR: 'it returns false'. Refute it at one input. -/
def forkShowsWrong : ChangeSpec := { name := "forkShows", fn := fun _ => fun
  | [d] => { results := [.lit (.bool false)], args := [d] }
  | _ => none }
def ForkShowsWrongFalsely : Prop := forkShowsRow.holds Tryd.pinned (OpenSpec.ofChange forkShowsWrong)

/-- 'headgatelaw28.ForkAdds': WHATEVER THE INPUT: true; the input reads as it did. -/
def forkAddsSpec : ChangeSpec := { name := "forkAdds", fn := fun _ => fun
  | [d] => { results := [.lit (.bool true)], args := [d] }
  | _ => none }
def forkAddsRow : OpenClaim := { program := "ytmjahjdnfijpkaadoor", sum := "e47c7e79ddfe136e2c9392abb40e5445c9d30b7c16e54461ce6208c4916a2fc3", func := "headgate/headgatelaw28.ForkAdds", spec := "forkAdds", unfollowed := true, recurses := true, named := ["headgate/entry.layout"], apart := false, laid := [("headgate/entry.layout", laid_headgate_entry_layout)] }
def ForkAddsSaid : Prop := forkAddsRow.holds Tryd.pinned (OpenSpec.ofChange forkAddsSpec)

/-- ITS FALSE NEIGHBOUR: 'it returns false'. Refute it at one input. -/
def forkAddsWrong : ChangeSpec := { name := "forkAdds", fn := fun _ => fun
  | [d] => { results := [.lit (.bool false)], args := [d] }
  | _ => none }
def ForkAddsWrongFalsely : Prop := forkAddsRow.holds Tryd.pinned (OpenSpec.ofChange forkAddsWrong)

/-- 'headgatelaw28.ForkCounts': WHATEVER THE INPUT: true; the input reads as it did. -/
def forkCountsSpec : ChangeSpec := { name := "forkCounts", fn := fun _ => fun
  | [d1, d2] => { results := [.lit (.bool true)], args := [d1, d2] }
  | _ => none }
def forkCountsRow : OpenClaim := { program := "ytmjahjdnfijpkaadoor", sum := "e47c7e79ddfe136e2c9392abb40e5445c9d30b7c16e54461ce6208c4916a2fc3", func := "headgate/headgatelaw28.ForkCounts", spec := "forkCounts", unfollowed := true, recurses := true, named := ["headgate/entry.layout"], apart := false, laid := [("headgate/entry.layout", laid_headgate_entry_layout)] }
def ForkCountsSaid : Prop := forkCountsRow.holds Tryd.pinned (OpenSpec.ofChange forkCountsSpec)

/-- ITS FALSE NEIGHBOUR: 'it returns false'. Refute it at one input. -/
def forkCountsWrong : ChangeSpec := { name := "forkCounts", fn := fun _ => fun
  | [d1, d2] => { results := [.lit (.bool false)], args := [d1, d2] }
  | _ => none }
def ForkCountsWrongFalsely : Prop := forkCountsRow.holds Tryd.pinned (OpenSpec.ofChange forkCountsWrong)

/-- 'headgatelaw28.ForkOwns': WHATEVER THE INPUT: true; the input reads as it did. -/
def forkOwnsSpec : ChangeSpec := { name := "forkOwns", fn := fun _ => fun
  | [d] => { results := [.lit (.bool true)], args := [d] }
  | _ => none }
def forkOwnsRow : OpenClaim := { program := "ytmjahjdnfijpkaadoor", sum := "e47c7e79ddfe136e2c9392abb40e5445c9d30b7c16e54461ce6208c4916a2fc3", func := "headgate/headgatelaw28.ForkOwns", spec := "forkOwns", unfollowed := true, recurses := true, named := ["headgate/entry.layout"], apart := false, laid := [("headgate/entry.layout", laid_headgate_entry_layout)] }
def ForkOwnsSaid : Prop := forkOwnsRow.holds Tryd.pinned (OpenSpec.ofChange forkOwnsSpec)

/-- ITS FALSE NEIGHBOUR: 'it returns false'. Refute it at one input. -/
def forkOwnsWrong : ChangeSpec := { name := "forkOwns", fn := fun _ => fun
  | [d] => { results := [.lit (.bool false)], args := [d] }
  | _ => none }
def ForkOwnsWrongFalsely : Prop := forkOwnsRow.holds Tryd.pinned (OpenSpec.ofChange forkOwnsWrong)

/-- 'headgatelaw28.ForkKnown': WHATEVER THE INPUT: true; the input reads as it did. -/
def forkKnownSpec : ChangeSpec := { name := "forkKnown", fn := fun _ => fun
  | [] => { results := [.lit (.bool true)], args := [] }
  | _ => none }
def forkKnownRow : OpenClaim := { program := "ytmjahjdnfijpkaadoor", sum := "e47c7e79ddfe136e2c9392abb40e5445c9d30b7c16e54461ce6208c4916a2fc3", func := "headgate/headgatelaw28.ForkKnown", spec := "forkKnown", unfollowed := true, recurses := true, named := ["headgate/entry.layout"], apart := false, laid := [("headgate/entry.layout", laid_headgate_entry_layout)] }
def ForkKnownSaid : Prop := forkKnownRow.holds Tryd.pinned (OpenSpec.ofChange forkKnownSpec)

/-- ITS FALSE NEIGHBOUR: 'it returns false'. Refute it at one input. -/
def forkKnownWrong : ChangeSpec := { name := "forkKnown", fn := fun _ => fun
  | [] => { results := [.lit (.bool false)], args := [] }
  | _ => none }
def ForkKnownWrongFalsely : Prop := forkKnownRow.holds Tryd.pinned (OpenSpec.ofChange forkKnownWrong)

/- THE SECOND FORM. 'bulk': how many values and letters a reading holds, each counted each time it is reached (what is shared counts as often as it is met; a slice's spare places count too). A statement '..UptoSaid' is the law's where the arguments, and the package variables that the reading takes, are together of bulk at most 1048576: NARROWER than '..Said'. Prove '..Said' where nothing that the law and all that it calls make is longer than what came in: it says more and counts as full. Else prove '..UptoSaid'. A law counts once. -/
mutual
def uptoBulk {H : Type} : DataW H → Nat
  | .lit (.string bytes) => bytes.length + 1
  | .lit _ => 1
  | .nil => 1
  | .ptr d => uptoBulk d + 1
  | .slice elems spare => uptoBulkAll elems + uptoBulkAll spare + 1
  | .agg parts => uptoBulkAll parts + 1
  | .iface _ d => uptoBulk d + 1
  | .map entries => uptoBulkEntries entries + 1
  | .held _ => 1
def uptoBulkAll {H : Type} : List (DataW H) → Nat
  | [] => 0
  | d :: r => uptoBulk d + uptoBulkAll r
def uptoBulkEntries {H : Type} : List (Lit × DataW H) → Nat
  | [] => 0
  | x :: r => uptoBulkEntry x + uptoBulkEntries r
def uptoBulkEntry {H : Type} : Lit × DataW H → Nat
  | (.string bytes, d) => bytes.length + uptoBulk d + 1
  | (_, d) => uptoBulk d + 1
 end
def uptoSmall : (H : Type) → List (DataW H) → Bool := fun _ ds => decide (uptoBulkAll ds ≤ 1048576)
def OpenSpec.upto (s : _root_.Go.ChangeSpec) : _root_.Go.OpenSpec := { _root_.Go.OpenSpec.ofChange s with cond := some uptoSmall }

/-- 'headgatelaw28.ForkSides', WHERE WHAT IT READS IS OF BULK AT MOST 1048576: true; the input reads as it did. -/
def forkSidesUptoRow : OpenClaim := { program := "ytmjahjdnfijpkaadoor", sum := "e47c7e79ddfe136e2c9392abb40e5445c9d30b7c16e54461ce6208c4916a2fc3", func := "headgate/headgatelaw28.ForkSides", spec := "forkSides", unfollowed := true, recurses := true, named := ["headgate/entry.layout"], apart := false, laid := [("headgate/entry.layout", laid_headgate_entry_layout)], narrowed := true }
def ForkSidesUptoSaid : Prop := forkSidesUptoRow.holds Tryd.pinned (OpenSpec.upto forkSidesSpec)

/-- 'headgatelaw28.ForkLooks', WHERE WHAT IT READS IS OF BULK AT MOST 1048576: true; the input reads as it did. -/
def forkLooksUptoRow : OpenClaim := { program := "ytmjahjdnfijpkaadoor", sum := "e47c7e79ddfe136e2c9392abb40e5445c9d30b7c16e54461ce6208c4916a2fc3", func := "headgate/headgatelaw28.ForkLooks", spec := "forkLooks", unfollowed := true, recurses := true, named := ["headgate/entry.layout"], apart := false, laid := [("headgate/entry.layout", laid_headgate_entry_layout)], narrowed := true }
def ForkLooksUptoSaid : Prop := forkLooksUptoRow.holds Tryd.pinned (OpenSpec.upto forkLooksSpec)

/-- 'headgatelaw28.ForkShows', WHERE WHAT IT READS IS OF BULK AT MOST 1048576: true; the input reads as it did. -/
def forkShowsUptoRow : OpenClaim := { program := "ytmjahjdnfijpkaadoor", sum := "e47c7e79ddfe136e2c9392abb40e5445c9d30b7c16e54461ce6208c4916a2fc3", func := "headgate/headgatelaw28.ForkShows", spec := "forkShows", unfollowed := true, recurses := true, named := ["headgate/entry.layout"], apart := false, laid := [("headgate/entry.layout", laid_headgate_entry_layout)], narrowed := true }
def ForkShowsUptoSaid : Prop := forkShowsUptoRow.holds Tryd.pinned (OpenSpec.upto forkShowsSpec)

/-- 'headgatelaw28.ForkAdds', WHERE WHAT IT READS IS OF BULK AT MOST 1048576: true; the input reads as it did. -/
def forkAddsUptoRow : OpenClaim := { program := "ytmjahjdnfijpkaadoor", sum := "e47c7e79ddfe136e2c9392abb40e5445c9d30b7c16e54461ce6208c4916a2fc3", func := "headgate/headgatelaw28.ForkAdds", spec := "forkAdds", unfollowed := true, recurses := true, named := ["headgate/entry.layout"], apart := false, laid := [("headgate/entry.layout", laid_headgate_entry_layout)], narrowed := true }
def ForkAddsUptoSaid : Prop := forkAddsUptoRow.holds Tryd.pinned (OpenSpec.upto forkAddsSpec)

/-- 'headgatelaw28.ForkCounts', WHERE WHAT IT READS IS OF BULK AT MOST 1048576: true; the input reads as it did. -/
def forkCountsUptoRow : OpenClaim := { program := "ytmjahjdnfijpkaadoor", sum := "e47c7e79ddfe136e2c9392abb40e5445c9d30b7c16e54461ce6208c4916a2fc3", func := "headgate/headgatelaw28.ForkCounts", spec := "forkCounts", unfollowed := true, recurses := true, named := ["headgate/entry.layout"], apart := false, laid := [("headgate/entry.layout", laid_headgate_entry_layout)], narrowed := true }
def ForkCountsUptoSaid : Prop := forkCountsUptoRow.holds Tryd.pinned (OpenSpec.upto forkCountsSpec)

/-- 'headgatelaw28.ForkOwns', WHERE WHAT IT READS IS OF BULK AT MOST 1048576: true; the input reads as it did. -/
def forkOwnsUptoRow : OpenClaim := { program := "ytmjahjdnfijpkaadoor", sum := "e47c7e79ddfe136e2c9392abb40e5445c9d30b7c16e54461ce6208c4916a2fc3", func := "headgate/headgatelaw28.ForkOwns", spec := "forkOwns", unfollowed := true, recurses := true, named := ["headgate/entry.layout"], apart := false, laid := [("headgate/entry.layout", laid_headgate_entry_layout)], narrowed := true }
def ForkOwnsUptoSaid : Prop := forkOwnsUptoRow.holds Tryd.pinned (OpenSpec.upto forkOwnsSpec)

/-- 'headgatelaw28.ForkKnown', WHERE WHAT IT READS IS OF BULK AT MOST 1048576: true; the input reads as it did. -/
def forkKnownUptoRow : OpenClaim := { program := "ytmjahjdnfijpkaadoor", sum := "e47c7e79ddfe136e2c9392abb40e5445c9d30b7c16e54461ce6208c4916a2fc3", func := "headgate/headgatelaw28.ForkKnown", spec := "forkKnown", unfollowed := true, recurses := true, named := ["headgate/entry.layout"], apart := false, laid := [("headgate/entry.layout", laid_headgate_entry_layout)], narrowed := true }
def ForkKnownUptoSaid : Prop := forkKnownUptoRow.holds Tryd.pinned (OpenSpec.upto forkKnownSpec)

end Rows
end Go.Proofs.YtmjahjdnfijpkaaDoor
