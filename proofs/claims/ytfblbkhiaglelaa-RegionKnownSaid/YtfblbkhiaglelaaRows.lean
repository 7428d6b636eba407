/-
  No cell of these rows narrows 'for every input' (looked for: loops, veiled, ifaces, maps, wideKeys, modest, calm, conditions, laid).
  DERIVED. THE GIVEN ROWS OF THIS SEAT. 6 by the template 'for every input the law returns true; each argument reads behind the call as it read before'; 0 by the template 'total and deterministic' (their statements: YtfblbkhiaglelaaTotals.lean).
  GIVEN WITH THE SEED: the statements are not yours to turn. If you find one false, say at which input.
  Laid BY PROGRAM, IN A SANDBOX (cutbox-rows.mjs): the forced cells as the released guide's own fill.sh prints them over the translation 8fb2a142f7898421… (all of the seat's roots in one cut). By AI agents, Wed Nov 11 2026. No macro, syntax, notation, axiom, sorry.
-/
import Derived.Test.YtfblbkhiaglelaaChecked
import GoSem.Claim
import GoSem.ClaimJoined
import GoSem.ClaimMapViews
import Derived.JoinedTies
import Derived.KernelRfl
namespace Go.Proofs.Ytfblbkhiaglelaa
/- THE CELL 'sum', in the pinned program and in every row, IS THE sha256 OF THE DUMP (.gsa) THAT YtfblbkhiaglelaaProg.lean LOADS. Nothing in Lean hashes anything: it is a label: what it is worth is what the hold of that sum in a sandbox is worth. -/
noncomputable def Try.pinned : Pinned := { name := "ytfblbkhiaglelaa", sum := "8fb2a142f7898421ceeaa46add8cfddad45c0b83af1d997a19cbfc6b31332de6", checked := Try.checked }
namespace Rows
def none {H : Type} : Left H := { results := [], args := [] }

/-- 'headgatelaw24.RegionChanges': WHATEVER THE INPUT: true; the input reads as it did. -/
def regionChangesSpec : ChangeSpec := { name := "regionChanges", fn := fun _ => fun
  | [d1, d2] => { results := [.lit (.bool true)], args := [d1, d2] }
  | _ => none }
def regionChangesRow : OpenClaim := { program := "ytfblbkhiaglelaa", sum := "8fb2a142f7898421ceeaa46add8cfddad45c0b83af1d997a19cbfc6b31332de6", func := "headgate/headgatelaw24.RegionChanges", spec := "regionChanges", inPlace := ["slices.overlaps[headgate/api.Range]"], unfollowed := true, recurses := true, apart := false }
def RegionChangesSaid : Prop := regionChangesRow.holds Try.pinned (OpenSpec.ofChange regionChangesSpec)

/-- ITS FALSE NEIGHBOUR: 'it returns false'. Refute it at one input. -/
def regionChangesWrong : ChangeSpec := { name := "regionChanges", fn := fun _ => fun
  | [d1, d2] => { results := [.lit (.bool false)], args := [d1, d2] }
  | _ => none }
def RegionChangesWrongFalsely : Prop := regionChangesRow.holds Try.pinned (OpenSpec.ofChange regionChangesWrong)

/-- 'headgatelaw24.RegionParts': WHATEVER THE INPUT: true; the input reads as it did. -/
def regionPartsSpec : ChangeSpec := { name := "regionParts", fn := fun _ => fun
  | [d1, d2] => { results := [.lit (.bool true)], args := [d1, d2] }
  | _ => none }
def regionPartsRow : OpenClaim := { program := "ytfblbkhiaglelaa", sum := "8fb2a142f7898421ceeaa46add8cfddad45c0b83af1d997a19cbfc6b31332de6", func := "headgate/headgatelaw24.RegionParts", spec := "regionParts", inPlace := ["slices.overlaps[headgate/api.Range]"], unfollowed := true, recurses := true, apart := false }
def RegionPartsSaid : Prop := regionPartsRow.holds Try.pinned (OpenSpec.ofChange regionPartsSpec)

/-- ITS FALSE NEIGHBOUR: 'it returns false'. Refute it at one input. -/
def regionPartsWrong : ChangeSpec := { name := "regionParts", fn := fun _ => fun
  | [d1, d2] => { results := [.lit (.bool false)], args := [d1, d2] }
  | _ => none }
def RegionPartsWrongFalsely : Prop := regionPartsRow.holds Try.pinned (OpenSpec.ofChange regionPartsWrong)

/-- 'headgatelaw24.RegionUndo': WHATEVER THE INPUT: true; the input reads as it did. -/
def regionUndoSpec : ChangeSpec := { name := "regionUndo", fn := fun _ => fun
  | [d1, d2, d3] => { results := [.lit (.bool true)], args := [d1, d2, d3] }
  | _ => none }
def regionUndoRow : OpenClaim := { program := "ytfblbkhiaglelaa", sum := "8fb2a142f7898421ceeaa46add8cfddad45c0b83af1d997a19cbfc6b31332de6", func := "headgate/headgatelaw24.RegionUndo", spec := "regionUndo", inPlace := ["slices.overlaps[headgate/api.Range]"], unfollowed := true, recurses := true, apart := false }
def RegionUndoSaid : Prop := regionUndoRow.holds Try.pinned (OpenSpec.ofChange regionUndoSpec)

/-- ITS FALSE NEIGHBOUR: 'it returns false'. Refute it at one input. -/
def regionUndoWrong : ChangeSpec := { name := "regionUndo", fn := fun _ => fun
  | [d1, d2, d3] => { results := [.lit (.bool false)], args := [d1, d2, d3] }
  | _ => none }
def RegionUndoWrongFalsely : Prop := regionUndoRow.holds Try.pinned (OpenSpec.ofChange regionUndoWrong)

/-- 'headgatelaw24.RegionGaps': WHATEVER THE INPUT: true; the input reads as it did. -/
def regionGapsSpec : ChangeSpec := { name := "regionGaps", fn := fun _ => fun
  | [d] => { results := [.lit (.bool true)], args := [d] }
  | _ => none }
def regionGapsRow : OpenClaim := { program := "ytfblbkhiaglelaa", sum := "8fb2a142f7898421ceeaa46add8cfddad45c0b83af1d997a19cbfc6b31332de6", func := "headgate/headgatelaw24.RegionGaps", spec := "regionGaps", inPlace := ["slices.overlaps[headgate/api.Range]"], unfollowed := true, recurses := true, apart := false }
def RegionGapsSaid : Prop := regionGapsRow.holds Try.pinned (OpenSpec.ofChange regionGapsSpec)

/-- ITS FALSE NEIGHBOUR: 'it returns false'. Refute it at one input. -/
def regionGapsWrong : ChangeSpec := { name := "regionGaps", fn := fun _ => fun
  | [d] => { results := [.lit (.bool false)], args := [d] }
  | _ => none }
def RegionGapsWrongFalsely : Prop := regionGapsRow.holds Try.pinned (OpenSpec.ofChange regionGapsWrong)

/-- 'headgatelaw24.RegionParses': WHATEVER THE INPUT: true; the input reads as it did. -/
def regionParsesSpec : ChangeSpec := { name := "regionParses", fn := fun _ => fun
  | [d] => { results := [.lit (.bool true)], args := [d] }
  | _ => none }
def regionParsesRow : OpenClaim := { program := "ytfblbkhiaglelaa", sum := "8fb2a142f7898421ceeaa46add8cfddad45c0b83af1d997a19cbfc6b31332de6", func := "headgate/headgatelaw24.RegionParses", spec := "regionParses", inPlace := ["slices.overlaps[headgate/api.Range]"], unfollowed := true, recurses := true, apart := false }
def RegionParsesSaid : Prop := regionParsesRow.holds Try.pinned (OpenSpec.ofChange regionParsesSpec)

/-- ITS FALSE NEIGHBOUR: 'it returns false'. Refute it at one input. -/
def regionParsesWrong : ChangeSpec := { name := "regionParses", fn := fun _ => fun
  | [d] => { results := [.lit (.bool false)], args := [d] }
  | _ => none }
def RegionParsesWrongFalsely : Prop := regionParsesRow.holds Try.pinned (OpenSpec.ofChange regionParsesWrong)

/-- 'headgatelaw24.RegionKnown': WHATEVER THE INPUT: true; the input reads as it did. -/
def regionKnownSpec : ChangeSpec := { name := "regionKnown", fn := fun _ => fun
  | [] => { results := [.lit (.bool true)], args := [] }
  | _ => none }
def regionKnownRow : OpenClaim := { program := "ytfblbkhiaglelaa", sum := "8fb2a142f7898421ceeaa46add8cfddad45c0b83af1d997a19cbfc6b31332de6", func := "headgate/headgatelaw24.RegionKnown", spec := "regionKnown", inPlace := ["slices.overlaps[headgate/api.Range]"], unfollowed := true, recurses := true, apart := false }
def RegionKnownSaid : Prop := regionKnownRow.holds Try.pinned (OpenSpec.ofChange regionKnownSpec)

/-- ITS FALSE NEIGHBOUR: 'it returns false'. Refute it at one input. -/
def regionKnownWrong : ChangeSpec := { name := "regionKnown", fn := fun _ => fun
  | [] => { results := [.lit (.bool false)], args := [] }
  | _ => none }
def RegionKnownWrongFalsely : Prop := regionKnownRow.holds Try.pinned (OpenSpec.ofChange regionKnownWrong)

/- THE SECOND FORM. 'bulk': how many values and letters a reading holds, each counted each time it is reached (what is shared counts as often as it is met; a slice's spare places count too). A statement '..UptoSaid' is the law's where the arguments, and the package variables that the reading takes, are together of bulk at most 1048576: NARROWER than '..Said'. Prove '..Said' where nothing that the law and all that it calls make is longer than what came in: it says more and counts as full. Else prove '..UptoSaid'. A law counts once. -/
mutual
def uptoBulk {H : Type} : DataW H → Nat
  | .lit (.string bytes) => bytes.length + 1
  | .lit _ => 1
  | .nil => 1
  | .ptr d => uptoBulk d + 1
  | .slice elems spare => uptoBulkAll elems + uptoBulkAll spare + 1
  | .agg parts => uptoBulkAll parts + 1
  | .iface _ d => uptoBulk d + 1
  | .map entries => uptoBulkEntries entries + 1
  | .held _ => 1
def uptoBulkAll {H : Type} : List (DataW H) → Nat
  | [] => 0
  | d :: r => uptoBulk d + uptoBulkAll r
def uptoBulkEntries {H : Type} : List (Lit × DataW H) → Nat
  | [] => 0
  | x :: r => uptoBulkEntry x + uptoBulkEntries r
def uptoBulkEntry {H : Type} : Lit × DataW H → Nat
  | (.string bytes, d) => bytes.length + uptoBulk d + 1
  | (_, d) => uptoBulk d + 1
 end
def uptoSmall : (H : Type) → List (DataW H) → Bool := fun _ ds => decide (uptoBulkAll ds ≤ 1048576)
def OpenSpec.upto (s : _root_.Go.ChangeSpec) : _root_.Go.OpenSpec := { _root_.Go.OpenSpec.ofChange s with cond := some uptoSmall }

/-- 'headgatelaw24.RegionChanges', WHERE WHAT IT READS IS OF BULK AT MOST 1048576: true; the input reads as it did. -/
def regionChangesUptoRow : OpenClaim := { program := "ytfblbkhiaglelaa", sum := "8fb2a142f7898421ceeaa46add8cfddad45c0b83af1d997a19cbfc6b31332de6", func := "headgate/headgatelaw24.RegionChanges", spec := "regionChanges", inPlace := ["slices.overlaps[headgate/api.Range]"], unfollowed := true, recurses := true, apart := false, narrowed := true }
def RegionChangesUptoSaid : Prop := regionChangesUptoRow.holds Try.pinned (OpenSpec.upto regionChangesSpec)

/-- 'headgatelaw24.RegionParts', WHERE WHAT IT READS IS OF BULK AT MOST 1048576: true; the input reads as it did. -/
def regionPartsUptoRow : OpenClaim := { program := "ytfblbkhiaglelaa", sum := "8fb2a142f7898421ceeaa46add8cfddad45c0b83af1d997a19cbfc6b31332de6", func := "headgate/headgatelaw24.RegionParts", spec := "regionParts", inPlace := ["slices.overlaps[headgate/api.Range]"], unfollowed := true, recurses := true, apart := false, narrowed := true }
def RegionPartsUptoSaid : Prop := regionPartsUptoRow.holds Try.pinned (OpenSpec.upto regionPartsSpec)

/-- 'headgatelaw24.RegionUndo', WHERE WHAT IT READS IS OF BULK AT MOST 1048576: true; the input reads as it did. -/
def regionUndoUptoRow : OpenClaim := { program := "ytfblbkhiaglelaa", sum := "8fb2a142f7898421ceeaa46add8cfddad45c0b83af1d997a19cbfc6b31332de6", func := "headgate/headgatelaw24.RegionUndo", spec := "regionUndo", inPlace := ["slices.overlaps[headgate/api.Range]"], unfollowed := true, recurses := true, apart := false, narrowed := true }
def RegionUndoUptoSaid : Prop := regionUndoUptoRow.holds Try.pinned (OpenSpec.upto regionUndoSpec)

/-- 'headgatelaw24.RegionGaps', WHERE WHAT IT READS IS OF BULK AT MOST 1048576: true; the input reads as it did. -/
def regionGapsUptoRow : OpenClaim := { program := "ytfblbkhiaglelaa", sum := "8fb2a142f7898421ceeaa46add8cfddad45c0b83af1d997a19cbfc6b31332de6", func := "headgate/headgatelaw24.RegionGaps", spec := "regionGaps", inPlace := ["slices.overlaps[headgate/api.Range]"], unfollowed := true, recurses := true, apart := false, narrowed := true }
def RegionGapsUptoSaid : Prop := regionGapsUptoRow.holds Try.pinned (OpenSpec.upto regionGapsSpec)

/-- 'headgatelaw24.RegionParses', WHERE WHAT IT READS IS OF BULK AT MOST 1048576: true; the input reads as it did. -/
def regionParsesUptoRow : OpenClaim := { program := "ytfblbkhiaglelaa", sum := "8fb2a142f7898421ceeaa46add8cfddad45c0b83af1d997a19cbfc6b31332de6", func := "headgate/headgatelaw24.RegionParses", spec := "regionParses", inPlace := ["slices.overlaps[headgate/api.Range]"], unfollowed := true, recurses := true, apart := false, narrowed := true }
def RegionParsesUptoSaid : Prop := regionParsesUptoRow.holds Try.pinned (OpenSpec.upto regionParsesSpec)

/-- 'headgatelaw24.RegionKnown', WHERE WHAT IT READS IS OF BULK AT MOST 1048576: true; the input reads as it did. -/
def regionKnownUptoRow : OpenClaim := { program := "ytfblbkhiaglelaa", sum := "8fb2a142f7898421ceeaa46add8cfddad45c0b83af1d997a19cbfc6b31332de6", func := "headgate/headgatelaw24.RegionKnown", spec := "regionKnown", inPlace := ["slices.overlaps[headgate/api.Range]"], unfollowed := true, recurses := true, apart := false, narrowed := true }
def RegionKnownUptoSaid : Prop := regionKnownUptoRow.holds Try.pinned (OpenSpec.upto regionKnownSpec)

end Rows
end Go.Proofs.Ytfblbkhiaglelaa
