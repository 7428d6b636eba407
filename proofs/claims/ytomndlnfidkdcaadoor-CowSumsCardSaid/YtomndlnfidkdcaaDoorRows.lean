/-
  NARROWER THAN 'FOR EVERY INPUT', by the rows' own cells (each row's printed sentence says how): CowChanges: laid · CowLooks: laid · CowKnown: laid · CowSums: laid · CowForks: laid · CowLast: laid · CowOut: laid.
  DERIVED. THE GIVEN ROWS OF THIS SEAT. 7 by the template 'for every input the law returns true; each argument reads behind the call as it read before'; 0 by the template 'total and deterministic' (their statements: YtomndlnfidkdcaaDoorTotals.lean).
  GIVEN WITH THE SEED: the statements are not yours to turn. If you find one false, say at which input.
  Laid BY PROGRAM, IN A SANDBOX (cutbox-rows.mjs): the forced cells as the released guide's own fill.sh prints them over the translation 5b230120ea69809c… (all of the seat's roots in one cut). By AI agents, Wed Nov 11 2026. No macro, syntax, notation, axiom, sorry.
-/
import Derived.Test.YtomndlnfidkdcaaDoorChecked
import GoSem.Claim
import GoSem.ClaimJoined
import GoSem.ClaimMapViews
import Derived.JoinedTies
import Derived.KernelRfl
namespace Go.Proofs.YtomndlnfidkdcaaDoor
/- THE CELL 'sum', in the pinned program and in every row, IS THE sha256 OF THE DUMP (.gsa) THAT YtomndlnfidkdcaaDoorProg.lean LOADS. Nothing in Lean hashes anything: it is a label: what it is worth is what the hold of that sum in a sandbox is worth. -/
noncomputable def Tryd.pinned : Pinned := { name := "ytomndlnfidkdcaadoor", sum := "5b230120ea69809ca8328dbc25d21564af02bbf19dc18ded999fb04f337b01ca", checked := Tryd.checked }
namespace Rows
def none {H : Type} : Left H := { results := [], args := [] }

/- WHAT THE LISTED PACKAGE-LEVEL VARIABLES READ AS WHEN THE CALL BEGINS. Each datum BY PROGRAM (the guide's laid-datum.mjs) off the statement by which the dump's own 'gosem.cut.vars' lays the variable. In a bare row this is a premise. The card (YtomndlnfidkdcaaDoorCards.lean) ties it to the program's text. -/
def laid_headgate_entry_layout {H : Type} : DataW H := .agg [.agg [.lit (.int .u64 0), .lit (.int .u64 3)], .agg [.lit (.int .u64 2), .lit (.int .u64 7)], .agg [.lit (.int .u64 8), .lit (.int .u64 255)]]

/-- 'headgatelaw26.CowChanges': WHATEVER THE INPUT: true; the input reads as it did. -/
def cowChangesSpec : ChangeSpec := { name := "cowChanges", fn := fun _ => fun
  | [d1, d2, d3, d4, d5] => { results := [.lit (.bool true)], args := [d1, d2, d3, d4, d5] }
  | _ => none }
def cowChangesRow : OpenClaim := { program := "ytomndlnfidkdcaadoor", sum := "5b230120ea69809ca8328dbc25d21564af02bbf19dc18ded999fb04f337b01ca", func := "headgate/headgatelaw26.CowChanges", spec := "cowChanges", unfollowed := true, recurses := true, named := ["headgate/entry.layout"], plainKeys := false, apart := false, laid := [("headgate/entry.layout", laid_headgate_entry_layout)] }
def CowChangesSaid : Prop := cowChangesRow.holds Tryd.pinned (OpenSpec.ofChange cowChangesSpec)

/-- ITS FALSE NEIGHBOUR: 'it returns false'. Refute it at one input. -/
def cowChangesWrong : ChangeSpec := { name := "cowChanges", fn := fun _ => fun
  | [d1, d2, d3, d4, d5] => { results := [.lit (.bool false)], args := [d1, d2, d3, d4, d5] }
  | _ => none }
def CowChangesWrongFalsely : Prop := cowChangesRow.holds Tryd.pinned (OpenSpec.ofChange cowChangesWrong)

/-- 'headgatelaw26.CowLooks': WHATEVER THE INPUT: true; the input reads as it did. -/
def cowLooksSpec : ChangeSpec := { name := "cowLooks", fn := fun _ => fun
  | [d1, d2, d3] => { results := [.lit (.bool true)], args := [d1, d2, d3] }
  | _ => none }
def cowLooksRow : OpenClaim := { program := "ytomndlnfidkdcaadoor", sum := "5b230120ea69809ca8328dbc25d21564af02bbf19dc18ded999fb04f337b01ca", func := "headgate/headgatelaw26.CowLooks", spec := "cowLooks", unfollowed := true, recurses := true, named := ["headgate/entry.layout"], plainKeys := false, apart := false, laid := [("headgate/entry.layout", laid_headgate_entry_layout)] }
def CowLooksSaid : Prop := cowLooksRow.holds Tryd.pinned (OpenSpec.ofChange cowLooksSpec)

/-- ITS FALSE NEIGHBOUR: 'it returns false'. Refute it at one input. -/
def cowLooksWrong : ChangeSpec := { name := "cowLooks", fn := fun _ => fun
  | [d1, d2, d3] => { results := [.lit (.bool false)], args := [d1, d2, d3] }
  | _ => none }
def CowLooksWrongFalsely : Prop := cowLooksRow.holds Tryd.pinned (OpenSpec.ofChange cowLooksWrong)

/-- 'headgatelaw26.CowKnown': WHATEVER THE INPUT: true; the input reads as it did. -/
def cowKnownSpec : ChangeSpec := { name := "cowKnown", fn := fun _ => fun
  | [] => { results := [.lit (.bool true)], args := [] }
  | _ => none }
def cowKnownRow : OpenClaim := { program := "ytomndlnfidkdcaadoor", sum := "5b230120ea69809ca8328dbc25d21564af02bbf19dc18ded999fb04f337b01ca", func := "headgate/headgatelaw26.CowKnown", spec := "cowKnown", unfollowed := true, recurses := true, named := ["headgate/entry.layout"], plainKeys := false, apart := false, laid := [("headgate/entry.layout", laid_headgate_entry_layout)] }
def CowKnownSaid : Prop := cowKnownRow.holds Tryd.pinned (OpenSpec.ofChange cowKnownSpec)

/-- ITS FALSE NEIGHBOUR: 'it returns false'. Refute it at one input. -/
def cowKnownWrong : ChangeSpec := { name := "cowKnown", fn := fun _ => fun
  | [] => { results := [.lit (.bool false)], args := [] }
  | _ => none }
def CowKnownWrongFalsely : Prop := cowKnownRow.holds Tryd.pinned (OpenSpec.ofChange cowKnownWrong)

/-- 'headgatelaw26.CowSums': WHATEVER THE INPUT: true; the input reads as it did. -/
def cowSumsSpec : ChangeSpec := { name := "cowSums", fn := fun _ => fun
  | [d1, d2, d3] => { results := [.lit (.bool true)], args := [d1, d2, d3] }
  | _ => none }
def cowSumsRow : OpenClaim := { program := "ytomndlnfidkdcaadoor", sum := "5b230120ea69809ca8328dbc25d21564af02bbf19dc18ded999fb04f337b01ca", func := "headgate/headgatelaw26.CowSums", spec := "cowSums", unfollowed := true, recurses := true, named := ["headgate/entry.layout"], plainKeys := false, apart := false, laid := [("headgate/entry.layout", laid_headgate_entry_layout)] }
def CowSumsSaid : Prop := cowSumsRow.holds Tryd.pinned (OpenSpec.ofChange cowSumsSpec)

/-- ITS FALSE NEIGHBOUR: 'it returns false'. Refute it at one input. -/
def cowSumsWrong : ChangeSpec := { name := "cowSums", fn := fun _ => fun
  | [d1, d2, d3] => { results := [.lit (.bool false)], args := [d1, d2, d3] }
  | _ => none }
def CowSumsWrongFalsely : Prop := cowSumsRow.holds Tryd.pinned (OpenSpec.ofChange cowSumsWrong)

/-- 'headgatelaw26.CowForks': WHATEVER THE INPUT: true; the input reads as it did. -/
def cowForksSpec : ChangeSpec := { name := "cowForks", fn := fun _ => fun
  | [d1, d2, d3] => { results := [.lit (.bool true)], args := [d1, d2, d3] }
  | _ => none }
def cowForksRow : OpenClaim := { program := "ytomndlnfidkdcaadoor", sum := "5b230120ea69809ca8328dbc25d21564af02bbf19dc18ded999fb04f337b01ca", func := "headgate/headgatelaw26.CowForks", spec := "cowForks", unfollowed := true, recurses := true, named := ["headgate/entry.layout"], plainKeys := false, apart := false, laid := [("headgate/entry.layout", laid_headgate_entry_layout)] }
def CowForksSaid : Prop := cowForksRow.holds Tryd.pinned (OpenSpec.ofChange cowForksSpec)

/-- ITS FALSE NEIGHBOUR: 'it returns false'. Refute it at one input. -/
def cowForksWrong : ChangeSpec := { name := "cowForks", fn := fun _ => fun
  | [d1, d2, d3] => { results := [.lit (.bool false)], args := [d1, d2, d3] }
  | _ => none }
def CowForksWrongFalsely : Prop := cowForksRow.holds Tryd.pinned (OpenSpec.ofChange cowForksWrong)

/-- 'headgatelaw26.CowLast': WHATEVER THE INPUT: true; the input reads as it did. -/
def cowLastSpec : ChangeSpec := { name := "cowLast", fn := fun _ => fun
  | [d1, d2, d3, d4] => { results := [.lit (.bool true)], args := [d1, d2, d3, d4] }
  | _ => none }
def cowLastRow : OpenClaim := { program := "ytomndlnfidkdcaadoor", sum := "5b230120ea69809ca8328dbc25d21564af02bbf19dc18ded999fb04f337b01ca", func := "headgate/headgatelaw26.CowLast", spec := "cowLast", unfollowed := true, recurses := true, named := ["headgate/entry.layout"], plainKeys := false, apart := false, laid := [("headgate/entry.layout", laid_headgate_entry_layout)] }
def CowLastSaid : Prop := cowLastRow.holds Tryd.pinned (OpenSpec.ofChange cowLastSpec)

/-- ITS FALSE NEIGHBOUR: 'it returns false'. Refute it at one input. -/
def cowLastWrong : ChangeSpec := { name := "cowLast", fn := fun _ => fun
  | [d1, d2, d3, d4] => { results := [.lit (.bool false)], args := [d1, d2, d3, d4] }
  | _ => none }
def CowLastWrongFalsely : Prop := cowLastRow.holds Tryd.pinned (OpenSpec.ofChange cowLastWrong)

/-- 'headgatelaw26.CowOut': WHATEVER THE INPUT: true; the input reads as it did. -/
def cowOutSpec : ChangeSpec := { name := "cowOut", fn := fun _ => fun
  | [d1, d2, d3] => { results := [.lit (.bool true)], args := [d1, d2, d3] }
  | _ => none }
def cowOutRow : OpenClaim := { program := "ytomndlnfidkdcaadoor", sum := "5b230120ea69809ca8328dbc25d21564af02bbf19dc18ded999fb04f337b01ca", func := "headgate/headgatelaw26.CowOut", spec := "cowOut", unfollowed := true, recurses := true, named := ["headgate/entry.layout"], plainKeys := false, apart := false, laid := [("headgate/entry.layout", laid_headgate_entry_layout)] }
def CowOutSaid : Prop := cowOutRow.holds Tryd.pinned (OpenSpec.ofChange cowOutSpec)

/-- ITS FALSE NEIGHBOUR: 'it returns false'. Refute it at one input. -/
def cowOutWrong : ChangeSpec := { name := "cowOut", fn := fun _ => fun
  | [d1, d2, d3] => { results := [.lit (.bool false)], args := [d1, d2, d3] }
  | _ => none }
def CowOutWrongFalsely : Prop := cowOutRow.holds Tryd.pinned (OpenSpec.ofChange cowOutWrong)

/- THE SECOND FORM. 'bulk': how many values and letters a reading holds, each counted each time it is reached (what is shared counts as often as it is met; a slice's spare places count too). A statement '..UptoSaid' is the law's where the arguments, and the package variables that the reading takes, are together of bulk at most 1048576: NARROWER than '..Said'. Prove '..Said' where nothing that the law and all that it calls make is longer than what came in: it says more and counts as full. Else prove '..UptoSaid'. A law counts once. -/
mutual
def uptoBulk {H : Type} : DataW H → Nat
  | .lit (.string bytes) => bytes.length + 1
  | .lit _ => 1
  | .nil => 1
  | .ptr d => uptoBulk d + 1
  | .slice elems spare => uptoBulkAll elems + uptoBulkAll spare + 1
  | .agg parts => uptoBulkAll parts + 1
  | .iface _ d => uptoBulk d + 1
  | .map entries => uptoBulkEntries entries + 1
  | .held _ => 1
def uptoBulkAll {H : Type} : List (DataW H) → Nat
  | [] => 0
  | d :: r => uptoBulk d + uptoBulkAll r
def uptoBulkEntries {H : Type} : List (Lit × DataW H) → Nat
  | [] => 0
  | x :: r => uptoBulkEntry x + uptoBulkEntries r
def uptoBulkEntry {H : Type} : Lit × DataW H → Nat
  | (.string bytes, d) => bytes.length + uptoBulk d + 1
  | (_, d) => uptoBulk d + 1
 end
def uptoSmall : (H : Type) → List (DataW H) → Bool := fun _ ds => decide (uptoBulkAll ds ≤ 1048576)
def OpenSpec.upto (s : _root_.Go.ChangeSpec) : _root_.Go.OpenSpec := { _root_.Go.OpenSpec.ofChange s with cond := some uptoSmall }

/-- 'headgatelaw26.CowChanges', WHERE WHAT IT READS IS OF BULK AT MOST 1048576: true; the input reads as it did. -/
def cowChangesUptoRow : OpenClaim := { program := "ytomndlnfidkdcaadoor", sum := "5b230120ea69809ca8328dbc25d21564af02bbf19dc18ded999fb04f337b01ca", func := "headgate/headgatelaw26.CowChanges", spec := "cowChanges", unfollowed := true, recurses := true, named := ["headgate/entry.layout"], plainKeys := false, apart := false, laid := [("headgate/entry.layout", laid_headgate_entry_layout)], narrowed := true }
def CowChangesUptoSaid : Prop := cowChangesUptoRow.holds Tryd.pinned (OpenSpec.upto cowChangesSpec)

/-- 'headgatelaw26.CowLooks', WHERE WHAT IT READS IS OF BULK AT MOST 1048576: true; the input reads as it did. -/
def cowLooksUptoRow : OpenClaim := { program := "ytomndlnfidkdcaadoor", sum := "5b230120ea69809ca8328dbc25d21564af02bbf19dc18ded999fb04f337b01ca", func := "headgate/headgatelaw26.CowLooks", spec := "cowLooks", unfollowed := true, recurses := true, named := ["headgate/entry.layout"], plainKeys := false, apart := false, laid := [("headgate/entry.layout", laid_headgate_entry_layout)], narrowed := true }
def CowLooksUptoSaid : Prop := cowLooksUptoRow.holds Tryd.pinned (OpenSpec.upto cowLooksSpec)

/-- 'headgatelaw26.CowKnown', WHERE WHAT IT READS IS OF BULK AT MOST 1048576: true; the input reads as it did. -/
def cowKnownUptoRow : OpenClaim := { program := "ytomndlnfidkdcaadoor", sum := "5b230120ea69809ca8328dbc25d21564af02bbf19dc18ded999fb04f337b01ca", func := "headgate/headgatelaw26.CowKnown", spec := "cowKnown", unfollowed := true, recurses := true, named := ["headgate/entry.layout"], plainKeys := false, apart := false, laid := [("headgate/entry.layout", laid_headgate_entry_layout)], narrowed := true }
def CowKnownUptoSaid : Prop := cowKnownUptoRow.holds Tryd.pinned (OpenSpec.upto cowKnownSpec)

/-- 'headgatelaw26.CowSums', WHERE WHAT IT READS IS OF BULK AT MOST 1048576: true; the input reads as it did. -/
def cowSumsUptoRow : OpenClaim := { program := "ytomndlnfidkdcaadoor", sum := "5b230120ea69809ca8328dbc25d21564af02bbf19dc18ded999fb04f337b01ca", func := "headgate/headgatelaw26.CowSums", spec := "cowSums", unfollowed := true, recurses := true, named := ["headgate/entry.layout"], plainKeys := false, apart := false, laid := [("headgate/entry.layout", laid_headgate_entry_layout)], narrowed := true }
def CowSumsUptoSaid : Prop := cowSumsUptoRow.holds Tryd.pinned (OpenSpec.upto cowSumsSpec)

/-- 'headgatelaw26.CowForks', WHERE WHAT IT READS IS OF BULK AT MOST 1048576: true; the input reads as it did. -/
def cowForksUptoRow : OpenClaim := { program := "ytomndlnfidkdcaadoor", sum := "5b230120ea69809ca8328dbc25d21564af02bbf19dc18ded999fb04f337b01ca", func := "headgate/headgatelaw26.CowForks", spec := "cowForks", unfollowed := true, recurses := true, named := ["headgate/entry.layout"], plainKeys := false, apart := false, laid := [("headgate/entry.layout", laid_headgate_entry_layout)], narrowed := true }
def CowForksUptoSaid : Prop := cowForksUptoRow.holds Tryd.pinned (OpenSpec.upto cowForksSpec)

/-- 'headgatelaw26.CowLast', WHERE WHAT IT READS IS OF BULK AT MOST 1048576: true; the input reads as it did. -/
def cowLastUptoRow : OpenClaim := { program := "ytomndlnfidkdcaadoor", sum := "5b230120ea69809ca8328dbc25d21564af02bbf19dc18ded999fb04f337b01ca", func := "headgate/headgatelaw26.CowLast", spec := "cowLast", unfollowed := true, recurses := true, named := ["headgate/entry.layout"], plainKeys := false, apart := false, laid := [("headgate/entry.layout", laid_headgate_entry_layout)], narrowed := true }
def CowLastUptoSaid : Prop := cowLastUptoRow.holds Tryd.pinned (OpenSpec.upto cowLastSpec)

/-- 'headgatelaw26.CowOut', WHERE WHAT IT READS IS OF BULK AT MOST 1048576: true; the input reads as it did. -/
def cowOutUptoRow : OpenClaim := { program := "ytomndlnfidkdcaadoor", sum := "5b230120ea69809ca8328dbc25d21564af02bbf19dc18ded999fb04f337b01ca", func := "headgate/headgatelaw26.CowOut", spec := "cowOut", unfollowed := true, recurses := true, named := ["headgate/entry.layout"], plainKeys := false, apart := false, laid := [("headgate/entry.layout", laid_headgate_entry_layout)], narrowed := true }
def CowOutUptoSaid : Prop := cowOutUptoRow.holds Tryd.pinned (OpenSpec.upto cowOutSpec)

end Rows
end Go.Proofs.YtomndlnfidkdcaaDoor
