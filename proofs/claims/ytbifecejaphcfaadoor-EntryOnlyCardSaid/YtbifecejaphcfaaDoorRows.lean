/-
  NARROWER THAN 'FOR EVERY INPUT', by the rows' own cells (each row's printed sentence says how): EntryWords: laid · EntryReads: laid · EntryChanges: laid · EntryParses: laid · EntryKnown: laid · EntryBack: laid · EntryOnly: laid · EntryFlags: laid.
  DERIVED. THE GIVEN ROWS OF THIS SEAT. 8 by the template 'for every input the law returns true; each argument reads behind the call as it read before'; 0 by the template 'total and deterministic' (their statements: YtbifecejaphcfaaDoorTotals.lean).
  GIVEN WITH THE SEED: the statements are not yours to turn. If you find one false, say at which input.
  Laid BY PROGRAM, IN A SANDBOX (cutbox-rows.mjs): the forced cells as the released guide's own fill.sh prints them over the translation fffcf83f232c5542… (all of the seat's roots in one cut). By AI agents, Wed Nov 11 2026. No macro, syntax, notation, axiom, sorry.
-/
import Derived.Test.YtbifecejaphcfaaDoorChecked
import GoSem.Claim
import GoSem.ClaimJoined
import GoSem.ClaimMapViews
import Derived.JoinedTies
import Derived.KernelRfl
namespace Go.Proofs.YtbifecejaphcfaaDoor
/- THE CELL 'sum', in the pinned program and in every row, IS THE sha256 OF THE DUMP (.gsa) THAT YtbifecejaphcfaaDoorProg.lean LOADS. Nothing in Lean hashes anything: it is a label: what it is worth is what the hold of that sum in a sandbox is worth. -/
noncomputable def Tryd.pinned : Pinned := { name := "ytbifecejaphcfaadoor", sum := "fffcf83f232c5542832f0c458911e27069f0fbf066ec97822fb8e0d9aefa6782", checked := Tryd.checked }
namespace Rows
def none {H : Type} : Left H := { results := [], args := [] }

/- WHAT THE LISTED PACKAGE-LEVEL VARIABLES READ AS WHEN THE CALL BEGINS. Each datum BY PROGRAM (the guide's laid-datum.mjs) off the statement by which the dump's own 'gosem.cut.vars' lays the variable. In a bare row this is a premise. The card (YtbifecejaphcfaaDoorCards.lean) ties it to the program's text. -/
def laid_math_bits_deBruijn32tab {H : Type} : DataW H := .agg [.lit (.int .u8 0), .lit (.int .u8 1), .lit (.int .u8 28), .lit (.int .u8 2), .lit (.int .u8 29), .lit (.int .u8 14), .lit (.int .u8 24), .lit (.int .u8 3), .lit (.int .u8 30), .lit (.int .u8 22), .lit (.int .u8 20), .lit (.int .u8 15), .lit (.int .u8 25), .lit (.int .u8 17), .lit (.int .u8 4), .lit (.int .u8 8), .lit (.int .u8 31), .lit (.int .u8 27), .lit (.int .u8 13), .lit (.int .u8 23), .lit (.int .u8 21), .lit (.int .u8 19), .lit (.int .u8 16), .lit (.int .u8 7), .lit (.int .u8 26), .lit (.int .u8 12), .lit (.int .u8 18), .lit (.int .u8 6), .lit (.int .u8 11), .lit (.int .u8 5), .lit (.int .u8 10), .lit (.int .u8 9)]
def laid_math_bits_deBruijn64tab {H : Type} : DataW H := .agg [.lit (.int .u8 0), .lit (.int .u8 1), .lit (.int .u8 56), .lit (.int .u8 2), .lit (.int .u8 57), .lit (.int .u8 49), .lit (.int .u8 28), .lit (.int .u8 3), .lit (.int .u8 61), .lit (.int .u8 58), .lit (.int .u8 42), .lit (.int .u8 50), .lit (.int .u8 38), .lit (.int .u8 29), .lit (.int .u8 17), .lit (.int .u8 4), .lit (.int .u8 62), .lit (.int .u8 47), .lit (.int .u8 59), .lit (.int .u8 36), .lit (.int .u8 45), .lit (.int .u8 43), .lit (.int .u8 51), .lit (.int .u8 22), .lit (.int .u8 53), .lit (.int .u8 39), .lit (.int .u8 33), .lit (.int .u8 30), .lit (.int .u8 24), .lit (.int .u8 18), .lit (.int .u8 12), .lit (.int .u8 5), .lit (.int .u8 63), .lit (.int .u8 55), .lit (.int .u8 48), .lit (.int .u8 27), .lit (.int .u8 60), .lit (.int .u8 41), .lit (.int .u8 37), .lit (.int .u8 16), .lit (.int .u8 46), .lit (.int .u8 35), .lit (.int .u8 44), .lit (.int .u8 21), .lit (.int .u8 52), .lit (.int .u8 32), .lit (.int .u8 23), .lit (.int .u8 11), .lit (.int .u8 54), .lit (.int .u8 26), .lit (.int .u8 40), .lit (.int .u8 15), .lit (.int .u8 34), .lit (.int .u8 20), .lit (.int .u8 31), .lit (.int .u8 10), .lit (.int .u8 25), .lit (.int .u8 14), .lit (.int .u8 19), .lit (.int .u8 9), .lit (.int .u8 13), .lit (.int .u8 8), .lit (.int .u8 7), .lit (.int .u8 6)]
def laid_internal_strconv_uint64pow10 {H : Type} : DataW H := .agg [.lit (.int .u64 1), .lit (.int .u64 10), .lit (.int .u64 100), .lit (.int .u64 1000), .lit (.int .u64 10000), .lit (.int .u64 100000), .lit (.int .u64 1000000), .lit (.int .u64 10000000), .lit (.int .u64 100000000), .lit (.int .u64 1000000000), .lit (.int .u64 10000000000), .lit (.int .u64 100000000000), .lit (.int .u64 1000000000000), .lit (.int .u64 10000000000000), .lit (.int .u64 100000000000000), .lit (.int .u64 1000000000000000), .lit (.int .u64 10000000000000000), .lit (.int .u64 100000000000000000), .lit (.int .u64 1000000000000000000), .lit (.int .u64 10000000000000000000)]
def laid_headgate_entry_layout {H : Type} : DataW H := .agg [.agg [.lit (.int .u64 0), .lit (.int .u64 3)], .agg [.lit (.int .u64 2), .lit (.int .u64 7)], .agg [.lit (.int .u64 8), .lit (.int .u64 255)]]

/-- 'headgatelaw02.EntryWords': WHATEVER THE INPUT: true; the input reads as it did. -/
def entryWordsSpec : ChangeSpec := { name := "entryWords", fn := fun _ => fun
  | [d] => { results := [.lit (.bool true)], args := [d] }
  | _ => none }
def entryWordsRow : OpenClaim := { program := "ytbifecejaphcfaadoor", sum := "fffcf83f232c5542832f0c458911e27069f0fbf066ec97822fb8e0d9aefa6782", func := "headgate/headgatelaw02.EntryWords", spec := "entryWords", named := ["headgate/entry.layout", "internal/strconv.uint64pow10", "math/bits.deBruijn32tab", "math/bits.deBruijn64tab"], apart := false, laid := [("math/bits.deBruijn32tab", laid_math_bits_deBruijn32tab), ("math/bits.deBruijn64tab", laid_math_bits_deBruijn64tab), ("internal/strconv.uint64pow10", laid_internal_strconv_uint64pow10), ("headgate/entry.layout", laid_headgate_entry_layout)] }
def EntryWordsSaid : Prop := entryWordsRow.holds Tryd.pinned (OpenSpec.ofChange entryWordsSpec)

/-- ITS FALSE NEIGHBOUR: 'it returns false'. Refute it at one input. -/
def entryWordsWrong : ChangeSpec := { name := "entryWords", fn := fun _ => fun
  | [d] => { results := [.lit (.bool false)], args := [d] }
  | _ => none }
def EntryWordsWrongFalsely : Prop := entryWordsRow.holds Tryd.pinned (OpenSpec.ofChange entryWordsWrong)

/-- 'headgatelaw02.EntryReads': WHATEVER THE INPUT: true; the input reads as it did. -/
def entryReadsSpec : ChangeSpec := { name := "entryReads", fn := fun _ => fun
  | [d] => { results := [.lit (.bool true)], args := [d] }
  | _ => none }
def entryReadsRow : OpenClaim := { program := "ytbifecejaphcfaadoor", sum := "fffcf83f232c5542832f0c458911e27069f0fbf066ec97822fb8e0d9aefa6782", func := "headgate/headgatelaw02.EntryReads", spec := "entryReads", named := ["headgate/entry.layout", "internal/strconv.uint64pow10", "math/bits.deBruijn32tab", "math/bits.deBruijn64tab"], apart := false, laid := [("math/bits.deBruijn32tab", laid_math_bits_deBruijn32tab), ("math/bits.deBruijn64tab", laid_math_bits_deBruijn64tab), ("internal/strconv.uint64pow10", laid_internal_strconv_uint64pow10), ("headgate/entry.layout", laid_headgate_entry_layout)] }
def EntryReadsSaid : Prop := entryReadsRow.holds Tryd.pinned (OpenSpec.ofChange entryReadsSpec)

/-- ITS FALSE NEIGHBOUR: 'it returns false'. Refute it at one input. -/
def entryReadsWrong : ChangeSpec := { name := "entryReads", fn := fun _ => fun
  | [d] => { results := [.lit (.bool false)], args := [d] }
  | _ => none }
def EntryReadsWrongFalsely : Prop := entryReadsRow.holds Tryd.pinned (OpenSpec.ofChange entryReadsWrong)

/-- 'headgatelaw02.EntryChanges': WHATEVER THE INPUT: true; the input reads as it did. -/
def entryChangesSpec : ChangeSpec := { name := "entryChanges", fn := fun _ => fun
  | [d1, d2, d3] => { results := [.lit (.bool true)], args := [d1, d2, d3] }
  | _ => none }
def entryChangesRow : OpenClaim := { program := "ytbifecejaphcfaadoor", sum := "fffcf83f232c5542832f0c458911e27069f0fbf066ec97822fb8e0d9aefa6782", func := "headgate/headgatelaw02.EntryChanges", spec := "entryChanges", named := ["headgate/entry.layout", "internal/strconv.uint64pow10", "math/bits.deBruijn32tab", "math/bits.deBruijn64tab"], apart := false, laid := [("math/bits.deBruijn32tab", laid_math_bits_deBruijn32tab), ("math/bits.deBruijn64tab", laid_math_bits_deBruijn64tab), ("internal/strconv.uint64pow10", laid_internal_strconv_uint64pow10), ("headgate/entry.layout", laid_headgate_entry_layout)] }
def EntryChangesSaid : Prop := entryChangesRow.holds Tryd.pinned (OpenSpec.ofChange entryChangesSpec)

/-- ITS FALSE NEIGHBOUR: 'it returns false'. Refute it at one input. -/
def entryChangesWrong : ChangeSpec := { name := "entryChanges", fn := fun _ => fun
  | [d1, d2, d3] => { results := [.lit (.bool false)], args := [d1, d2, d3] }
  | _ => none }
def EntryChangesWrongFalsely : Prop := entryChangesRow.holds Tryd.pinned (OpenSpec.ofChange entryChangesWrong)

/-- 'headgatelaw02.EntryParses': WHATEVER THE INPUT: true; the input reads as it did. -/
def entryParsesSpec : ChangeSpec := { name := "entryParses", fn := fun _ => fun
  | [d] => { results := [.lit (.bool true)], args := [d] }
  | _ => none }
def entryParsesRow : OpenClaim := { program := "ytbifecejaphcfaadoor", sum := "fffcf83f232c5542832f0c458911e27069f0fbf066ec97822fb8e0d9aefa6782", func := "headgate/headgatelaw02.EntryParses", spec := "entryParses", named := ["headgate/entry.layout", "internal/strconv.uint64pow10", "math/bits.deBruijn32tab", "math/bits.deBruijn64tab"], apart := false, laid := [("math/bits.deBruijn32tab", laid_math_bits_deBruijn32tab), ("math/bits.deBruijn64tab", laid_math_bits_deBruijn64tab), ("internal/strconv.uint64pow10", laid_internal_strconv_uint64pow10), ("headgate/entry.layout", laid_headgate_entry_layout)] }
def EntryParsesSaid : Prop := entryParsesRow.holds Tryd.pinned (OpenSpec.ofChange entryParsesSpec)

/-- ITS FALSE NEIGHBOUR: 'it returns false'. Refute it at one input. -/
def entryParsesWrong : ChangeSpec := { name := "entryParses", fn := fun _ => fun
  | [d] => { results := [.lit (.bool false)], args := [d] }
  | _ => none }
def EntryParsesWrongFalsely : Prop := entryParsesRow.holds Tryd.pinned (OpenSpec.ofChange entryParsesWrong)

/-- 'headgatelaw02.EntryKnown': WHATEVER THE INPUT: true; the input reads as it did. -/
def entryKnownSpec : ChangeSpec := { name := "entryKnown", fn := fun _ => fun
  | [] => { results := [.lit (.bool true)], args := [] }
  | _ => none }
def entryKnownRow : OpenClaim := { program := "ytbifecejaphcfaadoor", sum := "fffcf83f232c5542832f0c458911e27069f0fbf066ec97822fb8e0d9aefa6782", func := "headgate/headgatelaw02.EntryKnown", spec := "entryKnown", named := ["headgate/entry.layout", "internal/strconv.uint64pow10", "math/bits.deBruijn32tab", "math/bits.deBruijn64tab"], apart := false, laid := [("math/bits.deBruijn32tab", laid_math_bits_deBruijn32tab), ("math/bits.deBruijn64tab", laid_math_bits_deBruijn64tab), ("internal/strconv.uint64pow10", laid_internal_strconv_uint64pow10), ("headgate/entry.layout", laid_headgate_entry_layout)] }
def EntryKnownSaid : Prop := entryKnownRow.holds Tryd.pinned (OpenSpec.ofChange entryKnownSpec)

/-- ITS FALSE NEIGHBOUR: 'it returns false'. Refute it at one input. -/
def entryKnownWrong : ChangeSpec := { name := "entryKnown", fn := fun _ => fun
  | [] => { results := [.lit (.bool false)], args := [] }
  | _ => none }
def EntryKnownWrongFalsely : Prop := entryKnownRow.holds Tryd.pinned (OpenSpec.ofChange entryKnownWrong)

/-- 'headgatelaw02.EntryBack': WHATEVER THE INPUT: true; the input reads as it did. -/
def entryBackSpec : ChangeSpec := { name := "entryBack", fn := fun _ => fun
  | [d] => { results := [.lit (.bool true)], args := [d] }
  | _ => none }
def entryBackRow : OpenClaim := { program := "ytbifecejaphcfaadoor", sum := "fffcf83f232c5542832f0c458911e27069f0fbf066ec97822fb8e0d9aefa6782", func := "headgate/headgatelaw02.EntryBack", spec := "entryBack", named := ["headgate/entry.layout", "internal/strconv.uint64pow10", "math/bits.deBruijn32tab", "math/bits.deBruijn64tab"], apart := false, laid := [("math/bits.deBruijn32tab", laid_math_bits_deBruijn32tab), ("math/bits.deBruijn64tab", laid_math_bits_deBruijn64tab), ("internal/strconv.uint64pow10", laid_internal_strconv_uint64pow10), ("headgate/entry.layout", laid_headgate_entry_layout)] }
def EntryBackSaid : Prop := entryBackRow.holds Tryd.pinned (OpenSpec.ofChange entryBackSpec)

/-- ITS FALSE NEIGHBOUR: 'it returns false'. Refute it at one input. -/
def entryBackWrong : ChangeSpec := { name := "entryBack", fn := fun _ => fun
  | [d] => { results := [.lit (.bool false)], args := [d] }
  | _ => none }
def EntryBackWrongFalsely : Prop := entryBackRow.holds Tryd.pinned (OpenSpec.ofChange entryBackWrong)

/-- 'headgatelaw02.EntryOnly': WHATEVER THE INPUT: true; the input reads as it did. -/
def entryOnlySpec : ChangeSpec := { name := "entryOnly", fn := fun _ => fun
  | [d1, d2, d3, d4] => { results := [.lit (.bool true)], args := [d1, d2, d3, d4] }
  | _ => none }
def entryOnlyRow : OpenClaim := { program := "ytbifecejaphcfaadoor", sum := "fffcf83f232c5542832f0c458911e27069f0fbf066ec97822fb8e0d9aefa6782", func := "headgate/headgatelaw02.EntryOnly", spec := "entryOnly", named := ["headgate/entry.layout", "internal/strconv.uint64pow10", "math/bits.deBruijn32tab", "math/bits.deBruijn64tab"], apart := false, laid := [("math/bits.deBruijn32tab", laid_math_bits_deBruijn32tab), ("math/bits.deBruijn64tab", laid_math_bits_deBruijn64tab), ("internal/strconv.uint64pow10", laid_internal_strconv_uint64pow10), ("headgate/entry.layout", laid_headgate_entry_layout)] }
def EntryOnlySaid : Prop := entryOnlyRow.holds Tryd.pinned (OpenSpec.ofChange entryOnlySpec)

/-- ITS FALSE NEIGHBOUR: 'it returns false'. Refute it at one input. -/
def entryOnlyWrong : ChangeSpec := { name := "entryOnly", fn := fun _ => fun
  | [d1, d2, d3, d4] => { results := [.lit (.bool false)], args := [d1, d2, d3, d4] }
  | _ => none }
def EntryOnlyWrongFalsely : Prop := entryOnlyRow.holds Tryd.pinned (OpenSpec.ofChange entryOnlyWrong)

/-- 'headgatelaw02.EntryFlags': WHATEVER THE INPUT: true; the input reads as it did. -/
def entryFlagsSpec : ChangeSpec := { name := "entryFlags", fn := fun _ => fun
  | [d1, d2, d3] => { results := [.lit (.bool true)], args := [d1, d2, d3] }
  | _ => none }
def entryFlagsRow : OpenClaim := { program := "ytbifecejaphcfaadoor", sum := "fffcf83f232c5542832f0c458911e27069f0fbf066ec97822fb8e0d9aefa6782", func := "headgate/headgatelaw02.EntryFlags", spec := "entryFlags", named := ["headgate/entry.layout", "internal/strconv.uint64pow10", "math/bits.deBruijn32tab", "math/bits.deBruijn64tab"], apart := false, laid := [("math/bits.deBruijn32tab", laid_math_bits_deBruijn32tab), ("math/bits.deBruijn64tab", laid_math_bits_deBruijn64tab), ("internal/strconv.uint64pow10", laid_internal_strconv_uint64pow10), ("headgate/entry.layout", laid_headgate_entry_layout)] }
def EntryFlagsSaid : Prop := entryFlagsRow.holds Tryd.pinned (OpenSpec.ofChange entryFlagsSpec)

/-- ITS FALSE NEIGHBOUR: 'it returns false'. Refute it at one input. -/
def entryFlagsWrong : ChangeSpec := { name := "entryFlags", fn := fun _ => fun
  | [d1, d2, d3] => { results := [.lit (.bool false)], args := [d1, d2, d3] }
  | _ => none }
def EntryFlagsWrongFalsely : Prop := entryFlagsRow.holds Tryd.pinned (OpenSpec.ofChange entryFlagsWrong)

/- THE SECOND FORM. 'bulk': how many values and letters a reading holds, each counted each time it is reached (what is shared counts as often as it is met; a slice's spare places count too). A statement '..UptoSaid' is the law's where the arguments, and the package variables that the reading takes, are together of bulk at most 1048576: NARROWER than '..Said'. Prove '..Said' where nothing that the law and all that it calls make is longer than what came in: it says more and counts as full. Else prove '..UptoSaid'. A law counts once. -/
mutual
def uptoBulk {H : Type} : DataW H → Nat
  | .lit (.string bytes) => bytes.length + 1
  | .lit _ => 1
  | .nil => 1
  | .ptr d => uptoBulk d + 1
  | .slice elems spare => uptoBulkAll elems + uptoBulkAll spare + 1
  | .agg parts => uptoBulkAll parts + 1
  | .iface _ d => uptoBulk d + 1
  | .map entries => uptoBulkEntries entries + 1
  | .held _ => 1
def uptoBulkAll {H : Type} : List (DataW H) → Nat
  | [] => 0
  | d :: r => uptoBulk d + uptoBulkAll r
def uptoBulkEntries {H : Type} : List (Lit × DataW H) → Nat
  | [] => 0
  | x :: r => uptoBulkEntry x + uptoBulkEntries r
def uptoBulkEntry {H : Type} : Lit × DataW H → Nat
  | (.string bytes, d) => bytes.length + uptoBulk d + 1
  | (_, d) => uptoBulk d + 1
 end
def uptoSmall : (H : Type) → List (DataW H) → Bool := fun _ ds => decide (uptoBulkAll ds ≤ 1048576)
def OpenSpec.upto (s : _root_.Go.ChangeSpec) : _root_.Go.OpenSpec := { _root_.Go.OpenSpec.ofChange s with cond := some uptoSmall }

/-- 'headgatelaw02.EntryWords', WHERE WHAT IT READS IS OF BULK AT MOST 1048576: true; the input reads as it did. -/
def entryWordsUptoRow : OpenClaim := { program := "ytbifecejaphcfaadoor", sum := "fffcf83f232c5542832f0c458911e27069f0fbf066ec97822fb8e0d9aefa6782", func := "headgate/headgatelaw02.EntryWords", spec := "entryWords", named := ["headgate/entry.layout", "internal/strconv.uint64pow10", "math/bits.deBruijn32tab", "math/bits.deBruijn64tab"], apart := false, laid := [("math/bits.deBruijn32tab", laid_math_bits_deBruijn32tab), ("math/bits.deBruijn64tab", laid_math_bits_deBruijn64tab), ("internal/strconv.uint64pow10", laid_internal_strconv_uint64pow10), ("headgate/entry.layout", laid_headgate_entry_layout)], narrowed := true }
def EntryWordsUptoSaid : Prop := entryWordsUptoRow.holds Tryd.pinned (OpenSpec.upto entryWordsSpec)

/-- 'headgatelaw02.EntryReads', WHERE WHAT IT READS IS OF BULK AT MOST 1048576: true; the input reads as it did. -/
def entryReadsUptoRow : OpenClaim := { program := "ytbifecejaphcfaadoor", sum := "fffcf83f232c5542832f0c458911e27069f0fbf066ec97822fb8e0d9aefa6782", func := "headgate/headgatelaw02.EntryReads", spec := "entryReads", named := ["headgate/entry.layout", "internal/strconv.uint64pow10", "math/bits.deBruijn32tab", "math/bits.deBruijn64tab"], apart := false, laid := [("math/bits.deBruijn32tab", laid_math_bits_deBruijn32tab), ("math/bits.deBruijn64tab", laid_math_bits_deBruijn64tab), ("internal/strconv.uint64pow10", laid_internal_strconv_uint64pow10), ("headgate/entry.layout", laid_headgate_entry_layout)], narrowed := true }
def EntryReadsUptoSaid : Prop := entryReadsUptoRow.holds Tryd.pinned (OpenSpec.upto entryReadsSpec)

/-- 'headgatelaw02.EntryChanges', WHERE WHAT IT READS IS OF BULK AT MOST 1048576: true; the input reads as it did. -/
def entryChangesUptoRow : OpenClaim := { program := "ytbifecejaphcfaadoor", sum := "fffcf83f232c5542832f0c458911e27069f0fbf066ec97822fb8e0d9aefa6782", func := "headgate/headgatelaw02.EntryChanges", spec := "entryChanges", named := ["headgate/entry.layout", "internal/strconv.uint64pow10", "math/bits.deBruijn32tab", "math/bits.deBruijn64tab"], apart := false, laid := [("math/bits.deBruijn32tab", laid_math_bits_deBruijn32tab), ("math/bits.deBruijn64tab", laid_math_bits_deBruijn64tab), ("internal/strconv.uint64pow10", laid_internal_strconv_uint64pow10), ("headgate/entry.layout", laid_headgate_entry_layout)], narrowed := true }
def EntryChangesUptoSaid : Prop := entryChangesUptoRow.holds Tryd.pinned (OpenSpec.upto entryChangesSpec)

/-- 'headgatelaw02.EntryParses', WHERE WHAT IT READS IS OF BULK AT MOST 1048576: true; the input reads as it did. -/
def entryParsesUptoRow : OpenClaim := { program := "ytbifecejaphcfaadoor", sum := "fffcf83f232c5542832f0c458911e27069f0fbf066ec97822fb8e0d9aefa6782", func := "headgate/headgatelaw02.EntryParses", spec := "entryParses", named := ["headgate/entry.layout", "internal/strconv.uint64pow10", "math/bits.deBruijn32tab", "math/bits.deBruijn64tab"], apart := false, laid := [("math/bits.deBruijn32tab", laid_math_bits_deBruijn32tab), ("math/bits.deBruijn64tab", laid_math_bits_deBruijn64tab), ("internal/strconv.uint64pow10", laid_internal_strconv_uint64pow10), ("headgate/entry.layout", laid_headgate_entry_layout)], narrowed := true }
def EntryParsesUptoSaid : Prop := entryParsesUptoRow.holds Tryd.pinned (OpenSpec.upto entryParsesSpec)

/-- 'headgatelaw02.EntryKnown', WHERE WHAT IT READS IS OF BULK AT MOST 1048576: true; the input reads as it did. -/
def entryKnownUptoRow : OpenClaim := { program := "ytbifecejaphcfaadoor", sum := "fffcf83f232c5542832f0c458911e27069f0fbf066ec97822fb8e0d9aefa6782", func := "headgate/headgatelaw02.EntryKnown", spec := "entryKnown", named := ["headgate/entry.layout", "internal/strconv.uint64pow10", "math/bits.deBruijn32tab", "math/bits.deBruijn64tab"], apart := false, laid := [("math/bits.deBruijn32tab", laid_math_bits_deBruijn32tab), ("math/bits.deBruijn64tab", laid_math_bits_deBruijn64tab), ("internal/strconv.uint64pow10", laid_internal_strconv_uint64pow10), ("headgate/entry.layout", laid_headgate_entry_layout)], narrowed := true }
def EntryKnownUptoSaid : Prop := entryKnownUptoRow.holds Tryd.pinned (OpenSpec.upto entryKnownSpec)

/-- 'headgatelaw02.EntryBack', WHERE WHAT IT READS IS OF BULK AT MOST 1048576: true; the input reads as it did. -/
def entryBackUptoRow : OpenClaim := { program := "ytbifecejaphcfaadoor", sum := "fffcf83f232c5542832f0c458911e27069f0fbf066ec97822fb8e0d9aefa6782", func := "headgate/headgatelaw02.EntryBack", spec := "entryBack", named := ["headgate/entry.layout", "internal/strconv.uint64pow10", "math/bits.deBruijn32tab", "math/bits.deBruijn64tab"], apart := false, laid := [("math/bits.deBruijn32tab", laid_math_bits_deBruijn32tab), ("math/bits.deBruijn64tab", laid_math_bits_deBruijn64tab), ("internal/strconv.uint64pow10", laid_internal_strconv_uint64pow10), ("headgate/entry.layout", laid_headgate_entry_layout)], narrowed := true }
def EntryBackUptoSaid : Prop := entryBackUptoRow.holds Tryd.pinned (OpenSpec.upto entryBackSpec)

/-- 'headgatelaw02.EntryOnly', WHERE WHAT IT READS IS OF BULK AT MOST 1048576: true; the input reads as it did. -/
def entryOnlyUptoRow : OpenClaim := { program := "ytbifecejaphcfaadoor", sum := "fffcf83f232c5542832f0c458911e27069f0fbf066ec97822fb8e0d9aefa6782", func := "headgate/headgatelaw02.EntryOnly", spec := "entryOnly", named := ["headgate/entry.layout", "internal/strconv.uint64pow10", "math/bits.deBruijn32tab", "math/bits.deBruijn64tab"], apart := false, laid := [("math/bits.deBruijn32tab", laid_math_bits_deBruijn32tab), ("math/bits.deBruijn64tab", laid_math_bits_deBruijn64tab), ("internal/strconv.uint64pow10", laid_internal_strconv_uint64pow10), ("headgate/entry.layout", laid_headgate_entry_layout)], narrowed := true }
def EntryOnlyUptoSaid : Prop := entryOnlyUptoRow.holds Tryd.pinned (OpenSpec.upto entryOnlySpec)

/-- 'headgatelaw02.EntryFlags', WHERE WHAT IT READS IS OF BULK AT MOST 1048576: true; the input reads as it did. -/
def entryFlagsUptoRow : OpenClaim := { program := "ytbifecejaphcfaadoor", sum := "fffcf83f232c5542832f0c458911e27069f0fbf066ec97822fb8e0d9aefa6782", func := "headgate/headgatelaw02.EntryFlags", spec := "entryFlags", named := ["headgate/entry.layout", "internal/strconv.uint64pow10", "math/bits.deBruijn32tab", "math/bits.deBruijn64tab"], apart := false, laid := [("math/bits.deBruijn32tab", laid_math_bits_deBruijn32tab), ("math/bits.deBruijn64tab", laid_math_bits_deBruijn64tab), ("internal/strconv.uint64pow10", laid_internal_strconv_uint64pow10), ("headgate/entry.layout", laid_headgate_entry_layout)], narrowed := true }
def EntryFlagsUptoSaid : Prop := entryFlagsUptoRow.holds Tryd.pinned (OpenSpec.upto entryFlagsSpec)

end Rows
end Go.Proofs.YtbifecejaphcfaaDoor
