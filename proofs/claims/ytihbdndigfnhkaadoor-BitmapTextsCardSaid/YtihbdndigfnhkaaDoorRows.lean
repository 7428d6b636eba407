/-
  NARROWER THAN 'FOR EVERY INPUT', by the rows' own cells (each row's printed sentence says how): BitmapPuts: laid · BitmapChecks: laid · BitmapCombines: laid · BitmapTexts: laid · BitmapKnown: laid · BitmapRuns: laid · BitmapSums: laid · BitmapPut: laid · BitmapWalks: laid.
  DERIVED. THE GIVEN ROWS OF THIS SEAT. 9 by the template 'for every input the law returns true; each argument reads behind the call as it read before'; 0 by the template 'total and deterministic' (their statements: YtihbdndigfnhkaaDoorTotals.lean).
  GIVEN WITH THE SEED: the statements are not yours to turn. If you find one false, say at which input.
  Laid BY PROGRAM, IN A SANDBOX (cutbox-rows.mjs): the forced cells as the released guide's own fill.sh prints them over the translation 4be3faba23a9cd98… (all of the seat's roots in one cut). By AI agents, Wed Nov 11 2026. No macro, syntax, notation, axiom, sorry.
-/
import Derived.Test.YtihbdndigfnhkaaDoorChecked
import GoSem.Claim
import GoSem.ClaimJoined
import GoSem.ClaimMapViews
import Derived.JoinedTies
import Derived.KernelRfl
namespace Go.Proofs.YtihbdndigfnhkaaDoor
/- THE CELL 'sum', in the pinned program and in every row, IS THE sha256 OF THE DUMP (.gsa) THAT YtihbdndigfnhkaaDoorProg.lean LOADS. Nothing in Lean hashes anything: it is a label: what it is worth is what the hold of that sum in a sandbox is worth. -/
noncomputable def Tryd.pinned : Pinned := { name := "ytihbdndigfnhkaadoor", sum := "4be3faba23a9cd98135dd42edfb1b5eb4e417cf5ad654276358b3460239d9e55", checked := Tryd.checked }
namespace Rows
def none {H : Type} : Left H := { results := [], args := [] }

/- WHAT THE LISTED PACKAGE-LEVEL VARIABLES READ AS WHEN THE CALL BEGINS. Each datum BY PROGRAM (the guide's laid-datum.mjs) off the statement by which the dump's own 'gosem.cut.vars' lays the variable. In a bare row this is a premise. The card (YtihbdndigfnhkaaDoorCards.lean) ties it to the program's text. -/
def laid_math_bits_deBruijn64tab {H : Type} : DataW H := .agg [.lit (.int .u8 0), .lit (.int .u8 1), .lit (.int .u8 56), .lit (.int .u8 2), .lit (.int .u8 57), .lit (.int .u8 49), .lit (.int .u8 28), .lit (.int .u8 3), .lit (.int .u8 61), .lit (.int .u8 58), .lit (.int .u8 42), .lit (.int .u8 50), .lit (.int .u8 38), .lit (.int .u8 29), .lit (.int .u8 17), .lit (.int .u8 4), .lit (.int .u8 62), .lit (.int .u8 47), .lit (.int .u8 59), .lit (.int .u8 36), .lit (.int .u8 45), .lit (.int .u8 43), .lit (.int .u8 51), .lit (.int .u8 22), .lit (.int .u8 53), .lit (.int .u8 39), .lit (.int .u8 33), .lit (.int .u8 30), .lit (.int .u8 24), .lit (.int .u8 18), .lit (.int .u8 12), .lit (.int .u8 5), .lit (.int .u8 63), .lit (.int .u8 55), .lit (.int .u8 48), .lit (.int .u8 27), .lit (.int .u8 60), .lit (.int .u8 41), .lit (.int .u8 37), .lit (.int .u8 16), .lit (.int .u8 46), .lit (.int .u8 35), .lit (.int .u8 44), .lit (.int .u8 21), .lit (.int .u8 52), .lit (.int .u8 32), .lit (.int .u8 23), .lit (.int .u8 11), .lit (.int .u8 54), .lit (.int .u8 26), .lit (.int .u8 40), .lit (.int .u8 15), .lit (.int .u8 34), .lit (.int .u8 20), .lit (.int .u8 31), .lit (.int .u8 10), .lit (.int .u8 25), .lit (.int .u8 14), .lit (.int .u8 19), .lit (.int .u8 9), .lit (.int .u8 13), .lit (.int .u8 8), .lit (.int .u8 7), .lit (.int .u8 6)]
def laid_math_bits_deBruijn32tab {H : Type} : DataW H := .agg [.lit (.int .u8 0), .lit (.int .u8 1), .lit (.int .u8 28), .lit (.int .u8 2), .lit (.int .u8 29), .lit (.int .u8 14), .lit (.int .u8 24), .lit (.int .u8 3), .lit (.int .u8 30), .lit (.int .u8 22), .lit (.int .u8 20), .lit (.int .u8 15), .lit (.int .u8 25), .lit (.int .u8 17), .lit (.int .u8 4), .lit (.int .u8 8), .lit (.int .u8 31), .lit (.int .u8 27), .lit (.int .u8 13), .lit (.int .u8 23), .lit (.int .u8 21), .lit (.int .u8 19), .lit (.int .u8 16), .lit (.int .u8 7), .lit (.int .u8 26), .lit (.int .u8 12), .lit (.int .u8 18), .lit (.int .u8 6), .lit (.int .u8 11), .lit (.int .u8 5), .lit (.int .u8 10), .lit (.int .u8 9)]
def laid_internal_strconv_uint64pow10 {H : Type} : DataW H := .agg [.lit (.int .u64 1), .lit (.int .u64 10), .lit (.int .u64 100), .lit (.int .u64 1000), .lit (.int .u64 10000), .lit (.int .u64 100000), .lit (.int .u64 1000000), .lit (.int .u64 10000000), .lit (.int .u64 100000000), .lit (.int .u64 1000000000), .lit (.int .u64 10000000000), .lit (.int .u64 100000000000), .lit (.int .u64 1000000000000), .lit (.int .u64 10000000000000), .lit (.int .u64 100000000000000), .lit (.int .u64 1000000000000000), .lit (.int .u64 10000000000000000), .lit (.int .u64 100000000000000000), .lit (.int .u64 1000000000000000000), .lit (.int .u64 10000000000000000000)]

/-- 'headgatelaw01.BitmapPuts': WHATEVER THE INPUT: true; the input reads as it did. -/
def bitmapPutsSpec : ChangeSpec := { name := "bitmapPuts", fn := fun _ => fun
  | [d1, d2, d3, d4] => { results := [.lit (.bool true)], args := [d1, d2, d3, d4] }
  | _ => none }
def bitmapPutsRow : OpenClaim := { program := "ytihbdndigfnhkaadoor", sum := "4be3faba23a9cd98135dd42edfb1b5eb4e417cf5ad654276358b3460239d9e55", func := "headgate/headgatelaw01.BitmapPuts", spec := "bitmapPuts", named := ["math/bits.deBruijn64tab"], apart := false, laid := [("math/bits.deBruijn64tab", laid_math_bits_deBruijn64tab)] }
def BitmapPutsSaid : Prop := bitmapPutsRow.holds Tryd.pinned (OpenSpec.ofChange bitmapPutsSpec)

/-- ITS FALSE NEIGHBOUR: 'it returns false'. Refute it at one input. -/
def bitmapPutsWrong : ChangeSpec := { name := "bitmapPuts", fn := fun _ => fun
  | [d1, d2, d3, d4] => { results := [.lit (.bool false)], args := [d1, d2, d3, d4] }
  | _ => none }
def BitmapPutsWrongFalsely : Prop := bitmapPutsRow.holds Tryd.pinned (OpenSpec.ofChange bitmapPutsWrong)

/-- 'headgatelaw01.BitmapChecks': WHATEVER THE INPUT: true; the input reads as it did. -/
def bitmapChecksSpec : ChangeSpec := { name := "bitmapChecks", fn := fun _ => fun
  | [d1, d2, d3, d4] => { results := [.lit (.bool true)], args := [d1, d2, d3, d4] }
  | _ => none }
def bitmapChecksRow : OpenClaim := { program := "ytihbdndigfnhkaadoor", sum := "4be3faba23a9cd98135dd42edfb1b5eb4e417cf5ad654276358b3460239d9e55", func := "headgate/headgatelaw01.BitmapChecks", spec := "bitmapChecks", named := ["math/bits.deBruijn64tab"], apart := false, laid := [("math/bits.deBruijn64tab", laid_math_bits_deBruijn64tab)] }
def BitmapChecksSaid : Prop := bitmapChecksRow.holds Tryd.pinned (OpenSpec.ofChange bitmapChecksSpec)

/-- ITS FALSE NEIGHBOUR: 'it returns false'. Refute it at one input. -/
def bitmapChecksWrong : ChangeSpec := { name := "bitmapChecks", fn := fun _ => fun
  | [d1, d2, d3, d4] => { results := [.lit (.bool false)], args := [d1, d2, d3, d4] }
  | _ => none }
def BitmapChecksWrongFalsely : Prop := bitmapChecksRow.holds Tryd.pinned (OpenSpec.ofChange bitmapChecksWrong)

/-- 'headgatelaw01.BitmapCombines': WHATEVER THE INPUT: true; the input reads as it did. -/
def bitmapCombinesSpec : ChangeSpec := { name := "bitmapCombines", fn := fun _ => fun
  | [d1, d2, d3] => { results := [.lit (.bool true)], args := [d1, d2, d3] }
  | _ => none }
def bitmapCombinesRow : OpenClaim := { program := "ytihbdndigfnhkaadoor", sum := "4be3faba23a9cd98135dd42edfb1b5eb4e417cf5ad654276358b3460239d9e55", func := "headgate/headgatelaw01.BitmapCombines", spec := "bitmapCombines", unfollowed := true, recurses := true, named := ["math/bits.deBruijn64tab"], apart := false, laid := [("math/bits.deBruijn64tab", laid_math_bits_deBruijn64tab)] }
def BitmapCombinesSaid : Prop := bitmapCombinesRow.holds Tryd.pinned (OpenSpec.ofChange bitmapCombinesSpec)

/-- ITS FALSE NEIGHBOUR: 'it returns false'. Refute it at one input. -/
def bitmapCombinesWrong : ChangeSpec := { name := "bitmapCombines", fn := fun _ => fun
  | [d1, d2, d3] => { results := [.lit (.bool false)], args := [d1, d2, d3] }
  | _ => none }
def BitmapCombinesWrongFalsely : Prop := bitmapCombinesRow.holds Tryd.pinned (OpenSpec.ofChange bitmapCombinesWrong)

/-- 'headgatelaw01.BitmapTexts': WHATEVER THE INPUT: true; the input reads as it did. -/
def bitmapTextsSpec : ChangeSpec := { name := "bitmapTexts", fn := fun _ => fun
  | [d1, d2] => { results := [.lit (.bool true)], args := [d1, d2] }
  | _ => none }
def bitmapTextsRow : OpenClaim := { program := "ytihbdndigfnhkaadoor", sum := "4be3faba23a9cd98135dd42edfb1b5eb4e417cf5ad654276358b3460239d9e55", func := "headgate/headgatelaw01.BitmapTexts", spec := "bitmapTexts", inPlace := ["internal/bytealg.IndexByteString", "internal/bytealg.IndexString"], named := ["math/bits.deBruijn64tab", "internal/strconv.uint64pow10", "math/bits.deBruijn32tab", "internal/bytealg.MaxLen"], apart := false, laid := [("math/bits.deBruijn32tab", laid_math_bits_deBruijn32tab), ("math/bits.deBruijn64tab", laid_math_bits_deBruijn64tab), ("internal/strconv.uint64pow10", laid_internal_strconv_uint64pow10)] }
def BitmapTextsSaid : Prop := bitmapTextsRow.holds Tryd.pinned (OpenSpec.ofChange bitmapTextsSpec)

/-- ITS FALSE NEIGHBOUR: 'it returns false'. Refute it at one input. -/
def bitmapTextsWrong : ChangeSpec := { name := "bitmapTexts", fn := fun _ => fun
  | [d1, d2] => { results := [.lit (.bool false)], args := [d1, d2] }
  | _ => none }
def BitmapTextsWrongFalsely : Prop := bitmapTextsRow.holds Tryd.pinned (OpenSpec.ofChange bitmapTextsWrong)

/-- 'headgatelaw01.BitmapKnown': WHATEVER THE INPUT: true; the input reads as it did. -/
def bitmapKnownSpec : ChangeSpec := { name := "bitmapKnown", fn := fun _ => fun
  | [] => { results := [.lit (.bool true)], args := [] }
  | _ => none }
def bitmapKnownRow : OpenClaim := { program := "ytihbdndigfnhkaadoor", sum := "4be3faba23a9cd98135dd42edfb1b5eb4e417cf5ad654276358b3460239d9e55", func := "headgate/headgatelaw01.BitmapKnown", spec := "bitmapKnown", inPlace := ["internal/bytealg.IndexByteString", "internal/bytealg.IndexString"], unfollowed := true, recurses := true, named := ["math/bits.deBruijn64tab", "internal/strconv.uint64pow10", "math/bits.deBruijn32tab", "internal/bytealg.MaxLen"], apart := false, laid := [("math/bits.deBruijn32tab", laid_math_bits_deBruijn32tab), ("math/bits.deBruijn64tab", laid_math_bits_deBruijn64tab), ("internal/strconv.uint64pow10", laid_internal_strconv_uint64pow10)] }
def BitmapKnownSaid : Prop := bitmapKnownRow.holds Tryd.pinned (OpenSpec.ofChange bitmapKnownSpec)

/-- ITS FALSE NEIGHBOUR: 'it returns false'. Refute it at one input. -/
def bitmapKnownWrong : ChangeSpec := { name := "bitmapKnown", fn := fun _ => fun
  | [] => { results := [.lit (.bool false)], args := [] }
  | _ => none }
def BitmapKnownWrongFalsely : Prop := bitmapKnownRow.holds Tryd.pinned (OpenSpec.ofChange bitmapKnownWrong)

/-- 'headgatelaw01.BitmapRuns': WHATEVER THE INPUT: true; the input reads as it did. -/
def bitmapRunsSpec : ChangeSpec := { name := "bitmapRuns", fn := fun _ => fun
  | [d1, d2, d3, d4] => { results := [.lit (.bool true)], args := [d1, d2, d3, d4] }
  | _ => none }
def bitmapRunsRow : OpenClaim := { program := "ytihbdndigfnhkaadoor", sum := "4be3faba23a9cd98135dd42edfb1b5eb4e417cf5ad654276358b3460239d9e55", func := "headgate/headgatelaw01.BitmapRuns", spec := "bitmapRuns", inPlace := ["internal/bytealg.IndexByteString", "internal/bytealg.IndexString"], unfollowed := true, recurses := true, named := ["math/bits.deBruijn64tab", "internal/strconv.uint64pow10", "math/bits.deBruijn32tab", "internal/bytealg.MaxLen"], apart := false, laid := [("math/bits.deBruijn32tab", laid_math_bits_deBruijn32tab), ("math/bits.deBruijn64tab", laid_math_bits_deBruijn64tab), ("internal/strconv.uint64pow10", laid_internal_strconv_uint64pow10)] }
def BitmapRunsSaid : Prop := bitmapRunsRow.holds Tryd.pinned (OpenSpec.ofChange bitmapRunsSpec)

/-- ITS FALSE NEIGHBOUR: 'it returns false'. Refute it at one input. -/
def bitmapRunsWrong : ChangeSpec := { name := "bitmapRuns", fn := fun _ => fun
  | [d1, d2, d3, d4] => { results := [.lit (.bool false)], args := [d1, d2, d3, d4] }
  | _ => none }
def BitmapRunsWrongFalsely : Prop := bitmapRunsRow.holds Tryd.pinned (OpenSpec.ofChange bitmapRunsWrong)

/-- 'headgatelaw01.BitmapSums': WHATEVER THE INPUT: true; the input reads as it did. -/
def bitmapSumsSpec : ChangeSpec := { name := "bitmapSums", fn := fun _ => fun
  | [d1, d2, d3] => { results := [.lit (.bool true)], args := [d1, d2, d3] }
  | _ => none }
def bitmapSumsRow : OpenClaim := { program := "ytihbdndigfnhkaadoor", sum := "4be3faba23a9cd98135dd42edfb1b5eb4e417cf5ad654276358b3460239d9e55", func := "headgate/headgatelaw01.BitmapSums", spec := "bitmapSums", inPlace := ["internal/bytealg.IndexByteString", "internal/bytealg.IndexString"], unfollowed := true, recurses := true, named := ["math/bits.deBruijn64tab", "internal/strconv.uint64pow10", "math/bits.deBruijn32tab", "internal/bytealg.MaxLen"], apart := false, laid := [("math/bits.deBruijn32tab", laid_math_bits_deBruijn32tab), ("math/bits.deBruijn64tab", laid_math_bits_deBruijn64tab), ("internal/strconv.uint64pow10", laid_internal_strconv_uint64pow10)] }
def BitmapSumsSaid : Prop := bitmapSumsRow.holds Tryd.pinned (OpenSpec.ofChange bitmapSumsSpec)

/-- ITS FALSE NEIGHBOUR: 'it returns false'. Refute it at one input. -/
def bitmapSumsWrong : ChangeSpec := { name := "bitmapSums", fn := fun _ => fun
  | [d1, d2, d3] => { results := [.lit (.bool false)], args := [d1, d2, d3] }
  | _ => none }
def BitmapSumsWrongFalsely : Prop := bitmapSumsRow.holds Tryd.pinned (OpenSpec.ofChange bitmapSumsWrong)

/-- 'headgatelaw01.BitmapPut': WHATEVER THE INPUT: true; the input reads as it did. -/
def bitmapPutSpec : ChangeSpec := { name := "bitmapPut", fn := fun _ => fun
  | [d1, d2, d3, d4] => { results := [.lit (.bool true)], args := [d1, d2, d3, d4] }
  | _ => none }
def bitmapPutRow : OpenClaim := { program := "ytihbdndigfnhkaadoor", sum := "4be3faba23a9cd98135dd42edfb1b5eb4e417cf5ad654276358b3460239d9e55", func := "headgate/headgatelaw01.BitmapPut", spec := "bitmapPut", inPlace := ["internal/bytealg.IndexByteString", "internal/bytealg.IndexString"], unfollowed := true, recurses := true, named := ["math/bits.deBruijn64tab", "internal/strconv.uint64pow10", "math/bits.deBruijn32tab", "internal/bytealg.MaxLen"], apart := false, laid := [("math/bits.deBruijn32tab", laid_math_bits_deBruijn32tab), ("math/bits.deBruijn64tab", laid_math_bits_deBruijn64tab), ("internal/strconv.uint64pow10", laid_internal_strconv_uint64pow10)] }
def BitmapPutSaid : Prop := bitmapPutRow.holds Tryd.pinned (OpenSpec.ofChange bitmapPutSpec)

/-- ITS FALSE NEIGHBOUR: 'it returns false'. Refute it at one input. -/
def bitmapPutWrong : ChangeSpec := { name := "bitmapPut", fn := fun _ => fun
  | [d1, d2, d3, d4] => { results := [.lit (.bool false)], args := [d1, d2, d3, d4] }
  | _ => none }
def BitmapPutWrongFalsely : Prop := bitmapPutRow.holds Tryd.pinned (OpenSpec.ofChange bitmapPutWrong)

/-- 'headgatelaw01.BitmapWalks': WHATEVER THE INPUT: true; the input reads as it did. -/
def bitmapWalksSpec : ChangeSpec := { name := "bitmapWalks", fn := fun _ => fun
  | [d1, d2] => { results := [.lit (.bool true)], args := [d1, d2] }
  | _ => none }
def bitmapWalksRow : OpenClaim := { program := "ytihbdndigfnhkaadoor", sum := "4be3faba23a9cd98135dd42edfb1b5eb4e417cf5ad654276358b3460239d9e55", func := "headgate/headgatelaw01.BitmapWalks", spec := "bitmapWalks", inPlace := ["internal/bytealg.IndexByteString", "internal/bytealg.IndexString"], unfollowed := true, recurses := true, named := ["math/bits.deBruijn64tab", "internal/strconv.uint64pow10", "math/bits.deBruijn32tab", "internal/bytealg.MaxLen"], apart := false, laid := [("math/bits.deBruijn32tab", laid_math_bits_deBruijn32tab), ("math/bits.deBruijn64tab", laid_math_bits_deBruijn64tab), ("internal/strconv.uint64pow10", laid_internal_strconv_uint64pow10)] }
def BitmapWalksSaid : Prop := bitmapWalksRow.holds Tryd.pinned (OpenSpec.ofChange bitmapWalksSpec)

/-- ITS FALSE NEIGHBOUR: 'it returns false'. Refute it at one input. -/
def bitmapWalksWrong : ChangeSpec := { name := "bitmapWalks", fn := fun _ => fun
  | [d1, d2] => { results := [.lit (.bool false)], args := [d1, d2] }
  | _ => none }
def BitmapWalksWrongFalsely : Prop := bitmapWalksRow.holds Tryd.pinned (OpenSpec.ofChange bitmapWalksWrong)

/- THE SECOND FORM. 'bulk': how many values and letters a reading holds, each counted each time it is reached (what is shared counts as often as it is met; a slice's spare places count too). A statement '..UptoSaid' is the law's where the arguments, and the package variables that the reading takes, are together of bulk at most 1048576: NARROWER than '..Said'. Prove '..Said' where nothing that the law and all that it calls make is longer than what came in: it says more and counts as full. Else prove '..UptoSaid'. A law counts once. -/
mutual
def uptoBulk {H : Type} : DataW H → Nat
  | .lit (.string bytes) => bytes.length + 1
  | .lit _ => 1
  | .nil => 1
  | .ptr d => uptoBulk d + 1
  | .slice elems spare => uptoBulkAll elems + uptoBulkAll spare + 1
  | .agg parts => uptoBulkAll parts + 1
  | .iface _ d => uptoBulk d + 1
  | .map entries => uptoBulkEntries entries + 1
  | .held _ => 1
def uptoBulkAll {H : Type} : List (DataW H) → Nat
  | [] => 0
  | d :: r => uptoBulk d + uptoBulkAll r
def uptoBulkEntries {H : Type} : List (Lit × DataW H) → Nat
  | [] => 0
  | x :: r => uptoBulkEntry x + uptoBulkEntries r
def uptoBulkEntry {H : Type} : Lit × DataW H → Nat
  | (.string bytes, d) => bytes.length + uptoBulk d + 1
  | (_, d) => uptoBulk d + 1
 end
def uptoSmall : (H : Type) → List (DataW H) → Bool := fun _ ds => decide (uptoBulkAll ds ≤ 1048576)
def OpenSpec.upto (s : _root_.Go.ChangeSpec) : _root_.Go.OpenSpec := { _root_.Go.OpenSpec.ofChange s with cond := some uptoSmall }

/-- 'headgatelaw01.BitmapPuts', WHERE WHAT IT READS IS OF BULK AT MOST 1048576: true; the input reads as it did. -/
def bitmapPutsUptoRow : OpenClaim := { program := "ytihbdndigfnhkaadoor", sum := "4be3faba23a9cd98135dd42edfb1b5eb4e417cf5ad654276358b3460239d9e55", func := "headgate/headgatelaw01.BitmapPuts", spec := "bitmapPuts", named := ["math/bits.deBruijn64tab"], apart := false, laid := [("math/bits.deBruijn64tab", laid_math_bits_deBruijn64tab)], narrowed := true }
def BitmapPutsUptoSaid : Prop := bitmapPutsUptoRow.holds Tryd.pinned (OpenSpec.upto bitmapPutsSpec)

/-- 'headgatelaw01.BitmapChecks', WHERE WHAT IT READS IS OF BULK AT MOST 1048576: true; the input reads as it did. -/
def bitmapChecksUptoRow : OpenClaim := { program := "ytihbdndigfnhkaadoor", sum := "4be3faba23a9cd98135dd42edfb1b5eb4e417cf5ad654276358b3460239d9e55", func := "headgate/headgatelaw01.BitmapChecks", spec := "bitmapChecks", named := ["math/bits.deBruijn64tab"], apart := false, laid := [("math/bits.deBruijn64tab", laid_math_bits_deBruijn64tab)], narrowed := true }
def BitmapChecksUptoSaid : Prop := bitmapChecksUptoRow.holds Tryd.pinned (OpenSpec.upto bitmapChecksSpec)

/-- 'headgatelaw01.BitmapCombines', WHERE WHAT IT READS IS OF BULK AT MOST 1048576: true; the input reads as it did. -/
def bitmapCombinesUptoRow : OpenClaim := { program := "ytihbdndigfnhkaadoor", sum := "4be3faba23a9cd98135dd42edfb1b5eb4e417cf5ad654276358b3460239d9e55", func := "headgate/headgatelaw01.BitmapCombines", spec := "bitmapCombines", unfollowed := true, recurses := true, named := ["math/bits.deBruijn64tab"], apart := false, laid := [("math/bits.deBruijn64tab", laid_math_bits_deBruijn64tab)], narrowed := true }
def BitmapCombinesUptoSaid : Prop := bitmapCombinesUptoRow.holds Tryd.pinned (OpenSpec.upto bitmapCombinesSpec)

/-- 'headgatelaw01.BitmapTexts', WHERE WHAT IT READS IS OF BULK AT MOST 1048576: true; the input reads as it did. -/
def bitmapTextsUptoRow : OpenClaim := { program := "ytihbdndigfnhkaadoor", sum := "4be3faba23a9cd98135dd42edfb1b5eb4e417cf5ad654276358b3460239d9e55", func := "headgate/headgatelaw01.BitmapTexts", spec := "bitmapTexts", inPlace := ["internal/bytealg.IndexByteString", "internal/bytealg.IndexString"], named := ["math/bits.deBruijn64tab", "internal/strconv.uint64pow10", "math/bits.deBruijn32tab", "internal/bytealg.MaxLen"], apart := false, laid := [("math/bits.deBruijn32tab", laid_math_bits_deBruijn32tab), ("math/bits.deBruijn64tab", laid_math_bits_deBruijn64tab), ("internal/strconv.uint64pow10", laid_internal_strconv_uint64pow10)], narrowed := true }
def BitmapTextsUptoSaid : Prop := bitmapTextsUptoRow.holds Tryd.pinned (OpenSpec.upto bitmapTextsSpec)

/-- 'headgatelaw01.BitmapKnown', WHERE WHAT IT READS IS OF BULK AT MOST 1048576: true; the input reads as it did. -/
def bitmapKnownUptoRow : OpenClaim := { program := "ytihbdndigfnhkaadoor", sum := "4be3faba23a9cd98135dd42edfb1b5eb4e417cf5ad654276358b3460239d9e55", func := "headgate/headgatelaw01.BitmapKnown", spec := "bitmapKnown", inPlace := ["internal/bytealg.IndexByteString", "internal/bytealg.IndexString"], unfollowed := true, recurses := true, named := ["math/bits.deBruijn64tab", "internal/strconv.uint64pow10", "math/bits.deBruijn32tab", "internal/bytealg.MaxLen"], apart := false, laid := [("math/bits.deBruijn32tab", laid_math_bits_deBruijn32tab), ("math/bits.deBruijn64tab", laid_math_bits_deBruijn64tab), ("internal/strconv.uint64pow10", laid_internal_strconv_uint64pow10)], narrowed := true }
def BitmapKnownUptoSaid : Prop := bitmapKnownUptoRow.holds Tryd.pinned (OpenSpec.upto bitmapKnownSpec)

/-- 'headgatelaw01.BitmapRuns', WHERE WHAT IT READS IS OF BULK AT MOST 1048576: true; the input reads as it did. -/
def bitmapRunsUptoRow : OpenClaim := { program := "ytihbdndigfnhkaadoor", sum := "4be3faba23a9cd98135dd42edfb1b5eb4e417cf5ad654276358b3460239d9e55", func := "headgate/headgatelaw01.BitmapRuns", spec := "bitmapRuns", inPlace := ["internal/bytealg.IndexByteString", "internal/bytealg.IndexString"], unfollowed := true, recurses := true, named := ["math/bits.deBruijn64tab", "internal/strconv.uint64pow10", "math/bits.deBruijn32tab", "internal/bytealg.MaxLen"], apart := false, laid := [("math/bits.deBruijn32tab", laid_math_bits_deBruijn32tab), ("math/bits.deBruijn64tab", laid_math_bits_deBruijn64tab), ("internal/strconv.uint64pow10", laid_internal_strconv_uint64pow10)], narrowed := true }
def BitmapRunsUptoSaid : Prop := bitmapRunsUptoRow.holds Tryd.pinned (OpenSpec.upto bitmapRunsSpec)

/-- 'headgatelaw01.BitmapSums', WHERE WHAT IT READS IS OF BULK AT MOST 1048576: true; the input reads as it did. -/
def bitmapSumsUptoRow : OpenClaim := { program := "ytihbdndigfnhkaadoor", sum := "4be3faba23a9cd98135dd42edfb1b5eb4e417cf5ad654276358b3460239d9e55", func := "headgate/headgatelaw01.BitmapSums", spec := "bitmapSums", inPlace := ["internal/bytealg.IndexByteString", "internal/bytealg.IndexString"], unfollowed := true, recurses := true, named := ["math/bits.deBruijn64tab", "internal/strconv.uint64pow10", "math/bits.deBruijn32tab", "internal/bytealg.MaxLen"], apart := false, laid := [("math/bits.deBruijn32tab", laid_math_bits_deBruijn32tab), ("math/bits.deBruijn64tab", laid_math_bits_deBruijn64tab), ("internal/strconv.uint64pow10", laid_internal_strconv_uint64pow10)], narrowed := true }
def BitmapSumsUptoSaid : Prop := bitmapSumsUptoRow.holds Tryd.pinned (OpenSpec.upto bitmapSumsSpec)

/-- 'headgatelaw01.BitmapPut', WHERE WHAT IT READS IS OF BULK AT MOST 1048576: true; the input reads as it did. -/
def bitmapPutUptoRow : OpenClaim := { program := "ytihbdndigfnhkaadoor", sum := "4be3faba23a9cd98135dd42edfb1b5eb4e417cf5ad654276358b3460239d9e55", func := "headgate/headgatelaw01.BitmapPut", spec := "bitmapPut", inPlace := ["internal/bytealg.IndexByteString", "internal/bytealg.IndexString"], unfollowed := true, recurses := true, named := ["math/bits.deBruijn64tab", "internal/strconv.uint64pow10", "math/bits.deBruijn32tab", "internal/bytealg.MaxLen"], apart := false, laid := [("math/bits.deBruijn32tab", laid_math_bits_deBruijn32tab), ("math/bits.deBruijn64tab", laid_math_bits_deBruijn64tab), ("internal/strconv.uint64pow10", laid_internal_strconv_uint64pow10)], narrowed := true }
def BitmapPutUptoSaid : Prop := bitmapPutUptoRow.holds Tryd.pinned (OpenSpec.upto bitmapPutSpec)

/-- 'headgatelaw01.BitmapWalks', WHERE WHAT IT READS IS OF BULK AT MOST 1048576: true; the input reads as it did. -/
def bitmapWalksUptoRow : OpenClaim := { program := "ytihbdndigfnhkaadoor", sum := "4be3faba23a9cd98135dd42edfb1b5eb4e417cf5ad654276358b3460239d9e55", func := "headgate/headgatelaw01.BitmapWalks", spec := "bitmapWalks", inPlace := ["internal/bytealg.IndexByteString", "internal/bytealg.IndexString"], unfollowed := true, recurses := true, named := ["math/bits.deBruijn64tab", "internal/strconv.uint64pow10", "math/bits.deBruijn32tab", "internal/bytealg.MaxLen"], apart := false, laid := [("math/bits.deBruijn32tab", laid_math_bits_deBruijn32tab), ("math/bits.deBruijn64tab", laid_math_bits_deBruijn64tab), ("internal/strconv.uint64pow10", laid_internal_strconv_uint64pow10)], narrowed := true }
def BitmapWalksUptoSaid : Prop := bitmapWalksUptoRow.holds Tryd.pinned (OpenSpec.upto bitmapWalksSpec)

end Rows
end Go.Proofs.YtihbdndigfnhkaaDoor
