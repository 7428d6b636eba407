/- The chapter's example of a page table. -/
import Derived.Test.YtpkgfkhaiifooaaGreatDoorGX
import Derived.Deep.DeepCutAuto
import Derived.Deep.CutBlock
import Derived.Deep.RegionHeld3
namespace Go.Proofs.YtpkgfkhaiifooaaGreatDoor
open Go Go.Proofs Go.RowKit
set_option linter.unusedSimpArgs false
set_option linter.unusedVariables false
set_option maxRecDepth 100000

/-- Leaves and entries of the examples. -/
def xl0 : List Int := List.replicate 8 (-1)
def xl1 : List Int := xl0.set 1 7
def xe0 : List Nat := List.replicate 64 0
def xe1 : List Nat := xe0.set 9 1285
def xe2 : List Nat := xe1.set 10 514
theorem ex_new : newR 3 = ((3, xl0, xe0), 0) := by decide +kernel
theorem ex_leaf : leafR 3 xl0 xe0 1 7 = ((3, xl1, xe0), 0) := by decide +kernel
theorem ex_put1 : putR 3 xl1 xe0 9 1 5 true false false = ((3, xl1, xe1), 0) := by decide +kernel
theorem ex_put2 : putR 3 xl1 xe1 10 2 2 false false false = ((3, xl1, xe2), 0) := by decide +kernel
theorem ex_frm : frmR 3 xl1 xe2 = ([7, 3], 0) := by decide +kernel
theorem ex_cnt : cntR 3 xl1 xe2 = (1, 1, 0) := by decide +kernel
theorem ex_s0 : wsmall xe0 := by unfold wsmall; decide +kernel
theorem ex_s1 : wsmall xe1 := by unfold wsmall; decide +kernel
theorem ex_s2 : wsmall xe2 := by unfold wsmall; decide +kernel

end Go.Proofs.YtpkgfkhaiifooaaGreatDoor
