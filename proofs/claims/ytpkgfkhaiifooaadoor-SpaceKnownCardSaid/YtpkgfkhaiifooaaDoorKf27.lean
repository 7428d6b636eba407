/- The chapter's examples of Unmap, Empty, Owner and Moved: plain facts. -/
import Derived.Test.YtpkgfkhaiifooaaDoorSl27
import Derived.Test.YtpkgfkhaiifooaaDoorSpA
namespace Go.Proofs.YtpkgfkhaiifooaaDoor
open Go Go.Proofs Go.RowKit
set_option linter.unusedSimpArgs false
set_option linter.unusedVariables false

instance decEnK : DecidableEq (Int × Int × Bool × Bool × Bool) := inferInstance
instance decLoK : DecidableEq Lo := inferInstanceAs (DecidableEq (Int × (Int × Int × Bool × Bool × Bool) × Int))
def kl1 : List Lo := [(9, (1, 5, true, false, false), -1), (10, (2, 2, false, false, false), 7)]
def kl2 : List Lo := [(9, (1, 5, true, false, false), -1), (10, (2, 2, false, false, false), -1)]
theorem kn_unm1 : (unmS (exS 8 false) 9 10).2 = (kl1, 0) := by decide +kernel
theorem kn_unm2 : (unmS (exS 8 false) 8 8).2 = ([], 0) := by decide +kernel
theorem kn_unm3 : (unmS (exS 8 false) 7 8).2 = ([], 6) := by decide +kernel
theorem kn_emp : (empS (exS 8 false)).2 = (kl2, [7, 3], 0) := by decide +kernel
theorem kn_own : ownR (exS 8 false) 5 = ([9], 0) := by decide +kernel
theorem kn_mov : (movR (exS 8 false) 5 4).2 = (1, 0) := by decide +kernel
theorem kn_set : (setR (exS 8 false) 12 1 5 true false false).2 = 6 := by decide +kernel
def kS5 : Sp := (movR (exS 8 false) 5 4).1
theorem kn_get : getR kS5.2.1 kS5.2.2.1 kS5.2.2.2 9 = ((2, 4, false, false, false), 0) := by decide +kernel
theorem kn_small : kS5.2.2.2.all (fun x => decide (x < 65536)) = true := by decide +kernel
theorem kn_f : accR (exS 8 false) 9 false 1 = (3, 0) ∧ accR (exS 8 false) 9 true 1 = (3, 0) ∧ accR (exS 8 false) 10 false 0 = (8, 0) ∧ accR (exS 0 false) 0 true 0 = (5, 0) ∧ accR (exS 8 true) 9 true 0 = (4, 0) ∧ accR (exS 8 true) 9 true 1 = (4, 0) ∧ accR (exS 8 true) 9 true 2 = (7, 0) := by decide +kernel
end Go.Proofs.YtpkgfkhaiifooaaDoor
