/- What the listed tables give: the powers of ten. -/
import Derived.Test.YtfblbkhiaglelaaDoorRow
import Derived.Test.YtfblbkhiaglelaaDoorRow24
import Derived.Test.YtfblbkhiaglelaaDoorRgZ
import Derived.LaidMore
import Derived.Lib.LaidTab
import Derived.MakeChecks
namespace Go.Proofs.YtfblbkhiaglelaaDoor
open Go Go.RowKit Go.WideShapes Go.ChangeShapes Go.ChangeAt
set_option linter.unusedSimpArgs false
set_option linter.unusedVariables false
set_option maxRecDepth 100000

def laid3 : List (String × DataW Unit) := [("math/bits.deBruijn32tab", Rows.laid_math_bits_deBruijn32tab), ("math/bits.deBruijn64tab", Rows.laid_math_bits_deBruijn64tab), ("internal/strconv.uint64pow10", Rows.laid_internal_strconv_uint64pow10)]
theorem gPow : Tryd.prog.globalNamed "internal/strconv.uint64pow10" = some 0 := by kernel_rfl
theorem tPow : (Tryd.prog.globals[0]?).map (·.type) = some 97 := by kernel_rfl
theorem cPow : Tryd.prog.cellsOf 97 = 20 := by kernel_rfl
theorem cU64 : Tryd.prog.cellsOf 55 = 1 := by kernel_rfl
theorem pow_of {W : World} (h : laidMetH Tryd.prog laid3 W) : PowOK W := by
  rw [MakeChecks.laidMetH_plain _ _ _ (by kernel_rfl)] at h
  obtain ⟨ps, ⟨g0, t0, cs0, f0, p0, q0, hg0, ht0, hv0, hd0, ⟨g1, t1, cs1, f1, p1, q1, hg1, ht1, hv1, hd1, ⟨g2, t2, cs2, f2, p2, q2, hg2, ht2, hv2, hd2, _, _⟩, _⟩, _⟩, _, _⟩ := h
  obtain rfl := Option.some.inj (gPow.symm.trans hg2)
  obtain rfl := Option.some.inj (tPow.symm.trans ht2)
  have hc : cs2.toList = Lib.pow10Tab.map fun z => Value.int .u64 z :=
    Lib.cells_of_tab (zs := Lib.pow10Tab) Tryd.underlying97 Tryd.underlying55 cU64 cPow hd2
  show W.var? Tryd.prog "internal/strconv.uint64pow10" = some (Lib.pow10Tab.map fun z => Value.int .u64 z).toArray
  rw [← hc]
  exact hv2
end Go.Proofs.YtfblbkhiaglelaaDoor
