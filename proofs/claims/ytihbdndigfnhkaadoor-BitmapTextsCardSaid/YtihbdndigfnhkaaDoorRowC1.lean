/- What the listed tables of chapter 1 give: the table of the lowest bit and the powers of ten. -/
import Derived.Test.YtihbdndigfnhkaaDoorRowC
import Derived.Test.YtihbdndigfnhkaaDoorBitY
import Derived.MakeChecks
namespace Go.Proofs.YtihbdndigfnhkaaDoor
open Go Go.RowKit Go.WideShapes Go.ChangeShapes Go.ChangeAt
set_option linter.unusedSimpArgs false
set_option linter.unusedVariables false
set_option maxRecDepth 100000

def laid3 : List (String × DataW Unit) := [("math/bits.deBruijn32tab", Rows.laid_math_bits_deBruijn32tab), ("math/bits.deBruijn64tab", Rows.laid_math_bits_deBruijn64tab), ("internal/strconv.uint64pow10", Rows.laid_internal_strconv_uint64pow10)]
theorem gPow : Tryd.prog.globalNamed "internal/strconv.uint64pow10" = some 2 := by kernel_rfl
theorem tPow : (Tryd.prog.globals[2]?).map (·.type) = some 91 := by kernel_rfl
theorem cPow : Tryd.prog.cellsOf 91 = 20 := by kernel_rfl
theorem cU64 : Tryd.prog.cellsOf 61 = 1 := by kernel_rfl
theorem gDb : Tryd.prog.globalNamed "math/bits.deBruijn64tab" = some 0 := by kernel_rfl
theorem tDb : (Tryd.prog.globals[0]?).map (·.type) = some 83 := by kernel_rfl
theorem cDb : Tryd.prog.cellsOf 83 = 64 := by kernel_rfl
theorem cU8 : Tryd.prog.cellsOf 5 = 1 := by kernel_rfl
theorem glob3_of {W : World} (h : laidMetH Tryd.prog laid3 W) : TabOK W ∧ PowOK W := by
  rw [MakeChecks.laidMetH_plain _ _ _ (by kernel_rfl)] at h
  obtain ⟨ps, ⟨g0, t0, cs0, f0, p0, q0, hg0, ht0, hv0, hd0, ⟨g1, t1, cs1, f1, p1, q1, hg1, ht1, hv1, hd1, ⟨g2, t2, cs2, f2, p2, q2, hg2, ht2, hv2, hd2, _, _⟩, _⟩, _⟩, _, _⟩ := h
  obtain rfl := Option.some.inj (gDb.symm.trans hg1)
  obtain rfl := Option.some.inj (gPow.symm.trans hg2)
  obtain rfl := Option.some.inj (tDb.symm.trans ht1)
  obtain rfl := Option.some.inj (tPow.symm.trans ht2)
  constructor
  · have hc : cs1.toList = dbTab.map fun z => Value.int .u8 z :=
      Lib.cells_of_tab (zs := dbTab) Tryd.underlying83 Tryd.underlying5 cU8 cDb hd1
    have hI : Lib.TabIs Tryd.prog W "math/bits.deBruijn64tab" .u8 dbTab := by
      show W.var? Tryd.prog "math/bits.deBruijn64tab" = some (dbTab.map fun z => Value.int .u8 z).toArray
      rw [← hc]
      exact hv1
    exact fun j hj => hI.cell gDb j hj
  · have hc : cs2.toList = Lib.pow10Tab.map fun z => Value.int .u64 z :=
      Lib.cells_of_tab (zs := Lib.pow10Tab) Tryd.underlying91 Tryd.underlying61 cU64 cPow hd2
    show W.var? Tryd.prog "internal/strconv.uint64pow10" = some (Lib.pow10Tab.map fun z => Value.int .u64 z).toArray
    rw [← hc]
    exact hv2
end Go.Proofs.YtihbdndigfnhkaaDoor
