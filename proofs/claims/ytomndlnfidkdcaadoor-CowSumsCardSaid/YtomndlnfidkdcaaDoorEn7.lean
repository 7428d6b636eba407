/- Entries of a page table: which entry a word is, by the reference. -/
import Derived.Test.YtomndlnfidkdcaaDoorEn6
namespace Go.Proofs.YtomndlnfidkdcaaDoor
open Go Go.Proofs Go.RowKit
set_option linter.unusedSimpArgs false
set_option linter.unusedVariables false
set_option maxRecDepth 100000

set_option maxHeartbeats 2000000 in
theorem rUnpack_any (x : Nat) (w : World) (hx : x < 18446744073709551616) :
    Calls Tryd.prog 62 #[.int .u64 x] w fun e w' => EnRes w w' (unpR x) e := by
  have kR := Bk.new w #[.int .i64 0, .int .i64 0, .bool false, .bool false, .bool false] 61
  have hB0 := balloc (Below.refl _ w) (.cells #[.int .i64 0, .int .i64 0, .bool false, .bool false, .bool false] 61)
  by_cases h1 : x % 4 = 3
  · have hv : unpR x = ((0, 0, false, false, false), 16) := by unfold unpR unpE; simp [h1]
    have hI : (x : Int) % 4 = 3 := by omega
    have HV := Lib.hid hv
    clear h1 hv
    go_enter Tryd.func62, Tryd.ntmps62
    go_wp2_with fail
    exact bodyPost_ret (v := .tuple #[.agg #[.int .i64 0, .int .i64 0, .bool false, .bool false, .bool false], .int .i64 16]) (by simp [results, Tryd.results62, go_sem]) rfl ⟨by rw [HV.out], hB0⟩
  by_cases h2 : x / 32 % 8 ≠ 0 ∨ x / 65536 ≠ 0
  · have hv : unpR x = ((0, 0, false, false, false), 3) := by unfold unpR unpE; simp only [if_neg h1, if_pos h2]; rfl
    have hI : ((x : Int) % 4 == 3) = false := by simp; omega
    have HV := Lib.hid hv
    have h2' : (x / 32 % 8 ≠ 0) ∨ (x / 32 % 8 = 0 ∧ x / 65536 ≠ 0) := by omega
    clear h1 h2 hv
    rcases h2' with h2 | ⟨h2, h3⟩
    · have hI2 : ((x : Int) / 32 % 8 != 0) = true := by simp; omega
      clear h2
      go_enter Tryd.func62, Tryd.ntmps62
      go_wp2_with fail
      exact bodyPost_ret (v := .tuple #[.agg #[.int .i64 0, .int .i64 0, .bool false, .bool false, .bool false], .int .i64 3]) (by simp [results, Tryd.results62, go_sem]) rfl ⟨by rw [HV.out], hB0⟩
    · have hI2 : ((x : Int) / 32 % 8 != 0) = false := by simp; omega
      have hI3 : ((x : Int) / 65536 != 0) = true := by simp; omega
      clear h2 h3
      go_enter Tryd.func62, Tryd.ntmps62
      go_wp2_with fail
      exact bodyPost_ret (v := .tuple #[.agg #[.int .i64 0, .int .i64 0, .bool false, .bool false, .bool false], .int .i64 3]) (by simp [results, Tryd.results62, go_sem]) rfl ⟨by rw [HV.out], hB0⟩
  · have hE : unpE x = chk (x % 4 : Nat) (x / 256 : Nat) (decide (x / 4 % 2 = 1)) (decide (x / 8 % 2 = 1)) (decide (x / 16 % 2 = 1)) := by unfold unpE; rw [if_neg h1, if_neg h2]
    have hv1 : unpE x ≠ 0 → unpR x = ((0, 0, false, false, false), unpE x) := fun h => by unfold unpR; rw [if_neg h]
    have hv2 : unpE x = 0 → unpR x = ((((x % 4 : Nat) : Int), ((x / 256 : Nat) : Int), decide (x / 4 % 2 = 1), decide (x / 8 % 2 = 1), decide (x / 16 % 2 = 1)), 0) := fun h => by unfold unpR; rw [if_pos h]
    rw [hE] at hv1 hv2
    have hI : ((x : Int) % 4 == 3) = false := by simp; omega
    have hI2 : ((x : Int) / 32 % 8 != 0) = false := by simp; omega
    have hI3 : ((x : Int) / 65536 != 0) = false := by simp; omega
    have hd1 : ((x : Int) / 4 % 2 == 1) = decide (x / 4 % 2 = 1) := by rw [Bool.eq_iff_iff]; simp; omega
    have hd2 : ((x : Int) / 8 % 2 == 1) = decide (x / 8 % 2 = 1) := by rw [Bool.eq_iff_iff]; simp; omega
    have hd3 : ((x : Int) / 16 % 2 == 1) = decide (x / 16 % 2 = 1) := by rw [Bool.eq_iff_iff]; simp; omega
    have hk4 : x % 4 < 4 := by omega
    have hn2 : x / 256 < 256 := by omega
    have hkI : (x : Int) % 4 = ((x % 4 : Nat) : Int) := by omega
    have hnI : (x : Int) / 256 = ((x / 256 : Nat) : Int) := by omega
    generalize decide (x / 4 % 2 = 1) = a at *
    generalize decide (x / 8 % 2 = 1) = b at *
    generalize decide (x / 16 % 2 = 1) = c at *
    generalize x / 256 = n at *
    have HV1 := Lib.hid hv1
    have HV2 := Lib.hid hv2
    clear hv1 hv2 hE h1 h2
    generalize x % 4 = k at *
    rw [hkI] at hI
    go_enter Tryd.func62, Tryd.ntmps62
    go_wp2_with fail
    refine (rCheck_any _ _ _ _ _ _).mono ?_
    rintro e w5 ⟨rfl, hb5⟩
    have kE := (Bk.new (w.alloc (.cells #[.int .i64 0, .int .i64 0, .bool false, .bool false, .bool false] 61)) #[.int .i64 k, .int .i64 n, .bool a, .bool b, .bool c] 61).to hb5
    rw [World.size_alloc] at kE
    replace kR := (kR.alloc _).to hb5
    have hB1 := bnext (balloc hB0 _) hb5
    clear hb5 hB0 hI hI2 hI3 hd1 hd2 hd3 hkI hnI
    obtain ⟨cR, fR, lR⟩ := kR.facts
    obtain ⟨cE, fE, lE⟩ := kE.facts
    by_cases hz : chk k n a b c = 0
    · have HV := Lib.hid (HV2.out hz)
      have hzb : (chk k n a b c != 0) = false := by simpa using hz
      clear hz
      go_wp2_with fail
      clear cE fE lE kE
      have kF := kR.put5 (.int .i64 k) (.int .i64 n) (.bool a) (.bool b) (.bool c)
      have hBF := below_put5 (b := w.heap.size) (hB1) (by omega) (.int .i64 k) (.int .i64 n) (.bool a) (.bool b) (.bool c)
      generalize ((((w5.setCell ⟨w.heap.size, 0, none⟩ (.int .i64 k)).setCell ⟨w.heap.size, 1, none⟩ (.int .i64 n)).setCell ⟨w.heap.size, 2, none⟩ (.bool a)).setCell ⟨w.heap.size, 3, none⟩ (.bool b)).setCell ⟨w.heap.size, 4, none⟩ (.bool c) = wF at *
      clear cR fR lR
      obtain ⟨cF, fF, lF⟩ := kF.facts
      exact bodyPost_ret (v := .tuple #[.agg #[.int .i64 k, .int .i64 n, .bool a, .bool b, .bool c], .int .i64 (0)]) (by simp [results, Tryd.results62, go_sem, cF]) rfl ⟨by rw [HV.out], hBF⟩
    · have HV := Lib.hid (HV1.out hz)
      have hzb : (chk k n a b c != 0) = true := by simpa using hz
      clear hz
      go_wp2_with fail
      clear cE fE lE kE
      have kF := kR.put5 (.int .i64 0) (.int .i64 0) (.bool false) (.bool false) (.bool false)
      have hBF := below_put5 (b := w.heap.size) (hB1) (by omega) (.int .i64 0) (.int .i64 0) (.bool false) (.bool false) (.bool false)
      generalize ((((w5.setCell ⟨w.heap.size, 0, none⟩ (.int .i64 0)).setCell ⟨w.heap.size, 1, none⟩ (.int .i64 0)).setCell ⟨w.heap.size, 2, none⟩ (.bool false)).setCell ⟨w.heap.size, 3, none⟩ (.bool false)).setCell ⟨w.heap.size, 4, none⟩ (.bool false) = wF at *
      clear cR fR lR
      obtain ⟨cF, fF, lF⟩ := kF.facts
      exact bodyPost_ret (v := .tuple #[.agg #[.int .i64 0, .int .i64 0, .bool false, .bool false, .bool false], .int .i64 (chk k n a b c)]) (by simp [results, Tryd.results62, go_sem, cF]) rfl ⟨by rw [HV.out], hBF⟩
end Go.Proofs.YtomndlnfidkdcaaDoor
