/- How many bits a word has, by math/bits. -/
import Derived.Test.YtpkgfkhaiifooaaDoorPop
import Derived.Test.YtpkgfkhaiifooaaDoorProg
import Derived.Laws.BitsAllLaws
namespace Go.Proofs.YtpkgfkhaiifooaaDoor
open Go Go.Proofs Go.RowKit
set_option linter.unusedSimpArgs false
set_option linter.unusedVariables false

theorem band (z : Int) (a c : Nat) (hz : z = a) (ha : a < 18446744073709551616) (hc : c < 18446744073709551616) : bits .and .u64 z (c : Int) = ((a &&& c : Nat) : Int) := by
  subst hz; exact u64_and_nat a c ha hc
theorem uwrap (z : Int) (a : Nat) (hz : z = a) (ha : a < 18446744073709551616) : IntKind.u64.wrap z = (a : Int) := by
  subst hz
  have : IntKind.u64.wrap (a : Int) = (a : Int) % 18446744073709551616 := by simp [IntKind.wrap, IntKind.bits, IntKind.signed]
  rw [this]; omega
theorem oc1_lt (x : Nat) : oc1 x < 18446744073709551616 := by
  have h1 : (x / 2 ^ 1) &&& 6148914691236517205 ≤ 6148914691236517205 := Nat.and_le_right
  have h2 : x &&& 6148914691236517205 ≤ 6148914691236517205 := Nat.and_le_right
  unfold oc1; omega
theorem oc2_lt (x : Nat) : oc2 x ≤ 7378697629483820646 := by
  have h1 : (x / 2 ^ 2) &&& 3689348814741910323 ≤ 3689348814741910323 := Nat.and_le_right
  have h2 : x &&& 3689348814741910323 ≤ 3689348814741910323 := Nat.and_le_right
  unfold oc2; omega
theorem and127 (z : Nat) (h : z < 9223372036854775808) : bits .and .i64 (z : Int) 127 = ((z % 128 : Nat) : Int) := by
  have hz : (BitVec.ofInt 64 (z : Int)).toNat = z := by
    rw [BitVec.ofInt_natCast, BitVec.toNat_ofNat]; exact Nat.mod_eq_of_lt (by omega)
  have h7 : (BitVec.ofInt 64 (127 : Int)).toNat = 127 := by decide
  show IntKind.i64.wrap ((BitVec.ofInt 64 (z : Int) &&& BitVec.ofInt 64 (127 : Int)).toNat : Int) = _
  rw [BitVec.toNat_and, hz, h7, nat_mask7, IntWalk.i64_in _ (by omega)]

theorem bit_test (x k : Nat) (hx : x < 18446744073709551616) : (bits .and .u64 ((x : Int) / 2 ^ k) 1 == 1) = x.testBit k := by
  have h : x / 2 ^ k ≤ x := Nat.div_le_self _ _
  have := band ((x : Int) / 2 ^ k) (x / 2 ^ k) 1 (by simp) (by omega) (by omega)
  rw [show ((1 : Nat) : Int) = 1 from rfl] at this
  rw [this, nat_mask1, Nat.testBit_eq_decide_div_mod_eq]
  generalize x / 2 ^ k % 2 = q
  rw [Bool.eq_iff_iff]
  simp
  omega
theorem bit_test0 (x k : Nat) (hx : x < 18446744073709551616) : (bits .and .u64 ((x : Int) / 2 ^ k) 1 != 0) = x.testBit k := by
  have h : x / 2 ^ k ≤ x := Nat.div_le_self _ _
  have := band ((x : Int) / 2 ^ k) (x / 2 ^ k) 1 (by simp) (by omega) (by omega)
  rw [show ((1 : Nat) : Int) = 1 from rfl] at this
  rw [this, nat_mask1, Nat.testBit_eq_decide_div_mod_eq]
  have hq : x / 2 ^ k % 2 < 2 := Nat.mod_lt _ (by omega)
  generalize x / 2 ^ k % 2 = q at hq
  rw [Bool.eq_iff_iff]
  simp
  omega
end Go.Proofs.YtpkgfkhaiifooaaDoor
