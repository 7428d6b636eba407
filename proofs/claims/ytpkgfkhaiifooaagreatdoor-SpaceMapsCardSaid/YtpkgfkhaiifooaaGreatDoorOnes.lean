/- How many bits a word has, by math/bits. -/
import Derived.Test.YtpkgfkhaiifooaaGreatDoorPop
import Derived.Test.YtpkgfkhaiifooaaGreatDoorProg
import Derived.Laws.BitsAllLaws
namespace Go.Proofs.YtpkgfkhaiifooaaGreatDoor
open Go Go.Proofs Go.RowKit
set_option linter.unusedSimpArgs false
set_option linter.unusedVariables false

theorem band (z : Int) (a c : Nat) (hz : z = a) (ha : a < 18446744073709551616) (hc : c < 18446744073709551616) : bits .and .u64 z (c : Int) = ((a &&& c : Nat) : Int) := by
  subst hz; exact u64_and_nat a c ha hc
theorem uwrap (z : Int) (a : Nat) (hz : z = a) (ha : a < 18446744073709551616) : IntKind.u64.wrap z = (a : Int) := by
  subst hz
  have : IntKind.u64.wrap (a : Int) = (a : Int) % 18446744073709551616 := by simp [IntKind.wrap, IntKind.bits, IntKind.signed]
  rw [this]; omega
theorem oc1_lt (x : Nat) : oc1 x < 18446744073709551616 := by
  have h1 : (x / 2 ^ 1) &&& 6148914691236517205 ≤ 6148914691236517205 := Nat.and_le_right
  have h2 : x &&& 6148914691236517205 ≤ 6148914691236517205 := Nat.and_le_right
  unfold oc1; omega
theorem oc2_lt (x : Nat) : oc2 x ≤ 7378697629483820646 := by
  have h1 : (x / 2 ^ 2) &&& 3689348814741910323 ≤ 3689348814741910323 := Nat.and_le_right
  have h2 : x &&& 3689348814741910323 ≤ 3689348814741910323 := Nat.and_le_right
  unfold oc2; omega
theorem and127 (z : Nat) (h : z < 9223372036854775808) : bits .and .i64 (z : Int) 127 = ((z % 128 : Nat) : Int) := by
  have hz : (BitVec.ofInt 64 (z : Int)).toNat = z := by
    rw [BitVec.ofInt_natCast, BitVec.toNat_ofNat]; exact Nat.mod_eq_of_lt (by omega)
  have h7 : (BitVec.ofInt 64 (127 : Int)).toNat = 127 := by decide
  show IntKind.i64.wrap ((BitVec.ofInt 64 (z : Int) &&& BitVec.ofInt 64 (127 : Int)).toNat : Int) = _
  rw [BitVec.toNat_and, hz, h7, nat_mask7, IntWalk.i64_in _ (by omega)]

theorem OnesCount_any (x : Nat) (w : World) (hx : x < 18446744073709551616) :
    Calls Tryz.prog 50 #[.int .u64 x] w fun e w' => e = .returned (.int .i64 (pop x)) ∧ w = w' := by
  go_enter Tryz.func50, Tryz.ntmps50
  go_wp2
  go_ret
  refine ⟨ret_int ?_, rfl⟩
  have b1 := oc1_lt x
  have b2 := oc2_lt (oc1 x)
  obtain ⟨y, hy, q1, q2, q3, q4⟩ := pop_eq x hx
  have e1 : bits .and .u64 ((x : Int) / 2) 6148914691236517205 = (((x / 2 ^ 1) &&& 6148914691236517205 : Nat) : Int) := band _ (x / 2 ^ 1) 6148914691236517205 (by omega) (by omega) (by omega)
  have e2 : bits .and .u64 (x : Int) 6148914691236517205 = ((x &&& 6148914691236517205 : Nat) : Int) := band _ x 6148914691236517205 rfl hx (by omega)
  show bits .and .i64 (wrap64 _) _ = _
  rw [e1, e2]
  have e3 : IntKind.u64.wrap ((((x / 2 ^ 1) &&& 6148914691236517205 : Nat) : Int) + ((x &&& 6148914691236517205 : Nat) : Int)) = (oc1 x : Int) := uwrap _ _ (by unfold oc1; omega) b1
  rw [e3]
  generalize oc1 x = x1 at *
  have e4 : bits .and .u64 ((x1 : Int) / 4) 3689348814741910323 = (((x1 / 2 ^ 2) &&& 3689348814741910323 : Nat) : Int) := band _ (x1 / 2 ^ 2) 3689348814741910323 (by omega) (by omega) (by omega)
  have e5 : bits .and .u64 (x1 : Int) 3689348814741910323 = ((x1 &&& 3689348814741910323 : Nat) : Int) := band _ x1 3689348814741910323 rfl b1 (by omega)
  rw [e4, e5]
  have e6 : IntKind.u64.wrap ((((x1 / 2 ^ 2) &&& 3689348814741910323 : Nat) : Int) + ((x1 &&& 3689348814741910323 : Nat) : Int)) = (oc2 x1 : Int) := uwrap _ _ (by unfold oc2; omega) (by omega)
  rw [e6]
  generalize oc2 x1 = x2 at *
  have e7 : IntKind.u64.wrap ((x2 : Int) / 16 + (x2 : Int)) = ((x2 / 16 + x2 : Nat) : Int) := uwrap _ _ (by omega) (by omega)
  rw [e7]
  have e8 : bits .and .u64 ((x2 / 16 + x2 : Nat) : Int) 1085102592571150095 = (y : Int) := by
    rw [hy]; exact band _ (x2 / 16 + x2) 1085102592571150095 rfl (by omega) (by omega)
  rw [e8]
  have e9 : IntKind.u64.wrap ((y : Int) + (y : Int) / 256) = ((y + y / 256 : Nat) : Int) := uwrap _ _ (by omega) q1
  rw [e9]
  generalize y + y / 256 = y1 at *
  have e10 : IntKind.u64.wrap ((y1 : Int) + (y1 : Int) / 65536) = ((y1 + y1 / 65536 : Nat) : Int) := uwrap _ _ (by omega) q2
  rw [e10]
  generalize y1 + y1 / 65536 = y2 at *
  have e11 : IntKind.u64.wrap ((y2 : Int) + (y2 : Int) / 4294967296) = ((y2 + y2 / 4294967296 : Nat) : Int) := uwrap _ _ (by omega) (by omega)
  rw [e11, IntWalk.wrap64_in _ (by omega), and127 _ q3, q4]

theorem bit_test (x k : Nat) (hx : x < 18446744073709551616) : (bits .and .u64 ((x : Int) / 2 ^ k) 1 == 1) = x.testBit k := by
  have h : x / 2 ^ k ≤ x := Nat.div_le_self _ _
  have := band ((x : Int) / 2 ^ k) (x / 2 ^ k) 1 (by simp) (by omega) (by omega)
  rw [show ((1 : Nat) : Int) = 1 from rfl] at this
  rw [this, nat_mask1, Nat.testBit_eq_decide_div_mod_eq]
  generalize x / 2 ^ k % 2 = q
  rw [Bool.eq_iff_iff]
  simp
  omega
theorem bit_test0 (x k : Nat) (hx : x < 18446744073709551616) : (bits .and .u64 ((x : Int) / 2 ^ k) 1 != 0) = x.testBit k := by
  have h : x / 2 ^ k ≤ x := Nat.div_le_self _ _
  have := band ((x : Int) / 2 ^ k) (x / 2 ^ k) 1 (by simp) (by omega) (by omega)
  rw [show ((1 : Nat) : Int) = 1 from rfl] at this
  rw [this, nat_mask1, Nat.testBit_eq_decide_div_mod_eq]
  have hq : x / 2 ^ k % 2 < 2 := Nat.mod_lt _ (by omega)
  generalize x / 2 ^ k % 2 = q at hq
  rw [Bool.eq_iff_iff]
  simp
  omega
end Go.Proofs.YtpkgfkhaiifooaaGreatDoor
