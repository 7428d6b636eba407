/- The small functions of package bitmap and of math/bits. -/
import Derived.Test.YtihbdndigfnhkaaDoorPop
import Derived.Test.YtihbdndigfnhkaaDoorOwn
import Derived.Test.YtihbdndigfnhkaaDoorProg
namespace Go.Proofs.YtihbdndigfnhkaaDoor
open Go Go.Proofs Go.RowKit
set_option linter.unusedSimpArgs false
set_option linter.unusedVariables false

theorem band (z : Int) (a c : Nat) (hz : z = a) (ha : a < 18446744073709551616) (hc : c < 18446744073709551616) : bits .and .u64 z (c : Int) = ((a &&& c : Nat) : Int) := by
  subst hz; exact u64_and_nat a c ha hc
theorem uwrap (z : Int) (a : Nat) (hz : z = a) (ha : a < 18446744073709551616) : IntKind.u64.wrap z = (a : Int) := by
  subst hz
  have : IntKind.u64.wrap (a : Int) = (a : Int) % 18446744073709551616 := by simp [IntKind.wrap, IntKind.bits, IntKind.signed]
  rw [this]; omega
theorem oc1_lt (x : Nat) : oc1 x < 18446744073709551616 := by
  have h1 : (x / 2 ^ 1) &&& 6148914691236517205 ≤ 6148914691236517205 := Nat.and_le_right
  have h2 : x &&& 6148914691236517205 ≤ 6148914691236517205 := Nat.and_le_right
  unfold oc1; omega
theorem oc2_lt (x : Nat) : oc2 x ≤ 7378697629483820646 := by
  have h1 : (x / 2 ^ 2) &&& 3689348814741910323 ≤ 3689348814741910323 := Nat.and_le_right
  have h2 : x &&& 3689348814741910323 ≤ 3689348814741910323 := Nat.and_le_right
  unfold oc2; omega
theorem and127 (z : Nat) (h : z < 9223372036854775808) : bits .and .i64 (z : Int) 127 = ((z % 128 : Nat) : Int) := by
  have hz : (BitVec.ofInt 64 (z : Int)).toNat = z := by
    rw [BitVec.ofInt_natCast, BitVec.toNat_ofNat]; exact Nat.mod_eq_of_lt (by omega)
  have h7 : (BitVec.ofInt 64 (127 : Int)).toNat = 127 := by decide
  show IntKind.i64.wrap ((BitVec.ofInt 64 (z : Int) &&& BitVec.ofInt 64 (127 : Int)).toNat : Int) = _
  rw [BitVec.toNat_and, hz, h7, nat_mask7, IntWalk.i64_in _ (by omega)]

theorem OnesCount_any (x : Nat) (w : World) (hx : x < 18446744073709551616) :
    Calls Tryd.prog 51 #[.int .u64 x] w fun e w' => e = .returned (.int .i64 (pop x)) ∧ w = w' := by
  go_enter Tryd.func51, Tryd.ntmps51
  go_wp2
  go_ret
  refine ⟨ret_int ?_, rfl⟩
  have b1 := oc1_lt x
  have b2 := oc2_lt (oc1 x)
  obtain ⟨y, hy, q1, q2, q3, q4⟩ := pop_eq x hx
  have e1 : bits .and .u64 ((x : Int) / 2) 6148914691236517205 = (((x / 2 ^ 1) &&& 6148914691236517205 : Nat) : Int) := band _ (x / 2 ^ 1) 6148914691236517205 (by omega) (by omega) (by omega)
  have e2 : bits .and .u64 (x : Int) 6148914691236517205 = ((x &&& 6148914691236517205 : Nat) : Int) := band _ x 6148914691236517205 rfl hx (by omega)
  show bits .and .i64 (wrap64 _) _ = _
  rw [e1, e2]
  have e3 : IntKind.u64.wrap ((((x / 2 ^ 1) &&& 6148914691236517205 : Nat) : Int) + ((x &&& 6148914691236517205 : Nat) : Int)) = (oc1 x : Int) := uwrap _ _ (by unfold oc1; omega) b1
  rw [e3]
  generalize oc1 x = x1 at *
  have e4 : bits .and .u64 ((x1 : Int) / 4) 3689348814741910323 = (((x1 / 2 ^ 2) &&& 3689348814741910323 : Nat) : Int) := band _ (x1 / 2 ^ 2) 3689348814741910323 (by omega) (by omega) (by omega)
  have e5 : bits .and .u64 (x1 : Int) 3689348814741910323 = ((x1 &&& 3689348814741910323 : Nat) : Int) := band _ x1 3689348814741910323 rfl b1 (by omega)
  rw [e4, e5]
  have e6 : IntKind.u64.wrap ((((x1 / 2 ^ 2) &&& 3689348814741910323 : Nat) : Int) + ((x1 &&& 3689348814741910323 : Nat) : Int)) = (oc2 x1 : Int) := uwrap _ _ (by unfold oc2; omega) (by omega)
  rw [e6]
  generalize oc2 x1 = x2 at *
  have e7 : IntKind.u64.wrap ((x2 : Int) / 16 + (x2 : Int)) = ((x2 / 16 + x2 : Nat) : Int) := uwrap _ _ (by omega) (by omega)
  rw [e7]
  have e8 : bits .and .u64 ((x2 / 16 + x2 : Nat) : Int) 1085102592571150095 = (y : Int) := by
    rw [hy]; exact band _ (x2 / 16 + x2) 1085102592571150095 rfl (by omega) (by omega)
  rw [e8]
  have e9 : IntKind.u64.wrap ((y : Int) + (y : Int) / 256) = ((y + y / 256 : Nat) : Int) := uwrap _ _ (by omega) q1
  rw [e9]
  generalize y + y / 256 = y1 at *
  have e10 : IntKind.u64.wrap ((y1 : Int) + (y1 : Int) / 65536) = ((y1 + y1 / 65536 : Nat) : Int) := uwrap _ _ (by omega) q2
  rw [e10]
  generalize y1 + y1 / 65536 = y2 at *
  have e11 : IntKind.u64.wrap ((y2 : Int) + (y2 : Int) / 4294967296) = ((y2 + y2 / 4294967296 : Nat) : Int) := uwrap _ _ (by omega) (by omega)
  rw [e11, IntWalk.wrap64_in _ (by omega), and127 _ q3, q4]

theorem words_any (n : Int) (w : World) (h0 : 0 ≤ n) (h1 : n ≤ 10000) :
    Calls Tryd.prog 50 #[.int .i64 n] w fun e w' => e = .returned (.int .i64 ((n + 63) / 64)) ∧ w = w' := by
  go_enter Tryd.func50, Tryd.ntmps50
  go_wp2
  go_ret
  exact ⟨ret_int (show (n + 64 - 1) / 64 = (n + 63) / 64 by omega), rfl⟩

/-- The word with the bits from lo to hi - 1. -/
def maskV (lo hi : Nat) : Nat := if lo < hi then 2 ^ hi - 2 ^ lo else 0
theorem mask_all : ((List.range 65).all fun lo => (List.range 65).all fun hi => !(decide (lo < hi)) || decide (((18446744073709551615 * 2 ^ lo) % 18446744073709551616) &&& (18446744073709551615 / 2 ^ (64 - hi)) = 2 ^ hi - 2 ^ lo)) = true := by decide +kernel
theorem mask_of (lo hi : Nat) (h : lo < hi) (hh : hi ≤ 64) : ((18446744073709551615 * 2 ^ lo) % 18446744073709551616) &&& (18446744073709551615 / 2 ^ (64 - hi)) = maskV lo hi := by
  have := List.all_eq_true.1 (List.all_eq_true.1 mask_all lo (by simp; omega)) hi (by simp; omega)
  simp [h] at this
  rw [this, maskV, if_pos h]
theorem maskV_bit (lo hi j : Nat) (hh : hi ≤ 64) : (maskV lo hi).testBit j = (decide (lo ≤ j) && decide (j < hi)) := by
  unfold maskV
  split
  · rename_i h
    have e : 2 ^ hi - 2 ^ lo = 2 ^ lo * (2 ^ (hi - lo) - 1) := by
      rw [Nat.mul_sub, ← Nat.pow_add, show lo + (hi - lo) = hi by omega, Nat.mul_one]
    rw [e, Nat.testBit_two_pow_mul, Nat.testBit_two_pow_sub_one, Bool.eq_iff_iff]
    simp
    omega
  · simp
    omega
theorem maskV_lt (lo hi : Nat) (hh : hi ≤ 64) : maskV lo hi < 18446744073709551616 := by
  unfold maskV
  split
  · have := Nat.pow_le_pow_right (n := 2) (by omega) hh
    have h2 := Nat.two_pow_pos lo
    omega
  · omega

/-- low and high of a mask -/
def mkLo (i a : Int) : Nat := (max (a - i * 64) 0).toNat
def mkHi (i b : Int) : Nat := (min (b - i * 64) 64).toNat
theorem mask_int (lo hi : Nat) (zl zh : Int) (h : lo < hi) (hh : hi ≤ 64) (hl : zl = ((18446744073709551615 * 2 ^ lo % 18446744073709551616 : Nat) : Int)) (hz : zh = ((18446744073709551615 / 2 ^ (64 - hi) : Nat) : Int)) :
    bits .and .u64 zl zh = (maskV lo hi : Int) := by
  subst hl hz
  have h2 : 18446744073709551615 / 2 ^ (64 - hi) ≤ 18446744073709551615 := Nat.div_le_self _ _
  rw [u64_and_nat _ _ (Nat.mod_lt _ (by omega)) (by omega), mask_of lo hi h hh]
theorem lo_zero (i a : Int) (h : a - i * 64 < 0) : (18446744073709551615 : Int) = ((18446744073709551615 * 2 ^ mkLo i a % 18446744073709551616 : Nat) : Int) := by
  have : mkLo i a = 0 := by unfold mkLo; omega
  rw [this]; rfl
theorem lo_some (i a : Int) (h : ¬ a - i * 64 < 0) : IntKind.u64.wrap (18446744073709551615 * 2 ^ (a - i * 64).toNat) = ((18446744073709551615 * 2 ^ mkLo i a % 18446744073709551616 : Nat) : Int) := by
  have e : mkLo i a = (a - i * 64).toNat := by unfold mkLo; omega
  rw [e]
  have : ∀ z : Int, IntKind.u64.wrap z = z % 18446744073709551616 := fun z => by simp [IntKind.wrap, IntKind.bits, IntKind.signed]
  rw [this]
  simp
theorem hi_full (i b : Int) (h : 64 < b - i * 64) : (18446744073709551615 : Int) = ((18446744073709551615 / 2 ^ (64 - mkHi i b) : Nat) : Int) := by
  have : mkHi i b = 64 := by unfold mkHi; omega
  rw [this]; rfl
theorem hi_some (i b : Int) (h : ¬ 64 < b - i * 64) (h0 : 0 < b - i * 64) : (18446744073709551615 : Int) / 2 ^ (64 - (b - i * 64)).toNat = ((18446744073709551615 / 2 ^ (64 - mkHi i b) : Nat) : Int) := by
  have e : 64 - mkHi i b = (64 - (b - i * 64)).toNat := by unfold mkHi; omega
  rw [e]
  simp
theorem mask_none (i a b : Int) (w : World) (h0 : 0 ≤ i) (h1 : i ≤ 160) (h2 : 0 ≤ a) (h3 : a ≤ 10000) (h4 : 0 ≤ b) (h5 : b ≤ 10000) (hlt : min (b - i * 64) 64 ≤ max (a - i * 64) 0) :
    Calls Tryd.prog 45 #[.int .i64 i, .int .i64 a, .int .i64 b] w fun e w' => e = .returned (.int .u64 0) ∧ w = w' := by
  go_enter Tryd.func45, Tryd.ntmps45
  go_wp2
  all_goals go_ret
  all_goals exact ⟨rfl, rfl⟩
theorem mask_some (i a b : Int) (w : World) (h0 : 0 ≤ i) (h1 : i ≤ 160) (h2 : 0 ≤ a) (h3 : a ≤ 10000) (h4 : 0 ≤ b) (h5 : b ≤ 10000) (hlt : max (a - i * 64) 0 < min (b - i * 64) 64) :
    Calls Tryd.prog 45 #[.int .i64 i, .int .i64 a, .int .i64 b] w fun e w' => e = .returned (.int .u64 (maskV (mkLo i a) (mkHi i b))) ∧ w = w' := by
  by_cases c1 : a - i * 64 < 0
  · by_cases c2 : 64 < b - i * 64
    · go_enter Tryd.func45, Tryd.ntmps45
      go_wp2
      go_ret
      refine ⟨congrArg (fun z => Ending.returned (.int .u64 z)) (mask_int _ _ _ _ (by unfold mkLo mkHi; omega) (by unfold mkHi; omega) ?_ ?_), rfl⟩
      · exact lo_zero i a c1
      · exact hi_full i b c2
    · go_enter Tryd.func45, Tryd.ntmps45
      go_wp2
      go_ret
      refine ⟨congrArg (fun z => Ending.returned (.int .u64 z)) (mask_int _ _ _ _ (by unfold mkLo mkHi; omega) (by unfold mkHi; omega) ?_ ?_), rfl⟩
      · exact lo_zero i a c1
      · exact hi_some i b (by omega) (by omega)
  · by_cases c2 : 64 < b - i * 64
    · go_enter Tryd.func45, Tryd.ntmps45
      go_wp2
      go_ret
      refine ⟨congrArg (fun z => Ending.returned (.int .u64 z)) (mask_int _ _ _ _ (by unfold mkLo mkHi; omega) (by unfold mkHi; omega) ?_ ?_), rfl⟩
      · exact lo_some i a (by omega)
      · exact hi_full i b c2
    · go_enter Tryd.func45, Tryd.ntmps45
      go_wp2
      go_ret
      refine ⟨congrArg (fun z => Ending.returned (.int .u64 z)) (mask_int _ _ _ _ (by unfold mkLo mkHi; omega) (by unfold mkHi; omega) ?_ ?_), rfl⟩
      · exact lo_some i a (by omega)
      · exact hi_some i b (by omega) (by omega)

theorem mask_any (i a b : Int) (w : World) (h0 : 0 ≤ i) (h1 : i ≤ 160) (h2 : 0 ≤ a) (h3 : a ≤ 10000) (h4 : 0 ≤ b) (h5 : b ≤ 10000) :
    Calls Tryd.prog 45 #[.int .i64 i, .int .i64 a, .int .i64 b] w fun e w' => e = .returned (.int .u64 (maskV (mkLo i a) (mkHi i b))) ∧ w = w' := by
  by_cases h : max (a - i * 64) 0 < min (b - i * 64) 64
  · exact mask_some i a b w h0 h1 h2 h3 h4 h5 h
  · have e : maskV (mkLo i a) (mkHi i b) = 0 := by
      unfold maskV
      rw [if_neg]
      unfold mkLo mkHi
      omega
    rw [e]
    exact mask_none i a b w h0 h1 h2 h3 h4 h5 (by omega)
/-- Which bits a mask has. -/
theorem mask_bit (i : Nat) (a b : Int) (h2 : 0 ≤ a) (j : Nat) (hj : j < 64) : (maskV (mkLo i a) (mkHi i b)).testBit j = (decide (a ≤ ((64 * i + j : Nat) : Int)) && decide (((64 * i + j : Nat) : Int) < b)) := by
  rw [maskV_bit _ _ _ (by unfold mkHi; omega), Bool.eq_iff_iff]
  simp only [Bool.and_eq_true, decide_eq_true_eq]
  unfold mkLo mkHi
  omega
theorem mask_lt (i a b : Int) : maskV (mkLo i a) (mkHi i b) < 18446744073709551616 := maskV_lt _ _ (by unfold mkHi; omega)

end Go.Proofs.YtihbdndigfnhkaaDoor
