/- Entries of a page table: the flags, the word, what is valid. -/
import Derived.Test.YtomndlnfidkdcaaDoorEn1
import Derived.StillTailTactics
import Derived.IntWalk
import Derived.Deep.RegionHeld3
import Derived.Deep.DeepCutAuto
namespace Go.Proofs.YtomndlnfidkdcaaDoor
open Go Go.Proofs Go.RowKit
set_option linter.unusedSimpArgs false
set_option linter.unusedVariables false
set_option maxRecDepth 100000

theorem with_z (f g : Int) (on : Bool) (r : Int) (w : World) (h : (if on then bits .or .u64 f g else bits .andNot .u64 f g) = r) :
    Calls Tryd.prog 77 #[.int .u64 f, .int .u64 g, .bool on] w fun e w' => e = .returned (.int .u64 r) ∧ w' = w := by
  have H := Lib.hid h
  clear h
  cases on
  all_goals
    go_enter Tryd.func77, Tryd.ntmps77
    go_wp2
    go_ret
    exact ⟨ret_int H.out, rfl⟩

set_option maxHeartbeats 2000000 in
theorem flagsOf_any (k n : Int) (a b c : Bool) (w : World) :
    Calls Tryd.prog 75 #[.agg #[.int .i64 k, .int .i64 n, .bool a, .bool b, .bool c]] w fun e w' => e = .returned (.int .u64 (flagN a b c)) ∧ Below w.heap.size w w' := by
  cases a <;> cases b <;> cases c
  · go_enter Tryd.func75, Tryd.ntmps75
    go_wp2_with fail
    obtain ⟨cB, fB, lB⟩ := (Bk.new w #[.int .i64 k, .int .i64 n, .bool false, .bool false, .bool false] 61).facts
    have hB := balloc (Below.refl _ w) (.cells #[.int .i64 k, .int .i64 n, .bool false, .bool false, .bool false] 61)
    generalize w.alloc (.cells #[.int .i64 k, .int .i64 n, .bool false, .bool false, .bool false] 61) = w1 at *
    refine wp_region_still_lit (by kernel_rfl) (by kernel_rfl) ?_
    repeat still_step
    still_call (with_z 0 1 false 0 _ (by decide +kernel))
    repeat still_step
    still_call (with_z 0 2 false 0 _ (by decide +kernel))
    repeat still_step
    still_call (with_z 0 4 false 0 _ (by decide +kernel))
    repeat still_step
    refine wpStill_nil ?_
    go_wp2
    go_ret
    exact ⟨rfl, below_drew hB⟩
  · go_enter Tryd.func75, Tryd.ntmps75
    go_wp2_with fail
    obtain ⟨cB, fB, lB⟩ := (Bk.new w #[.int .i64 k, .int .i64 n, .bool false, .bool false, .bool true] 61).facts
    have hB := balloc (Below.refl _ w) (.cells #[.int .i64 k, .int .i64 n, .bool false, .bool false, .bool true] 61)
    generalize w.alloc (.cells #[.int .i64 k, .int .i64 n, .bool false, .bool false, .bool true] 61) = w1 at *
    refine wp_region_still_lit (by kernel_rfl) (by kernel_rfl) ?_
    repeat still_step
    still_call (with_z 0 1 false 0 _ (by decide +kernel))
    repeat still_step
    still_call (with_z 0 2 false 0 _ (by decide +kernel))
    repeat still_step
    still_call (with_z 0 4 true 4 _ (by decide +kernel))
    repeat still_step
    refine wpStill_nil ?_
    go_wp2
    go_ret
    exact ⟨rfl, below_drew hB⟩
  · go_enter Tryd.func75, Tryd.ntmps75
    go_wp2_with fail
    obtain ⟨cB, fB, lB⟩ := (Bk.new w #[.int .i64 k, .int .i64 n, .bool false, .bool true, .bool false] 61).facts
    have hB := balloc (Below.refl _ w) (.cells #[.int .i64 k, .int .i64 n, .bool false, .bool true, .bool false] 61)
    generalize w.alloc (.cells #[.int .i64 k, .int .i64 n, .bool false, .bool true, .bool false] 61) = w1 at *
    refine wp_region_still_lit (by kernel_rfl) (by kernel_rfl) ?_
    repeat still_step
    still_call (with_z 0 1 false 0 _ (by decide +kernel))
    repeat still_step
    still_call (with_z 0 2 true 2 _ (by decide +kernel))
    repeat still_step
    still_call (with_z 2 4 false 2 _ (by decide +kernel))
    repeat still_step
    refine wpStill_nil ?_
    go_wp2
    go_ret
    exact ⟨rfl, below_drew hB⟩
  · go_enter Tryd.func75, Tryd.ntmps75
    go_wp2_with fail
    obtain ⟨cB, fB, lB⟩ := (Bk.new w #[.int .i64 k, .int .i64 n, .bool false, .bool true, .bool true] 61).facts
    have hB := balloc (Below.refl _ w) (.cells #[.int .i64 k, .int .i64 n, .bool false, .bool true, .bool true] 61)
    generalize w.alloc (.cells #[.int .i64 k, .int .i64 n, .bool false, .bool true, .bool true] 61) = w1 at *
    refine wp_region_still_lit (by kernel_rfl) (by kernel_rfl) ?_
    repeat still_step
    still_call (with_z 0 1 false 0 _ (by decide +kernel))
    repeat still_step
    still_call (with_z 0 2 true 2 _ (by decide +kernel))
    repeat still_step
    still_call (with_z 2 4 true 6 _ (by decide +kernel))
    repeat still_step
    refine wpStill_nil ?_
    go_wp2
    go_ret
    exact ⟨rfl, below_drew hB⟩
  · go_enter Tryd.func75, Tryd.ntmps75
    go_wp2_with fail
    obtain ⟨cB, fB, lB⟩ := (Bk.new w #[.int .i64 k, .int .i64 n, .bool true, .bool false, .bool false] 61).facts
    have hB := balloc (Below.refl _ w) (.cells #[.int .i64 k, .int .i64 n, .bool true, .bool false, .bool false] 61)
    generalize w.alloc (.cells #[.int .i64 k, .int .i64 n, .bool true, .bool false, .bool false] 61) = w1 at *
    refine wp_region_still_lit (by kernel_rfl) (by kernel_rfl) ?_
    repeat still_step
    still_call (with_z 0 1 true 1 _ (by decide +kernel))
    repeat still_step
    still_call (with_z 1 2 false 1 _ (by decide +kernel))
    repeat still_step
    still_call (with_z 1 4 false 1 _ (by decide +kernel))
    repeat still_step
    refine wpStill_nil ?_
    go_wp2
    go_ret
    exact ⟨rfl, below_drew hB⟩
  · go_enter Tryd.func75, Tryd.ntmps75
    go_wp2_with fail
    obtain ⟨cB, fB, lB⟩ := (Bk.new w #[.int .i64 k, .int .i64 n, .bool true, .bool false, .bool true] 61).facts
    have hB := balloc (Below.refl _ w) (.cells #[.int .i64 k, .int .i64 n, .bool true, .bool false, .bool true] 61)
    generalize w.alloc (.cells #[.int .i64 k, .int .i64 n, .bool true, .bool false, .bool true] 61) = w1 at *
    refine wp_region_still_lit (by kernel_rfl) (by kernel_rfl) ?_
    repeat still_step
    still_call (with_z 0 1 true 1 _ (by decide +kernel))
    repeat still_step
    still_call (with_z 1 2 false 1 _ (by decide +kernel))
    repeat still_step
    still_call (with_z 1 4 true 5 _ (by decide +kernel))
    repeat still_step
    refine wpStill_nil ?_
    go_wp2
    go_ret
    exact ⟨rfl, below_drew hB⟩
  · go_enter Tryd.func75, Tryd.ntmps75
    go_wp2_with fail
    obtain ⟨cB, fB, lB⟩ := (Bk.new w #[.int .i64 k, .int .i64 n, .bool true, .bool true, .bool false] 61).facts
    have hB := balloc (Below.refl _ w) (.cells #[.int .i64 k, .int .i64 n, .bool true, .bool true, .bool false] 61)
    generalize w.alloc (.cells #[.int .i64 k, .int .i64 n, .bool true, .bool true, .bool false] 61) = w1 at *
    refine wp_region_still_lit (by kernel_rfl) (by kernel_rfl) ?_
    repeat still_step
    still_call (with_z 0 1 true 1 _ (by decide +kernel))
    repeat still_step
    still_call (with_z 1 2 true 3 _ (by decide +kernel))
    repeat still_step
    still_call (with_z 3 4 false 3 _ (by decide +kernel))
    repeat still_step
    refine wpStill_nil ?_
    go_wp2
    go_ret
    exact ⟨rfl, below_drew hB⟩
  · go_enter Tryd.func75, Tryd.ntmps75
    go_wp2_with fail
    obtain ⟨cB, fB, lB⟩ := (Bk.new w #[.int .i64 k, .int .i64 n, .bool true, .bool true, .bool true] 61).facts
    have hB := balloc (Below.refl _ w) (.cells #[.int .i64 k, .int .i64 n, .bool true, .bool true, .bool true] 61)
    generalize w.alloc (.cells #[.int .i64 k, .int .i64 n, .bool true, .bool true, .bool true] 61) = w1 at *
    refine wp_region_still_lit (by kernel_rfl) (by kernel_rfl) ?_
    repeat still_step
    still_call (with_z 0 1 true 1 _ (by decide +kernel))
    repeat still_step
    still_call (with_z 1 2 true 3 _ (by decide +kernel))
    repeat still_step
    still_call (with_z 3 4 true 7 _ (by decide +kernel))
    repeat still_step
    refine wpStill_nil ?_
    go_wp2
    go_ret
    exact ⟨rfl, below_drew hB⟩

theorem or_field (z p s o : Nat) (hz : z < 2 ^ s) (hs : s ≤ 8) (ho : o ≤ 8) (hp : p < 18446744073709551616) :
    bits .or .u64 (z : Int) (IntKind.u64.wrap (bits .and .u64 (p : Int) ((2 ^ o - 1 : Nat) : Int) * ((2 ^ s : Nat) : Int))) = ((z + 2 ^ s * (p % 2 ^ o) : Nat) : Int) := by
  have h8 : 2 ^ o ≤ 2 ^ 8 := Nat.pow_le_pow_right (by omega) ho
  have h9 : 2 ^ s ≤ 2 ^ 8 := Nat.pow_le_pow_right (by omega) hs
  have hm : p % 2 ^ o < 2 ^ o := Nat.mod_lt _ (Nat.pow_pos (by omega))
  have hle : 2 ^ s * (p % 2 ^ o) ≤ 2 ^ 8 * (2 ^ 8) := Nat.mul_le_mul h9 (by omega)
  rw [and_mod p o hp ho, ← Int.natCast_mul, IntKind.wrap_u64, Nat.mul_comm]
  rw [show ((2 ^ s * (p % 2 ^ o) : Nat) : Int) % 18446744073709551616 = ((2 ^ s * (p % 2 ^ o) : Nat) : Int) by omega]
  rw [u64_or_nat z _ (by omega) (by omega), Nat.or_comm, ← Nat.two_pow_add_eq_or_of_lt hz, Nat.add_comm]
def wK (a b c : Nat) : Nat → Nat
  | 0 => 0
  | 1 => a % 4
  | 2 => a % 4 + 4 * (b % 8)
  | _ => a % 4 + 4 * (b % 8) + 256 * (c % 256)
def WordRel (a b c : Nat) (w : World) (s i : Value) (wr : World) : Prop :=
  ((i = .int .i64 0 ∧ s = .int .u64 0) ∨ (i = .int .i64 1 ∧ s = .int .u64 (wK a b c 1)) ∨ (i = .int .i64 2 ∧ s = .int .u64 (wK a b c 2)) ∨ (i = .int .i64 3 ∧ s = .int .u64 (wK a b c 3))) ∧ Below w.heap.size w wr
set_option maxHeartbeats 1000000 in
theorem word_any (a b c : Nat) (A : Option Addr) (cp : Nat) (w : World) (ha : a < 18446744073709551616) (hb : b < 18446744073709551616) (hc : c < 18446744073709551616) (hL : LayOK w) (hr : Rd w 1 A 3 [.int .u64 a, .int .u64 b, .int .u64 c]) :
    Calls Tryd.prog 65 #[.slice A 3 cp] w fun e w' => e = .returned (.int .u64 (wK a b c 3)) ∧ Below w.heap.size w w' := by
  go_enter Tryd.func65, Tryd.ntmps65
  go_wp2_with fail
  go_loopw [3, 8] (WordRel a b c w) (fun _ i _ => 3 - (intOf i).toNat)
  case atStart => exact ⟨.inl ⟨rfl, rfl⟩, Below.refl _ _⟩
  case round =>
    obtain ⟨hcase, hB⟩ := hrel
    obtain ⟨l0, l1, l2, l3, l4, l5⟩ := (hL.below hB).cells
    obtain ⟨g, off, rfl, hg, hcell⟩ := (hr.below hB (Nat.le_refl _)).2 (by omega)
    have h0 := hcell 0 _ rfl
    rw [Nat.add_zero] at h0
    have h1 := hcell 1 _ rfl
    have h2 := hcell 2 _ rfl
    clear hcell
    rcases hcase with ⟨rfl, rfl⟩ | ⟨rfl, rfl⟩ | ⟨rfl, rfl⟩ | ⟨rfl, rfl⟩
    · have HO := Lib.hid (or_field 0 a 0 2 (by decide) (by omega) (by omega) ha)
      go_wp2_with fail
      go_quiet (fail)
      go_wp2
      go_roundw
      case rel =>
        refine ⟨.inr (.inl ⟨rfl, val_int ?_⟩), below_drawn hB _⟩
        have := HO.out
        simp at this
        simp [wK, this]
      case measure => simp [intOf]
    · have HO := Lib.hid (or_field (wK a b c 1) b 2 3 (by simp only [wK]; omega) (by omega) (by omega) hb)
      generalize hz : wK a b c 1 = z at HO
      have HZ := Lib.hid hz
      clear hz
      go_wp2_with fail
      go_quiet (fail)
      go_wp2
      go_roundw
      case rel => exact ⟨.inr (.inr (.inl ⟨rfl, val_int (by rw [show wK a b c 2 = z + 2 ^ 2 * (b % 2 ^ 3) by rw [← HZ.out]; rfl]; exact HO.out)⟩)), below_drawn hB _⟩
      case measure => simp [intOf]
    · have HO := Lib.hid (or_field (wK a b c 2) c 8 8 (by simp only [wK]; omega) (by omega) (by omega) hc)
      generalize hz : wK a b c 2 = z at HO
      have HZ := Lib.hid hz
      clear hz
      go_wp2_with fail
      go_quiet (fail)
      go_wp2
      go_roundw
      case rel => exact ⟨.inr (.inr (.inr ⟨rfl, val_int (by rw [show wK a b c 3 = z + 2 ^ 8 * (c % 2 ^ 8) by rw [← HZ.out]; rfl]; exact HO.out)⟩)), below_drawn hB _⟩
      case measure => simp [intOf]
    · go_wp2
      go_ret
      exact ⟨rfl, hB⟩
end Go.Proofs.YtomndlnfidkdcaaDoor
