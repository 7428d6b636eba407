/- Several texts in one. -/
import Derived.Test.YtpkgfkhaiifooaaGreatDoorBase
import Derived.Test.YtpkgfkhaiifooaaGreatDoorProg
import Derived.Laws.BitsAllLaws
import Derived.StillTailTactics
import Derived.IntWalk
import Derived.Deep.RegionHeld3
import Derived.Deep.DeepCutAuto
import Derived.Test.YtpkgfkhaiifooaaGreatDoorPop
/- Entries of a page table: flags, parts and words. -/
namespace Go.Proofs.YtpkgfkhaiifooaaGreatDoor
open Go Go.Proofs Go.RowKit
set_option linter.unusedSimpArgs false
set_option linter.unusedVariables false

/-- The table of the fields of a word. -/
def layTab : List Int := [0, 3, 2, 7, 8, 255]
def LayOK (w : World) : Prop := ∀ j : Nat, j < 6 → w.cell? ⟨0, j, none⟩ = some (.int .u64 (layTab.getD j 0))
theorem LayOK.lt {w : World} (h : LayOK w) : 0 < w.heap.size := World.block_lt_of_cell? w _ (h 0 (by omega))
theorem LayOK.below {w w' : World} (h : LayOK w) (hb : Below w.heap.size w w') : LayOK w' := fun j hj => (hb.cell (p := ⟨0, j, none⟩) h.lt).trans (h j hj)
theorem LayOK.alloc {w : World} (h : LayOK w) (o : Obj) : LayOK (w.alloc o) := h.below ((Below.refl _ _).alloc (Nat.le_refl _) _)
theorem LayOK.drew {w : World} (h : LayOK w) : LayOK w.drew := h
theorem LayOK.drewN {w : World} (h : LayOK w) (n : Nat) : LayOK (w.drewN n) := h
theorem LayOK.cells {w : World} (h : LayOK w) : w.cell? ⟨0, 0, none⟩ = some (.int .u64 0) ∧ w.cell? ⟨0, 1, none⟩ = some (.int .u64 3) ∧ w.cell? ⟨0, 2, none⟩ = some (.int .u64 2) ∧
    w.cell? ⟨0, 3, none⟩ = some (.int .u64 7) ∧ w.cell? ⟨0, 4, none⟩ = some (.int .u64 8) ∧ w.cell? ⟨0, 5, none⟩ = some (.int .u64 255) :=
  ⟨h 0 (by omega), h 1 (by omega), h 2 (by omega), h 3 (by omega), h 4 (by omega), h 5 (by omega)⟩

theorem and_mod (x k : Nat) (hx : x < 18446744073709551616) (hk : k ≤ 8) : bits .and .u64 (x : Int) ((2 ^ k - 1 : Nat) : Int) = ((x % 2 ^ k : Nat) : Int) := by
  have h8 : 2 ^ k ≤ 2 ^ 8 := Nat.pow_le_pow_right (by omega) hk
  rw [u64_and_nat x (2 ^ k - 1) hx (by omega), Nat.and_two_pow_sub_one_eq_mod]

/-- The flags of an entry as a number. -/
def flagN (a b c : Bool) : Nat := a.toNat + 2 * b.toNat + 4 * c.toNat

theorem with_any (f g : Nat) (on : Bool) (w : World) (hf : f < 8) (hg : g < 8) :
    Calls Tryz.prog 110 #[.int .u64 f, .int .u64 g, .bool on] w fun e w' => e = .returned (.int .u64 ((if on then f ||| g else f &&& (18446744073709551615 - g) : Nat) : Int)) ∧ w = w' := by
  have HO := Lib.hid (u64_or_nat f g (by omega) (by omega))
  have HA := Lib.hid (u64_andNot_nat f g (by omega) (by omega))
  cases on
  all_goals
    go_enter Tryz.func110, Tryz.ntmps110
    go_wp2
    go_ret
    first
      | exact ⟨ret_int HO.out, rfl⟩
      | exact ⟨ret_int HA.out, rfl⟩

theorem has_fl (f g : Nat) (w : World) (hf : f < 18446744073709551616) (hg : g < 18446744073709551616) :
    Calls Tryz.prog 100 #[.int .u64 f, .int .u64 g] w fun e w' => e = .returned (.bool (decide (f &&& g ≠ 0))) ∧ w = w' := by
  have HO := Lib.hid (u64_and_nat f g hf hg)
  go_enter Tryz.func100, Tryz.ntmps100
  go_wp2
  go_ret
  refine ⟨?_, rfl⟩
  show Ending.returned (.bool (bits .and .u64 (f : Int) (g : Int) != 0)) = _
  rw [HO.out]
  congr 2
  rw [Bool.eq_iff_iff]
  simp

theorem part0_any (x : Nat) (w : World) (hx : x < 18446744073709551616) (hL : LayOK w) :
    Calls Tryz.prog 99 #[.int .u64 x, .int .i64 0] w fun e w' => e = .returned (.int .u64 (x / 1 % 4 : Nat)) ∧ Below w.heap.size w w' := by
  have hx2 : x / 1 < 18446744073709551616 := Nat.lt_of_le_of_lt (Nat.div_le_self _ _) hx
  have HO := Lib.hid (and_mod (x / 1) 2 hx2 (by omega))
  obtain ⟨l0, l1, l2, l3, l4, l5⟩ := hL.cells
  go_enter Tryz.func99, Tryz.ntmps99
  go_wp2_with fail
  go_quiet (fail)
  go_wp2
  go_ret
  refine ⟨ret_int ?_, below_drawn (Below.refl _ _) _⟩
  have := HO.out
  simpa using this
theorem part1_any (x : Nat) (w : World) (hx : x < 18446744073709551616) (hL : LayOK w) :
    Calls Tryz.prog 99 #[.int .u64 x, .int .i64 1] w fun e w' => e = .returned (.int .u64 (x / 4 % 8 : Nat)) ∧ Below w.heap.size w w' := by
  have hx2 : x / 4 < 18446744073709551616 := Nat.lt_of_le_of_lt (Nat.div_le_self _ _) hx
  have HO := Lib.hid (and_mod (x / 4) 3 hx2 (by omega))
  obtain ⟨l0, l1, l2, l3, l4, l5⟩ := hL.cells
  go_enter Tryz.func99, Tryz.ntmps99
  go_wp2_with fail
  go_quiet (fail)
  go_wp2
  go_ret
  refine ⟨ret_int ?_, below_drawn (Below.refl _ _) _⟩
  have := HO.out
  simpa using this
theorem part2_any (x : Nat) (w : World) (hx : x < 18446744073709551616) (hL : LayOK w) :
    Calls Tryz.prog 99 #[.int .u64 x, .int .i64 2] w fun e w' => e = .returned (.int .u64 (x / 256 % 256 : Nat)) ∧ Below w.heap.size w w' := by
  have hx2 : x / 256 < 18446744073709551616 := Nat.lt_of_le_of_lt (Nat.div_le_self _ _) hx
  have HO := Lib.hid (and_mod (x / 256) 8 hx2 (by omega))
  obtain ⟨l0, l1, l2, l3, l4, l5⟩ := hL.cells
  go_enter Tryz.func99, Tryz.ntmps99
  go_wp2_with fail
  go_quiet (fail)
  go_wp2
  go_ret
  refine ⟨ret_int ?_, below_drawn (Below.refl _ _) _⟩
  have := HO.out
  simpa using this
end Go.Proofs.YtpkgfkhaiifooaaGreatDoor
/- Entries of a page table: the flags, the word, what is valid. -/
namespace Go.Proofs.YtpkgfkhaiifooaaGreatDoor
open Go Go.Proofs Go.RowKit
set_option linter.unusedSimpArgs false
set_option linter.unusedVariables false
set_option maxRecDepth 100000

theorem with_z (f g : Int) (on : Bool) (r : Int) (w : World) (h : (if on then bits .or .u64 f g else bits .andNot .u64 f g) = r) :
    Calls Tryz.prog 110 #[.int .u64 f, .int .u64 g, .bool on] w fun e w' => e = .returned (.int .u64 r) ∧ w' = w := by
  have H := Lib.hid h
  clear h
  cases on
  all_goals
    go_enter Tryz.func110, Tryz.ntmps110
    go_wp2
    go_ret
    exact ⟨ret_int H.out, rfl⟩

set_option maxHeartbeats 2000000 in
theorem flagsOf_any (k n : Int) (a b c : Bool) (w : World) :
    Calls Tryz.prog 107 #[.agg #[.int .i64 k, .int .i64 n, .bool a, .bool b, .bool c]] w fun e w' => e = .returned (.int .u64 (flagN a b c)) ∧ Below w.heap.size w w' := by
  cases a <;> cases b <;> cases c
  · go_enter Tryz.func107, Tryz.ntmps107
    go_wp2_with fail
    obtain ⟨cB, fB, lB⟩ := (Bk.new w #[.int .i64 k, .int .i64 n, .bool false, .bool false, .bool false] 57).facts
    have hB := balloc (Below.refl _ w) (.cells #[.int .i64 k, .int .i64 n, .bool false, .bool false, .bool false] 57)
    generalize w.alloc (.cells #[.int .i64 k, .int .i64 n, .bool false, .bool false, .bool false] 57) = w1 at *
    refine wp_region_still_lit (by kernel_rfl) (by kernel_rfl) ?_
    repeat still_step
    still_call (with_z 0 1 false 0 _ (by decide +kernel))
    repeat still_step
    still_call (with_z 0 2 false 0 _ (by decide +kernel))
    repeat still_step
    still_call (with_z 0 4 false 0 _ (by decide +kernel))
    repeat still_step
    refine wpStill_nil ?_
    go_wp2
    go_ret
    exact ⟨rfl, below_drew hB⟩
  · go_enter Tryz.func107, Tryz.ntmps107
    go_wp2_with fail
    obtain ⟨cB, fB, lB⟩ := (Bk.new w #[.int .i64 k, .int .i64 n, .bool false, .bool false, .bool true] 57).facts
    have hB := balloc (Below.refl _ w) (.cells #[.int .i64 k, .int .i64 n, .bool false, .bool false, .bool true] 57)
    generalize w.alloc (.cells #[.int .i64 k, .int .i64 n, .bool false, .bool false, .bool true] 57) = w1 at *
    refine wp_region_still_lit (by kernel_rfl) (by kernel_rfl) ?_
    repeat still_step
    still_call (with_z 0 1 false 0 _ (by decide +kernel))
    repeat still_step
    still_call (with_z 0 2 false 0 _ (by decide +kernel))
    repeat still_step
    still_call (with_z 0 4 true 4 _ (by decide +kernel))
    repeat still_step
    refine wpStill_nil ?_
    go_wp2
    go_ret
    exact ⟨rfl, below_drew hB⟩
  · go_enter Tryz.func107, Tryz.ntmps107
    go_wp2_with fail
    obtain ⟨cB, fB, lB⟩ := (Bk.new w #[.int .i64 k, .int .i64 n, .bool false, .bool true, .bool false] 57).facts
    have hB := balloc (Below.refl _ w) (.cells #[.int .i64 k, .int .i64 n, .bool false, .bool true, .bool false] 57)
    generalize w.alloc (.cells #[.int .i64 k, .int .i64 n, .bool false, .bool true, .bool false] 57) = w1 at *
    refine wp_region_still_lit (by kernel_rfl) (by kernel_rfl) ?_
    repeat still_step
    still_call (with_z 0 1 false 0 _ (by decide +kernel))
    repeat still_step
    still_call (with_z 0 2 true 2 _ (by decide +kernel))
    repeat still_step
    still_call (with_z 2 4 false 2 _ (by decide +kernel))
    repeat still_step
    refine wpStill_nil ?_
    go_wp2
    go_ret
    exact ⟨rfl, below_drew hB⟩
  · go_enter Tryz.func107, Tryz.ntmps107
    go_wp2_with fail
    obtain ⟨cB, fB, lB⟩ := (Bk.new w #[.int .i64 k, .int .i64 n, .bool false, .bool true, .bool true] 57).facts
    have hB := balloc (Below.refl _ w) (.cells #[.int .i64 k, .int .i64 n, .bool false, .bool true, .bool true] 57)
    generalize w.alloc (.cells #[.int .i64 k, .int .i64 n, .bool false, .bool true, .bool true] 57) = w1 at *
    refine wp_region_still_lit (by kernel_rfl) (by kernel_rfl) ?_
    repeat still_step
    still_call (with_z 0 1 false 0 _ (by decide +kernel))
    repeat still_step
    still_call (with_z 0 2 true 2 _ (by decide +kernel))
    repeat still_step
    still_call (with_z 2 4 true 6 _ (by decide +kernel))
    repeat still_step
    refine wpStill_nil ?_
    go_wp2
    go_ret
    exact ⟨rfl, below_drew hB⟩
  · go_enter Tryz.func107, Tryz.ntmps107
    go_wp2_with fail
    obtain ⟨cB, fB, lB⟩ := (Bk.new w #[.int .i64 k, .int .i64 n, .bool true, .bool false, .bool false] 57).facts
    have hB := balloc (Below.refl _ w) (.cells #[.int .i64 k, .int .i64 n, .bool true, .bool false, .bool false] 57)
    generalize w.alloc (.cells #[.int .i64 k, .int .i64 n, .bool true, .bool false, .bool false] 57) = w1 at *
    refine wp_region_still_lit (by kernel_rfl) (by kernel_rfl) ?_
    repeat still_step
    still_call (with_z 0 1 true 1 _ (by decide +kernel))
    repeat still_step
    still_call (with_z 1 2 false 1 _ (by decide +kernel))
    repeat still_step
    still_call (with_z 1 4 false 1 _ (by decide +kernel))
    repeat still_step
    refine wpStill_nil ?_
    go_wp2
    go_ret
    exact ⟨rfl, below_drew hB⟩
  · go_enter Tryz.func107, Tryz.ntmps107
    go_wp2_with fail
    obtain ⟨cB, fB, lB⟩ := (Bk.new w #[.int .i64 k, .int .i64 n, .bool true, .bool false, .bool true] 57).facts
    have hB := balloc (Below.refl _ w) (.cells #[.int .i64 k, .int .i64 n, .bool true, .bool false, .bool true] 57)
    generalize w.alloc (.cells #[.int .i64 k, .int .i64 n, .bool true, .bool false, .bool true] 57) = w1 at *
    refine wp_region_still_lit (by kernel_rfl) (by kernel_rfl) ?_
    repeat still_step
    still_call (with_z 0 1 true 1 _ (by decide +kernel))
    repeat still_step
    still_call (with_z 1 2 false 1 _ (by decide +kernel))
    repeat still_step
    still_call (with_z 1 4 true 5 _ (by decide +kernel))
    repeat still_step
    refine wpStill_nil ?_
    go_wp2
    go_ret
    exact ⟨rfl, below_drew hB⟩
  · go_enter Tryz.func107, Tryz.ntmps107
    go_wp2_with fail
    obtain ⟨cB, fB, lB⟩ := (Bk.new w #[.int .i64 k, .int .i64 n, .bool true, .bool true, .bool false] 57).facts
    have hB := balloc (Below.refl _ w) (.cells #[.int .i64 k, .int .i64 n, .bool true, .bool true, .bool false] 57)
    generalize w.alloc (.cells #[.int .i64 k, .int .i64 n, .bool true, .bool true, .bool false] 57) = w1 at *
    refine wp_region_still_lit (by kernel_rfl) (by kernel_rfl) ?_
    repeat still_step
    still_call (with_z 0 1 true 1 _ (by decide +kernel))
    repeat still_step
    still_call (with_z 1 2 true 3 _ (by decide +kernel))
    repeat still_step
    still_call (with_z 3 4 false 3 _ (by decide +kernel))
    repeat still_step
    refine wpStill_nil ?_
    go_wp2
    go_ret
    exact ⟨rfl, below_drew hB⟩
  · go_enter Tryz.func107, Tryz.ntmps107
    go_wp2_with fail
    obtain ⟨cB, fB, lB⟩ := (Bk.new w #[.int .i64 k, .int .i64 n, .bool true, .bool true, .bool true] 57).facts
    have hB := balloc (Below.refl _ w) (.cells #[.int .i64 k, .int .i64 n, .bool true, .bool true, .bool true] 57)
    generalize w.alloc (.cells #[.int .i64 k, .int .i64 n, .bool true, .bool true, .bool true] 57) = w1 at *
    refine wp_region_still_lit (by kernel_rfl) (by kernel_rfl) ?_
    repeat still_step
    still_call (with_z 0 1 true 1 _ (by decide +kernel))
    repeat still_step
    still_call (with_z 1 2 true 3 _ (by decide +kernel))
    repeat still_step
    still_call (with_z 3 4 true 7 _ (by decide +kernel))
    repeat still_step
    refine wpStill_nil ?_
    go_wp2
    go_ret
    exact ⟨rfl, below_drew hB⟩

theorem or_field (z p s o : Nat) (hz : z < 2 ^ s) (hs : s ≤ 8) (ho : o ≤ 8) (hp : p < 18446744073709551616) :
    bits .or .u64 (z : Int) (IntKind.u64.wrap (bits .and .u64 (p : Int) ((2 ^ o - 1 : Nat) : Int) * ((2 ^ s : Nat) : Int))) = ((z + 2 ^ s * (p % 2 ^ o) : Nat) : Int) := by
  have h8 : 2 ^ o ≤ 2 ^ 8 := Nat.pow_le_pow_right (by omega) ho
  have h9 : 2 ^ s ≤ 2 ^ 8 := Nat.pow_le_pow_right (by omega) hs
  have hm : p % 2 ^ o < 2 ^ o := Nat.mod_lt _ (Nat.pow_pos (by omega))
  have hle : 2 ^ s * (p % 2 ^ o) ≤ 2 ^ 8 * (2 ^ 8) := Nat.mul_le_mul h9 (by omega)
  rw [and_mod p o hp ho, ← Int.natCast_mul, IntKind.wrap_u64, Nat.mul_comm]
  rw [show ((2 ^ s * (p % 2 ^ o) : Nat) : Int) % 18446744073709551616 = ((2 ^ s * (p % 2 ^ o) : Nat) : Int) by omega]
  rw [u64_or_nat z _ (by omega) (by omega), Nat.or_comm, ← Nat.two_pow_add_eq_or_of_lt hz, Nat.add_comm]
def wK (a b c : Nat) : Nat → Nat
  | 0 => 0
  | 1 => a % 4
  | 2 => a % 4 + 4 * (b % 8)
  | _ => a % 4 + 4 * (b % 8) + 256 * (c % 256)
def WordRel (a b c : Nat) (w : World) (s i : Value) (wr : World) : Prop :=
  ((i = .int .i64 0 ∧ s = .int .u64 0) ∨ (i = .int .i64 1 ∧ s = .int .u64 (wK a b c 1)) ∨ (i = .int .i64 2 ∧ s = .int .u64 (wK a b c 2)) ∨ (i = .int .i64 3 ∧ s = .int .u64 (wK a b c 3))) ∧ Below w.heap.size w wr
set_option maxHeartbeats 1000000 in
theorem word_any (a b c : Nat) (A : Option Addr) (cp : Nat) (w : World) (ha : a < 18446744073709551616) (hb : b < 18446744073709551616) (hc : c < 18446744073709551616) (hL : LayOK w) (hr : Rd w 1 A 3 [.int .u64 a, .int .u64 b, .int .u64 c]) :
    Calls Tryz.prog 98 #[.slice A 3 cp] w fun e w' => e = .returned (.int .u64 (wK a b c 3)) ∧ Below w.heap.size w w' := by
  go_enter Tryz.func98, Tryz.ntmps98
  go_wp2_with fail
  go_loopw [3, 8] (WordRel a b c w) (fun _ i _ => 3 - (intOf i).toNat)
  case atStart => exact ⟨.inl ⟨rfl, rfl⟩, Below.refl _ _⟩
  case round =>
    obtain ⟨hcase, hB⟩ := hrel
    obtain ⟨l0, l1, l2, l3, l4, l5⟩ := (hL.below hB).cells
    obtain ⟨g, off, rfl, hg, hcell⟩ := (hr.below hB (Nat.le_refl _)).2 (by omega)
    have h0 := hcell 0 _ rfl
    rw [Nat.add_zero] at h0
    have h1 := hcell 1 _ rfl
    have h2 := hcell 2 _ rfl
    clear hcell
    rcases hcase with ⟨rfl, rfl⟩ | ⟨rfl, rfl⟩ | ⟨rfl, rfl⟩ | ⟨rfl, rfl⟩
    · have HO := Lib.hid (or_field 0 a 0 2 (by decide) (by omega) (by omega) ha)
      go_wp2_with fail
      go_quiet (fail)
      go_wp2
      go_roundw
      case rel =>
        refine ⟨.inr (.inl ⟨rfl, val_int ?_⟩), below_drawn hB _⟩
        have := HO.out
        simp at this
        simp [wK, this]
      case measure => simp [intOf]
    · have HO := Lib.hid (or_field (wK a b c 1) b 2 3 (by simp only [wK]; omega) (by omega) (by omega) hb)
      generalize hz : wK a b c 1 = z at HO
      have HZ := Lib.hid hz
      clear hz
      go_wp2_with fail
      go_quiet (fail)
      go_wp2
      go_roundw
      case rel => exact ⟨.inr (.inr (.inl ⟨rfl, val_int (by rw [show wK a b c 2 = z + 2 ^ 2 * (b % 2 ^ 3) by rw [← HZ.out]; rfl]; exact HO.out)⟩)), below_drawn hB _⟩
      case measure => simp [intOf]
    · have HO := Lib.hid (or_field (wK a b c 2) c 8 8 (by simp only [wK]; omega) (by omega) (by omega) hc)
      generalize hz : wK a b c 2 = z at HO
      have HZ := Lib.hid hz
      clear hz
      go_wp2_with fail
      go_quiet (fail)
      go_wp2
      go_roundw
      case rel => exact ⟨.inr (.inr (.inr ⟨rfl, val_int (by rw [show wK a b c 3 = z + 2 ^ 8 * (c % 2 ^ 8) by rw [← HZ.out]; rfl]; exact HO.out)⟩)), below_drawn hB _⟩
      case measure => simp [intOf]
    · go_wp2
      go_ret
      exact ⟨rfl, hB⟩
end Go.Proofs.YtpkgfkhaiifooaaGreatDoor
/- Entries of a page table: which are valid, and the kind of a word. -/
namespace Go.Proofs.YtpkgfkhaiifooaaGreatDoor
open Go Go.Proofs Go.RowKit
set_option linter.unusedSimpArgs false
set_option linter.unusedVariables false
set_option maxRecDepth 100000

/-- The error of an entry. -/
def chk (k n : Int) (a b c : Bool) : Int :=
  if ¬ (k = 0 ∨ k = 1 ∨ k = 2) then 16 else if n < 0 ∨ 255 < n ∨ (k = 0 ∧ n ≠ 0) then 2 else if k = 1 then (if a = b then 3 else 0) else if a = true ∨ b = true ∨ c = true then 3 else 0
theorem flagN_zero (a b c : Bool) : (((flagN a b c : Nat) : Int) != 0) = (a || b || c) := by cases a <;> cases b <;> cases c <;> rfl

set_option maxHeartbeats 2000000 in
theorem Check_any (k n : Int) (a b c : Bool) (w : World) (hL : LayOK w) :
    Calls Tryz.prog 101 #[.agg #[.int .i64 k, .int .i64 n, .bool a, .bool b, .bool c]] w fun e w' => e = .returned (.int .i64 (chk k n a b c)) ∧ Below w.heap.size w w' := by
  obtain ⟨l0, l1, l2, l3, l4, l5⟩ := hL.cells
  have hlt := hL.lt
  have hB := balloc (Below.refl _ w) (.cells #[.int .i64 k, .int .i64 n, .bool a, .bool b, .bool c] 57)
  have hfl := flagN_zero a b c
  go_enter Tryz.func101, Tryz.ntmps101
  go_wp2_with (go_at_call 107; refine (flagsOf_any _ _ _ _ _ _).mono ?_; rintro e w1 ⟨rfl, hb1⟩)
  all_goals
    go_ret
    refine ⟨ret_int ?_, by first | exact bnext hB hb1 | exact hB | (refine bnext ?_ hb1; exact balloc (Below.refl _ _) _) | exact balloc (Below.refl _ _) _⟩
    clear l0 l1 l2 l3 l4 l5 hL
    grind [chk]

set_option maxHeartbeats 2000000 in
theorem rCheck_any (k n : Int) (a b c : Bool) (w : World) :
    Calls Tryz.prog 93 #[.agg #[.int .i64 k, .int .i64 n, .bool a, .bool b, .bool c]] w fun e w' => e = .returned (.int .i64 (chk k n a b c)) ∧ Below w.heap.size w w' := by
  go_enter Tryz.func93, Tryz.ntmps93
  go_wp2_with fail
  all_goals
    go_ret
    refine ⟨ret_int ?_, balloc (Below.refl _ _) _⟩
    grind [chk]

theorem Kind_any (x : Nat) (w : World) (hx : x < 18446744073709551616) (hL : LayOK w) :
    Calls Tryz.prog 97 #[.int .u64 x] w fun e w' => e = .returned (.tuple #[.int .i64 (if x % 4 = 3 then 0 else (x % 4 : Nat)), .int .i64 (if x % 4 = 3 then 16 else 0)]) ∧ Below w.heap.size w w' := by
  by_cases h : x % 4 = 3
  · rw [if_pos h, if_pos h]
    have H := Lib.hid h
    clear h
    go_enter Tryz.func97, Tryz.ntmps97
    go_wp2_with (go_at_call 99; refine (part0_any x _ hx hL).mono ?_; rw [Nat.div_one, H.out]; rintro e w1 ⟨rfl, hb1⟩)
    go_ret2
    exact ⟨rfl, hb1⟩
  · rw [if_neg h, if_neg h]
    have h2 : x % 4 < 3 := by omega
    generalize hy : x % 4 = y at *
    have H := Lib.hid hy
    clear h hy
    go_enter Tryz.func97, Tryz.ntmps97
    go_wp2_with (go_at_call 99; refine (part0_any x _ hx hL).mono ?_; rw [Nat.div_one, H.out]; rintro e w1 ⟨rfl, hb1⟩)
    go_ret2
    exact ⟨rfl, hb1⟩
end Go.Proofs.YtpkgfkhaiifooaaGreatDoor
/- Entries of a page table: which entry a word is. -/
namespace Go.Proofs.YtpkgfkhaiifooaaGreatDoor
open Go Go.Proofs Go.RowKit
set_option linter.unusedSimpArgs false
set_option linter.unusedVariables false
set_option maxRecDepth 100000

theorem and224 : ((List.range 256).all fun d => decide (d &&& 224 ≠ 0) == decide (d / 32 % 8 ≠ 0)) = true := by decide +kernel
theorem form_iff (x : Nat) (hx : x < 18446744073709551616) : (bits .andNot .u64 (x : Int) 65311 != 0) = decide (x / 32 % 8 ≠ 0 ∨ x / 65536 ≠ 0) := by
  have h := u64_andNot_nat x 65311 hx (by omega)
  rw [show ((65311 : Nat) : Int) = 65311 from rfl] at h
  rw [h]
  have e : x &&& (18446744073709551615 - 65311) = (x % 256 &&& 224) + 256 * (x / 256 % 256 &&& 0) + 256 * (256 * (x / 65536)) := by
    have h1 : x = x % 256 + 256 * (x / 256 % 256 + 256 * (x / 65536)) := by omega
    have h3 := and_cons (x / 256 % 256) (x / 65536) 0 281474976710655 (by omega) (by omega)
    have h2 := and_cons (x % 256) (x / 256 % 256 + 256 * (x / 65536)) 224 (0 + 256 * 281474976710655) (by omega) (by omega)
    rw [h3] at h2
    rw [← h1, show 224 + 256 * (0 + 256 * 281474976710655) = 18446744073709551615 - 65311 by decide] at h2
    rw [h2]
    have h4 : x / 65536 &&& 281474976710655 = x / 65536 := by
      rw [show (281474976710655 : Nat) = 2 ^ 48 - 1 by decide, Nat.and_two_pow_sub_one_eq_mod, Nat.mod_eq_of_lt (by omega)]
    rw [h4]
    omega
  rw [e]
  have h5 := List.all_eq_true.1 and224 (x % 256) (List.mem_range.2 (by omega))
  simp only [beq_iff_eq, decide_eq_decide] at h5
  rw [show x % 256 / 32 % 8 = x / 32 % 8 by omega] at h5
  rw [Nat.and_zero, Bool.eq_iff_iff]
  simp only [bne_iff_ne, ne_eq, decide_eq_true_eq]
  constructor
  · intro h6
    by_cases h7 : x % 256 &&& 224 = 0
    · right; omega
    · left; exact h5.1 h7
  · rintro (h6 | h6)
    · have := h5.2 h6; omega
    · omega
theorem bits_all : ((List.range 8).all fun f => (decide (f &&& 1 ≠ 0) == decide (f % 2 = 1)) && (decide (f &&& 2 ≠ 0) == decide (f / 2 % 2 = 1)) && (decide (f &&& 4 ≠ 0) == decide (f / 4 % 2 = 1))) = true := by decide +kernel
theorem bits_of (x : Nat) : decide (x / 4 % 8 &&& 1 ≠ 0) = decide (x / 4 % 2 = 1) ∧ decide (x / 4 % 8 &&& 2 ≠ 0) = decide (x / 8 % 2 = 1) ∧ decide (x / 4 % 8 &&& 4 ≠ 0) = decide (x / 16 % 2 = 1) := by
  have h := List.all_eq_true.1 bits_all (x / 4 % 8) (List.mem_range.2 (by omega))
  simp only [Bool.and_eq_true, beq_iff_eq] at h
  rw [show x / 4 % 8 % 2 = x / 4 % 2 by omega, show x / 4 % 8 / 2 % 2 = x / 8 % 2 by omega, show x / 4 % 8 / 4 % 2 = x / 16 % 2 by omega] at h
  exact ⟨h.1.1, h.1.2, h.2⟩

theorem has_z (f : Nat) (g : Int) (m : Nat) (w : World) (hf : f < 18446744073709551616) (hg : m < 18446744073709551616) (hm : g = (m : Int)) :
    Calls Tryz.prog 100 #[.int .u64 f, .int .u64 g] w fun e w' => e = .returned (.bool (decide (f &&& m ≠ 0))) ∧ w = w' := by
  subst hm
  exact has_fl f m w hf hg
/-- The error of a word, and the entry that it is. -/
def unpE (x : Nat) : Int :=
  if x % 4 = 3 then 16 else if x / 32 % 8 ≠ 0 ∨ x / 65536 ≠ 0 then 3 else chk (x % 4 : Nat) (x / 256 : Nat) (decide (x / 4 % 2 = 1)) (decide (x / 8 % 2 = 1)) (decide (x / 16 % 2 = 1))
def unpR (x : Nat) : (Int × Int × Bool × Bool × Bool) × Int :=
  if unpE x = 0 then (((x % 4 : Nat), (x / 256 : Nat), decide (x / 4 % 2 = 1), decide (x / 8 % 2 = 1), decide (x / 16 % 2 = 1)), 0) else ((0, 0, false, false, false), unpE x)
/-- An entry and an error that a call returned. -/
def EnRes (w w' : World) (r : (Int × Int × Bool × Bool × Bool) × Int) (e : Ending) : Prop :=
  e = .returned (.tuple #[.agg #[.int .i64 r.1.1, .int .i64 r.1.2.1, .bool r.1.2.2.1, .bool r.1.2.2.2.1, .bool r.1.2.2.2.2], .int .i64 r.2]) ∧ Below w.heap.size w w'

section
variable {w : World} {b : Nat} {t : TypeId}
theorem Bk.put5 {x0 x1 x2 x3 x4 : Value} (h : Bk w b #[x0, x1, x2, x3, x4] t) (y0 y1 y2 y3 y4 : Value) :
    Bk (((((w.setCell ⟨b, 0, none⟩ y0).setCell ⟨b, 1, none⟩ y1).setCell ⟨b, 2, none⟩ y2).setCell ⟨b, 3, none⟩ y3).setCell ⟨b, 4, none⟩ y4) b #[y0, y1, y2, y3, y4] t := ((((h.put 0 y0).put 1 y1).put 2 y2).put 3 y3).put 4 y4
theorem below_put5 {a : World} (h : Below a.heap.size a w) (hp : a.heap.size ≤ b) (y0 y1 y2 y3 y4 : Value) :
    Below a.heap.size a (((((w.setCell ⟨b, 0, none⟩ y0).setCell ⟨b, 1, none⟩ y1).setCell ⟨b, 2, none⟩ y2).setCell ⟨b, 3, none⟩ y3).setCell ⟨b, 4, none⟩ y4) :=
  ((((h.setCell (p := ⟨b, 0, none⟩) hp y0).setCell (p := ⟨b, 1, none⟩) hp y1).setCell (p := ⟨b, 2, none⟩) hp y2).setCell (p := ⟨b, 3, none⟩) hp y3).setCell (p := ⟨b, 4, none⟩) hp y4
end

set_option maxHeartbeats 2000000 in
theorem Unpack_any (x : Nat) (w : World) (hx : x < 18446744073709551616) (hL : LayOK w) :
    Calls Tryz.prog 80 #[.int .u64 x] w fun e w' => EnRes w w' (unpR x) e := by
  by_cases h1 : x % 4 = 3
  · have hv : unpR x = ((0, 0, false, false, false), 16) := by unfold unpR unpE; simp [h1]
    have H1 := Lib.hid h1
    have HV := Lib.hid hv
    clear h1 hv
    go_enter Tryz.func80, Tryz.ntmps80
    go_wp2_with (go_at_call 97; refine (Kind_any x _ hx (hL.alloc _)).mono ?_; rw [if_pos H1.out, if_pos H1.out]; rintro e w1 ⟨rfl, hb1⟩; have kR := (Bk.new w #[.int .i64 0, .int .i64 0, .bool false, .bool false, .bool false] 57).to hb1; obtain ⟨cR, fR, lR⟩ := kR.facts)
    have kF := kR.put5 (.int .i64 0) (.int .i64 0) (.bool false) (.bool false) (.bool false)
    have hBF := below_put5 (b := w.heap.size) (bnext (balloc (Below.refl _ _) _) hb1) (Nat.le_refl _) (.int .i64 0) (.int .i64 0) (.bool false) (.bool false) (.bool false)
    generalize ((((w1.setCell ⟨w.heap.size, 0, none⟩ (.int .i64 0)).setCell ⟨w.heap.size, 1, none⟩ (.int .i64 0)).setCell ⟨w.heap.size, 2, none⟩ (.bool false)).setCell ⟨w.heap.size, 3, none⟩ (.bool false)).setCell ⟨w.heap.size, 4, none⟩ (.bool false) = wF at *
    clear cR fR lR
    obtain ⟨cF, fF, lF⟩ := kF.facts
    exact bodyPost_ret (v := .tuple #[.agg #[.int .i64 0, .int .i64 0, .bool false, .bool false, .bool false], .int .i64 16]) (by simp [results, Tryz.results80, go_sem, cF]) rfl ⟨by rw [HV.out], hBF⟩
  by_cases h2 : x / 32 % 8 ≠ 0 ∨ x / 65536 ≠ 0
  · have hv : unpR x = ((0, 0, false, false, false), 3) := by unfold unpR unpE; simp only [if_neg h1, if_pos h2]; rfl
    have hF : (bits .andNot .u64 (x : Int) 65311 != 0) = true := by rw [form_iff x hx]; exact decide_eq_true h2
    have H1 := Lib.hid h1
    have HV := Lib.hid hv
    clear h1 h2 hv
    go_enter Tryz.func80, Tryz.ntmps80
    go_wp2_with fail
    refine (Kind_any x _ hx (hL.alloc _)).mono ?_
    rw [if_neg H1.out, if_neg H1.out]
    rintro e w1 ⟨rfl, hb1⟩
    have kR := (Bk.new w #[.int .i64 0, .int .i64 0, .bool false, .bool false, .bool false] 57).to hb1
    have hB1 := bnext (balloc (Below.refl _ _) _) hb1
    have hL1 := hL.below hB1
    clear hb1
    obtain ⟨l0, l1, l2, l3, l4, l5⟩ := hL1.cells
    go_wp2_with fail
    clear l0 l1 l2 l3 l4 l5
    refine (word_any 3 7 255 _ _ _ (by omega) (by omega) (by omega) (hL1.alloc _) (Rd.new #[.int .u64 3, .int .u64 7, .int .u64 255] _ rfl)).mono ?_
    rw [show ((wK 3 7 255 3 : Nat) : Int) = 65311 from rfl]
    rintro e w2 ⟨rfl, hb2⟩
    have hc2 := bnext (balloc (Below.refl _ _) _) hb2
    replace kR := kR.to hc2
    replace hB1 := bnext hB1 hc2
    replace hL1 := hL1.below hc2
    clear hb2 hc2
    obtain ⟨cR, fR, lR⟩ := kR.facts
    go_wp2_with fail
    have kF := kR.put5 (.int .i64 0) (.int .i64 0) (.bool false) (.bool false) (.bool false)
    have hBF := below_put5 (b := w.heap.size) (hB1) (Nat.le_refl _) (.int .i64 0) (.int .i64 0) (.bool false) (.bool false) (.bool false)
    generalize ((((w2.setCell ⟨w.heap.size, 0, none⟩ (.int .i64 0)).setCell ⟨w.heap.size, 1, none⟩ (.int .i64 0)).setCell ⟨w.heap.size, 2, none⟩ (.bool false)).setCell ⟨w.heap.size, 3, none⟩ (.bool false)).setCell ⟨w.heap.size, 4, none⟩ (.bool false) = wF at *
    clear cR fR lR
    obtain ⟨cF, fF, lF⟩ := kF.facts
    exact bodyPost_ret (v := .tuple #[.agg #[.int .i64 0, .int .i64 0, .bool false, .bool false, .bool false], .int .i64 (3)]) (by simp [results, Tryz.results80, go_sem, cF]) rfl ⟨by rw [HV.out], hBF⟩
  · have hF : (bits .andNot .u64 (x : Int) 65311 != 0) = false := by rw [form_iff x hx]; exact decide_eq_false h2
    have hE : unpE x = chk (x % 4 : Nat) (x / 256 : Nat) (decide (x / 4 % 2 = 1)) (decide (x / 8 % 2 = 1)) (decide (x / 16 % 2 = 1)) := by unfold unpE; rw [if_neg h1, if_neg h2]
    have hv1 : unpE x ≠ 0 → unpR x = ((0, 0, false, false, false), unpE x) := fun h => by unfold unpR; rw [if_neg h]
    have hv2 : unpE x = 0 → unpR x = ((((x % 4 : Nat) : Int), ((x / 256 : Nat) : Int), decide (x / 4 % 2 = 1), decide (x / 8 % 2 = 1), decide (x / 16 % 2 = 1)), 0) := fun h => by unfold unpR; rw [if_pos h]
    rw [hE] at hv1 hv2
    have hn : x / 256 % 256 = x / 256 := by omega
    have hn2 : x / 256 < 256 := by omega
    obtain ⟨f1, f2, f3⟩ := bits_of x
    have hp1 := part1_any x
    have hp2 := part2_any x
    rw [hn] at hp2
    have hf8 : x / 4 % 8 < 8 := by omega
    have hk3 : x % 4 < 4 := by omega
    generalize decide (x / 4 % 2 = 1) = a at *
    generalize decide (x / 8 % 2 = 1) = b at *
    generalize decide (x / 16 % 2 = 1) = c at *
    generalize x / 4 % 8 = f at *
    generalize x / 256 = n at *
    have F1 := Lib.hid f1
    have F2 := Lib.hid f2
    have F3 := Lib.hid f3
    have HP1 := Lib.hid hp1
    have HP2 := Lib.hid hp2
    have HV1 := Lib.hid hv1
    have HV2 := Lib.hid hv2
    have H1 := Lib.hid h1
    generalize hk : x % 4 = k at hk3 HV1 HV2
    have HK := Lib.hid hk
    clear f1 f2 f3 hp1 hp2 hv1 hv2 hE h1 h2 hn hk
    go_enter Tryz.func80, Tryz.ntmps80
    go_wp2_with fail
    refine (Kind_any x _ hx (hL.alloc _)).mono ?_
    rw [if_neg H1.out, if_neg H1.out, HK.out]
    rintro e w1 ⟨rfl, hb1⟩
    have kR := (Bk.new w #[.int .i64 0, .int .i64 0, .bool false, .bool false, .bool false] 57).to hb1
    have hB1 := bnext (balloc (Below.refl _ _) _) hb1
    have hL1 := hL.below hB1
    clear hb1
    obtain ⟨l0, l1, l2, l3, l4, l5⟩ := hL1.cells
    go_wp2_with fail
    clear l0 l1 l2 l3 l4 l5
    refine (word_any 3 7 255 _ _ _ (by omega) (by omega) (by omega) (hL1.alloc _) (Rd.new #[.int .u64 3, .int .u64 7, .int .u64 255] _ rfl)).mono ?_
    rw [show ((wK 3 7 255 3 : Nat) : Int) = 65311 from rfl]
    rintro e w2 ⟨rfl, hb2⟩
    have hc2 := bnext (balloc (Below.refl _ _) _) hb2
    replace kR := kR.to hc2
    replace hB1 := bnext hB1 hc2
    replace hL1 := hL1.below hc2
    clear hb2 hc2
    obtain ⟨cR, fR, lR⟩ := kR.facts
    go_wp2_with fail
    refine (HP1.out _ hx hL1).mono ?_
    rintro e w3 ⟨rfl, hb3⟩
    go_wp2_with fail
    refine (HP2.out _ hx (hL1.below hb3)).mono ?_
    rintro e w4 ⟨rfl, hb4⟩
    have hc4 := bnext hb3 hb4
    replace kR := kR.to hc4
    replace hB1 := bnext hB1 hc4
    replace hL1 := hL1.below hc4
    clear hb3 hb4 hc4 cR fR lR
    go_wp2_with fail
    refine (has_z f 1 1 _ (by omega) (by omega) rfl).mono ?_
    rw [F1.out]
    rintro e w' ⟨rfl, rfl⟩
    go_wp2_with fail
    refine (has_z f 2 2 _ (by omega) (by omega) rfl).mono ?_
    rw [F2.out]
    rintro e w' ⟨rfl, rfl⟩
    go_wp2_with fail
    refine (has_z f 4 4 _ (by omega) (by omega) rfl).mono ?_
    rw [F3.out]
    rintro e w' ⟨rfl, rfl⟩
    go_wp2_with fail
    refine (Check_any _ _ _ _ _ _ (hL1.alloc _)).mono ?_
    rintro e w5 ⟨rfl, hb5⟩
    have hc5 := bnext (balloc (Below.refl _ _) _) hb5
    have kE := (Bk.new w4 #[.int .i64 k, .int .i64 n, .bool a, .bool b, .bool c] 57).to hb5
    replace kR := kR.to hc5
    replace hB1 := bnext hB1 hc5
    clear hb5 hc5
    obtain ⟨cR, fR, lR⟩ := kR.facts
    obtain ⟨cE, fE, lE⟩ := kE.facts
    by_cases hz : chk k n a b c = 0
    · have HV := Lib.hid (HV2.out hz)
      have hzb : (chk k n a b c != 0) = false := by simpa using hz
      clear hz
      go_wp2_with fail
      clear cE fE lE kE
      have kF := kR.put5 (.int .i64 k) (.int .i64 n) (.bool a) (.bool b) (.bool c)
      have hBF := below_put5 (b := w.heap.size) (hB1) (Nat.le_refl _) (.int .i64 k) (.int .i64 n) (.bool a) (.bool b) (.bool c)
      generalize ((((w5.setCell ⟨w.heap.size, 0, none⟩ (.int .i64 k)).setCell ⟨w.heap.size, 1, none⟩ (.int .i64 n)).setCell ⟨w.heap.size, 2, none⟩ (.bool a)).setCell ⟨w.heap.size, 3, none⟩ (.bool b)).setCell ⟨w.heap.size, 4, none⟩ (.bool c) = wF at *
      clear cR fR lR
      obtain ⟨cF, fF, lF⟩ := kF.facts
      exact bodyPost_ret (v := .tuple #[.agg #[.int .i64 k, .int .i64 n, .bool a, .bool b, .bool c], .int .i64 (0)]) (by simp [results, Tryz.results80, go_sem, cF]) rfl ⟨by rw [HV.out], hBF⟩
    · have HV := Lib.hid (HV1.out hz)
      have hzb : (chk k n a b c != 0) = true := by simpa using hz
      clear hz
      go_wp2_with fail
      clear cE fE lE kE
      have kF := kR.put5 (.int .i64 0) (.int .i64 0) (.bool false) (.bool false) (.bool false)
      have hBF := below_put5 (b := w.heap.size) (hB1) (Nat.le_refl _) (.int .i64 0) (.int .i64 0) (.bool false) (.bool false) (.bool false)
      generalize ((((w5.setCell ⟨w.heap.size, 0, none⟩ (.int .i64 0)).setCell ⟨w.heap.size, 1, none⟩ (.int .i64 0)).setCell ⟨w.heap.size, 2, none⟩ (.bool false)).setCell ⟨w.heap.size, 3, none⟩ (.bool false)).setCell ⟨w.heap.size, 4, none⟩ (.bool false) = wF at *
      clear cR fR lR
      obtain ⟨cF, fF, lF⟩ := kF.facts
      exact bodyPost_ret (v := .tuple #[.agg #[.int .i64 0, .int .i64 0, .bool false, .bool false, .bool false], .int .i64 (chk k n a b c)]) (by simp [results, Tryz.results80, go_sem, cF]) rfl ⟨by rw [HV.out], hBF⟩
end Go.Proofs.YtpkgfkhaiifooaaGreatDoor
/- Entries of a page table: the word of an entry; the reference's words. -/
namespace Go.Proofs.YtpkgfkhaiifooaaGreatDoor
open Go Go.Proofs Go.RowKit
set_option linter.unusedSimpArgs false
set_option linter.unusedVariables false
set_option maxRecDepth 100000

theorem cell_later {w w' : World} {a : Addr} {v : Value} (hb : Below w.heap.size w w') (h : w.cell? a = some v) : w'.cell? a = some v :=
  (hb.cell (World.block_lt_of_cell? w a h)).trans h
theorem cell_alloc {w : World} {a : Addr} {v : Value} (o : Obj) (h : w.cell? a = some v) : (w.alloc o).cell? a = some v :=
  (World.cell?_alloc_lt w o a (World.block_lt_of_cell? w a h)).trans h
theorem cell_drew {w : World} {a : Addr} {v : Value} (h : w.cell? a = some v) : w.drew.cell? a = some v := h
theorem cell_far {w : World} {a p : Addr} {v : Value} (h : w.cell? a = some v) (hp : a.block ≠ p.block) (u : Value) : (w.setCell p u).cell? a = some v := by
  rw [← h]
  simp only [World.cell?, Below.heap_setCell w p u a.block hp]

/-- The word of a valid entry. -/
def packN (k n : Nat) (a b c : Bool) : Nat := k + 4 * flagN a b c + 256 * n
theorem flagN_lt (a b c : Bool) : flagN a b c < 8 := by cases a <;> cases b <;> cases c <;> decide
theorem packN_wK (k n : Nat) (a b c : Bool) (hk : k < 4) (hn : n < 256) : wK k (flagN a b c) n 3 = packN k n a b c := by
  have := flagN_lt a b c
  simp only [wK, packN]
  omega

set_option maxHeartbeats 2000000 in
theorem pack_any (k n : Nat) (a b c : Bool) (w : World) (hk : k < 4) (hn : n < 256) (hL : LayOK w) :
    Calls Tryz.prog 106 #[.agg #[.int .i64 k, .int .i64 n, .bool a, .bool b, .bool c]] w fun e w' => e = .returned (.int .u64 (packN k n a b c)) ∧ Below w.heap.size w w' := by
  have hfl := flagN_lt a b c
  have HK := Lib.hid (packN_wK k n a b c hk hn)
  go_enter Tryz.func106, Tryz.ntmps106
  go_wp2_with fail
  have kB := Bk.new w #[.int .i64 k, .int .i64 n, .bool a, .bool b, .bool c] 57
  have hB := balloc (Below.refl _ w) (.cells #[.int .i64 k, .int .i64 n, .bool a, .bool b, .bool c] 57)
  replace hL := hL.below hB
  generalize w.alloc (.cells #[.int .i64 k, .int .i64 n, .bool a, .bool b, .bool c] 57) = w1 at *
  have c0 := kB.cell 0
  have c1 := kB.cell 1
  have c2 := kB.cell 2
  have c3 := kB.cell 3
  have c4 := kB.cell 4
  simp at c0 c1 c2 c3 c4
  have hw1 : IntKind.u64.wrap (k : Int) = (k : Int) := by rw [IntKind.wrap_u64]; omega
  have hw2 : IntKind.u64.wrap (n : Int) = (n : Int) := by rw [IntKind.wrap_u64]; omega
  go_region_held3 (fun w' => w'.cell? ⟨w.heap.size, 0, none⟩ = some (.int .i64 k) ∧ w'.cell? ⟨w.heap.size, 1, none⟩ = some (.int .i64 n) ∧ w'.cell? ⟨w.heap.size, 2, none⟩ = some (.bool a) ∧ w'.cell? ⟨w.heap.size, 3, none⟩ = some (.bool b) ∧ w'.cell? ⟨w.heap.size, 4, none⟩ = some (.bool c))
    (refine ⟨?_, ?_, ?_, ?_, ?_⟩ <;> (repeat (with_reducible first | exact c0 | exact c1 | exact c2 | exact c3 | exact c4 | refine cell_drew ?_ | refine cell_later hb3 ?_ | refine cell_alloc _ ?_ | refine cell_later hb2 ?_)))
    (first
      | (go_at_call 107; refine (flagsOf_any _ _ _ _ _ _).mono ?_; rintro e w2 ⟨rfl, hb2⟩)
      | (go_at_call 98; refine (word_any k (flagN a b c) n _ _ _ (by omega) (by omega) (by omega) ((hL.drew.below hb2).alloc _) (Rd.new #[.int .u64 k, .int .u64 (flagN a b c), .int .u64 n] _ rfl)).mono ?_; rw [HK.out]; rintro e w3 ⟨rfl, hb3⟩))
  go_wp2
  go_ret
  exact ⟨rfl, bnext hB (bnext (balloc (bnext (below_drew (Below.refl _ _)) hb2) _) hb3)⟩

/-- The word and the error of an entry. -/
def packR (k n : Int) (a b c : Bool) : Int × Int := if chk k n a b c ≠ 0 then (0, chk k n a b c) else ((packN k.toNat n.toNat a b c : Nat), 0)
theorem chk_ok (k n : Int) (a b c : Bool) (h : chk k n a b c = 0) : (k = 0 ∨ k = 1 ∨ k = 2) ∧ 0 ≤ n ∧ n ≤ 255 := by grind [chk]
theorem ret_two {k1 k2 : IntKind} {a b c d : Int} (h : (a, b) = (c, d)) : Ending.returned (.tuple #[.int k1 a, .int k2 b]) = .returned (.tuple #[.int k1 c, .int k2 d]) := by
  injection h with h1 h2; rw [h1, h2]

set_option maxHeartbeats 1000000 in
theorem Pack_any (k n : Int) (a b c : Bool) (w : World) (hL : LayOK w) :
    Calls Tryz.prog 94 #[.agg #[.int .i64 k, .int .i64 n, .bool a, .bool b, .bool c]] w fun e w' => e = .returned (.tuple #[.int .u64 (packR k n a b c).1, .int .i64 (packR k n a b c).2]) ∧ Below w.heap.size w w' := by
  by_cases hz : chk k n a b c = 0
  · obtain ⟨h1, h2, h3⟩ := chk_ok k n a b c hz
    obtain ⟨k, rfl⟩ : ∃ q : Nat, k = q := ⟨k.toNat, by omega⟩
    obtain ⟨n, rfl⟩ : ∃ q : Nat, n = q := ⟨n.toNat, by omega⟩
    have hv : packR k n a b c = (((packN k n a b c : Nat) : Int), 0) := by unfold packR; rw [if_neg (by simp [hz])]; rfl
    rw [hv]
    have hzb : (chk k n a b c != 0) = false := by simpa using hz
    have hk : k < 4 := by omega
    have hn : n < 256 := by omega
    clear hz hv h1
    go_enter Tryz.func94, Tryz.ntmps94
    go_wp2_with (first
      | (go_at_call 101; refine (Check_any _ _ _ _ _ _ (hL.alloc _)).mono ?_; rintro e w1 ⟨rfl, hb1⟩; have kB := (Bk.new w #[.int .i64 k, .int .i64 n, .bool a, .bool b, .bool c] 57).to hb1; obtain ⟨cB, fB, lB⟩ := kB.facts)
      | (go_at_call 106; refine (pack_any k n a b c _ hk hn ((hL.alloc _).below hb1)).mono ?_; rintro e w2 ⟨rfl, hb2⟩))
    go_ret2
    exact ⟨rfl, by (repeat' (first | exact Below.refl _ _ | assumption | refine balloc ?_ _ | refine below_drawn ?_ _ | refine below_drew ?_ | refine bnext ?_ hb24 | refine bnext ?_ hb23 | refine bnext ?_ hb22 | refine bnext ?_ hb21 | refine bnext ?_ hb20 | refine bnext ?_ hb19 | refine bnext ?_ hb18 | refine bnext ?_ hb17 | refine bnext ?_ hb16 | refine bnext ?_ hb15 | refine bnext ?_ hb14 | refine bnext ?_ hb13 | refine bnext ?_ hb12 | refine bnext ?_ hb11 | refine bnext ?_ hb10 | refine bnext ?_ hb9 | refine bnext ?_ hb8 | refine bnext ?_ hb7 | refine bnext ?_ hb6 | refine bnext ?_ hb5 | refine bnext ?_ hb4 | refine bnext ?_ hb3 | refine bnext ?_ hb2 | refine bnext ?_ hb1))⟩
  · have hv : packR k n a b c = (0, chk k n a b c) := by unfold packR; rw [if_pos hz]
    rw [hv]
    have hzb : (chk k n a b c != 0) = true := by simpa using hz
    clear hz hv
    go_enter Tryz.func94, Tryz.ntmps94
    go_wp2_with (go_at_call 101; refine (Check_any _ _ _ _ _ _ (hL.alloc _)).mono ?_; rintro e w1 ⟨rfl, hb1⟩)
    go_ret2
    exact ⟨rfl, by (repeat' (first | exact Below.refl _ _ | assumption | refine balloc ?_ _ | refine below_drawn ?_ _ | refine below_drew ?_ | refine bnext ?_ hb24 | refine bnext ?_ hb23 | refine bnext ?_ hb22 | refine bnext ?_ hb21 | refine bnext ?_ hb20 | refine bnext ?_ hb19 | refine bnext ?_ hb18 | refine bnext ?_ hb17 | refine bnext ?_ hb16 | refine bnext ?_ hb15 | refine bnext ?_ hb14 | refine bnext ?_ hb13 | refine bnext ?_ hb12 | refine bnext ?_ hb11 | refine bnext ?_ hb10 | refine bnext ?_ hb9 | refine bnext ?_ hb8 | refine bnext ?_ hb7 | refine bnext ?_ hb6 | refine bnext ?_ hb5 | refine bnext ?_ hb4 | refine bnext ?_ hb3 | refine bnext ?_ hb2 | refine bnext ?_ hb1))⟩
end Go.Proofs.YtpkgfkhaiifooaaGreatDoor
/- Entries of a page table: the words of the reference. -/
namespace Go.Proofs.YtpkgfkhaiifooaaGreatDoor
open Go Go.Proofs Go.RowKit
set_option linter.unusedSimpArgs false
set_option linter.unusedVariables false
set_option maxRecDepth 100000

end Go.Proofs.YtpkgfkhaiifooaaGreatDoor
/- Entries of a page table: which entry a word is, by the reference. -/
namespace Go.Proofs.YtpkgfkhaiifooaaGreatDoor
open Go Go.Proofs Go.RowKit
set_option linter.unusedSimpArgs false
set_option linter.unusedVariables false
set_option maxRecDepth 100000

set_option maxHeartbeats 2000000 in
theorem rUnpack_any (x : Nat) (w : World) (hx : x < 18446744073709551616) :
    Calls Tryz.prog 67 #[.int .u64 x] w fun e w' => EnRes w w' (unpR x) e := by
  have kR := Bk.new w #[.int .i64 0, .int .i64 0, .bool false, .bool false, .bool false] 57
  have hB0 := balloc (Below.refl _ w) (.cells #[.int .i64 0, .int .i64 0, .bool false, .bool false, .bool false] 57)
  by_cases h1 : x % 4 = 3
  · have hv : unpR x = ((0, 0, false, false, false), 16) := by unfold unpR unpE; simp [h1]
    have hI : (x : Int) % 4 = 3 := by omega
    have HV := Lib.hid hv
    clear h1 hv
    go_enter Tryz.func67, Tryz.ntmps67
    go_wp2_with fail
    exact bodyPost_ret (v := .tuple #[.agg #[.int .i64 0, .int .i64 0, .bool false, .bool false, .bool false], .int .i64 16]) (by simp [results, Tryz.results67, go_sem]) rfl ⟨by rw [HV.out], hB0⟩
  by_cases h2 : x / 32 % 8 ≠ 0 ∨ x / 65536 ≠ 0
  · have hv : unpR x = ((0, 0, false, false, false), 3) := by unfold unpR unpE; simp only [if_neg h1, if_pos h2]; rfl
    have hI : ((x : Int) % 4 == 3) = false := by simp; omega
    have HV := Lib.hid hv
    have h2' : (x / 32 % 8 ≠ 0) ∨ (x / 32 % 8 = 0 ∧ x / 65536 ≠ 0) := by omega
    clear h1 h2 hv
    rcases h2' with h2 | ⟨h2, h3⟩
    · have hI2 : ((x : Int) / 32 % 8 != 0) = true := by simp; omega
      clear h2
      go_enter Tryz.func67, Tryz.ntmps67
      go_wp2_with fail
      exact bodyPost_ret (v := .tuple #[.agg #[.int .i64 0, .int .i64 0, .bool false, .bool false, .bool false], .int .i64 3]) (by simp [results, Tryz.results67, go_sem]) rfl ⟨by rw [HV.out], hB0⟩
    · have hI2 : ((x : Int) / 32 % 8 != 0) = false := by simp; omega
      have hI3 : ((x : Int) / 65536 != 0) = true := by simp; omega
      clear h2 h3
      go_enter Tryz.func67, Tryz.ntmps67
      go_wp2_with fail
      exact bodyPost_ret (v := .tuple #[.agg #[.int .i64 0, .int .i64 0, .bool false, .bool false, .bool false], .int .i64 3]) (by simp [results, Tryz.results67, go_sem]) rfl ⟨by rw [HV.out], hB0⟩
  · have hE : unpE x = chk (x % 4 : Nat) (x / 256 : Nat) (decide (x / 4 % 2 = 1)) (decide (x / 8 % 2 = 1)) (decide (x / 16 % 2 = 1)) := by unfold unpE; rw [if_neg h1, if_neg h2]
    have hv1 : unpE x ≠ 0 → unpR x = ((0, 0, false, false, false), unpE x) := fun h => by unfold unpR; rw [if_neg h]
    have hv2 : unpE x = 0 → unpR x = ((((x % 4 : Nat) : Int), ((x / 256 : Nat) : Int), decide (x / 4 % 2 = 1), decide (x / 8 % 2 = 1), decide (x / 16 % 2 = 1)), 0) := fun h => by unfold unpR; rw [if_pos h]
    rw [hE] at hv1 hv2
    have hI : ((x : Int) % 4 == 3) = false := by simp; omega
    have hI2 : ((x : Int) / 32 % 8 != 0) = false := by simp; omega
    have hI3 : ((x : Int) / 65536 != 0) = false := by simp; omega
    have hd1 : ((x : Int) / 4 % 2 == 1) = decide (x / 4 % 2 = 1) := by rw [Bool.eq_iff_iff]; simp; omega
    have hd2 : ((x : Int) / 8 % 2 == 1) = decide (x / 8 % 2 = 1) := by rw [Bool.eq_iff_iff]; simp; omega
    have hd3 : ((x : Int) / 16 % 2 == 1) = decide (x / 16 % 2 = 1) := by rw [Bool.eq_iff_iff]; simp; omega
    have hk4 : x % 4 < 4 := by omega
    have hn2 : x / 256 < 256 := by omega
    have hkI : (x : Int) % 4 = ((x % 4 : Nat) : Int) := by omega
    have hnI : (x : Int) / 256 = ((x / 256 : Nat) : Int) := by omega
    generalize decide (x / 4 % 2 = 1) = a at *
    generalize decide (x / 8 % 2 = 1) = b at *
    generalize decide (x / 16 % 2 = 1) = c at *
    generalize x / 256 = n at *
    have HV1 := Lib.hid hv1
    have HV2 := Lib.hid hv2
    clear hv1 hv2 hE h1 h2
    generalize x % 4 = k at *
    rw [hkI] at hI
    go_enter Tryz.func67, Tryz.ntmps67
    go_wp2_with fail
    refine (rCheck_any _ _ _ _ _ _).mono ?_
    rintro e w5 ⟨rfl, hb5⟩
    have kE := (Bk.new (w.alloc (.cells #[.int .i64 0, .int .i64 0, .bool false, .bool false, .bool false] 57)) #[.int .i64 k, .int .i64 n, .bool a, .bool b, .bool c] 57).to hb5
    rw [World.size_alloc] at kE
    replace kR := (kR.alloc _).to hb5
    have hB1 := bnext (balloc hB0 _) hb5
    clear hb5 hB0 hI hI2 hI3 hd1 hd2 hd3 hkI hnI
    obtain ⟨cR, fR, lR⟩ := kR.facts
    obtain ⟨cE, fE, lE⟩ := kE.facts
    by_cases hz : chk k n a b c = 0
    · have HV := Lib.hid (HV2.out hz)
      have hzb : (chk k n a b c != 0) = false := by simpa using hz
      clear hz
      go_wp2_with fail
      clear cE fE lE kE
      have kF := kR.put5 (.int .i64 k) (.int .i64 n) (.bool a) (.bool b) (.bool c)
      have hBF := below_put5 (b := w.heap.size) (hB1) (by omega) (.int .i64 k) (.int .i64 n) (.bool a) (.bool b) (.bool c)
      generalize ((((w5.setCell ⟨w.heap.size, 0, none⟩ (.int .i64 k)).setCell ⟨w.heap.size, 1, none⟩ (.int .i64 n)).setCell ⟨w.heap.size, 2, none⟩ (.bool a)).setCell ⟨w.heap.size, 3, none⟩ (.bool b)).setCell ⟨w.heap.size, 4, none⟩ (.bool c) = wF at *
      clear cR fR lR
      obtain ⟨cF, fF, lF⟩ := kF.facts
      exact bodyPost_ret (v := .tuple #[.agg #[.int .i64 k, .int .i64 n, .bool a, .bool b, .bool c], .int .i64 (0)]) (by simp [results, Tryz.results67, go_sem, cF]) rfl ⟨by rw [HV.out], hBF⟩
    · have HV := Lib.hid (HV1.out hz)
      have hzb : (chk k n a b c != 0) = true := by simpa using hz
      clear hz
      go_wp2_with fail
      clear cE fE lE kE
      have kF := kR.put5 (.int .i64 0) (.int .i64 0) (.bool false) (.bool false) (.bool false)
      have hBF := below_put5 (b := w.heap.size) (hB1) (by omega) (.int .i64 0) (.int .i64 0) (.bool false) (.bool false) (.bool false)
      generalize ((((w5.setCell ⟨w.heap.size, 0, none⟩ (.int .i64 0)).setCell ⟨w.heap.size, 1, none⟩ (.int .i64 0)).setCell ⟨w.heap.size, 2, none⟩ (.bool false)).setCell ⟨w.heap.size, 3, none⟩ (.bool false)).setCell ⟨w.heap.size, 4, none⟩ (.bool false) = wF at *
      clear cR fR lR
      obtain ⟨cF, fF, lF⟩ := kF.facts
      exact bodyPost_ret (v := .tuple #[.agg #[.int .i64 0, .int .i64 0, .bool false, .bool false, .bool false], .int .i64 (chk k n a b c)]) (by simp [results, Tryz.results67, go_sem, cF]) rfl ⟨by rw [HV.out], hBF⟩
end Go.Proofs.YtpkgfkhaiifooaaGreatDoor
