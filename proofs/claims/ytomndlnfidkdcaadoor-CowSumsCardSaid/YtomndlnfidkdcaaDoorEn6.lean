/- Entries of a page table: the words of the reference. -/
import Derived.Test.YtomndlnfidkdcaaDoorEn5
namespace Go.Proofs.YtomndlnfidkdcaaDoor
open Go Go.Proofs Go.RowKit
set_option linter.unusedSimpArgs false
set_option linter.unusedVariables false
set_option maxRecDepth 100000

theorem bit_z (on : Bool) (p r : Int) (w : World) (h : on = false ∧ r = 0 ∨ on = true ∧ (p = 2 ∧ r = 4 ∨ p = 3 ∧ r = 8 ∨ p = 4 ∧ r = 16)) :
    Calls Tryd.prog 76 #[.bool on, .int .u64 p] w fun e w' => e = .returned (.int .u64 r) ∧ w' = w := by
  rcases h with ⟨rfl, rfl⟩ | ⟨rfl, ⟨rfl, rfl⟩ | ⟨rfl, rfl⟩ | ⟨rfl, rfl⟩⟩
  all_goals
    go_enter Tryd.func76, Tryd.ntmps76
    go_wp2
    go_ret
    exact ⟨rfl, rfl⟩

set_option maxHeartbeats 4000000 in
theorem rPack_any (k n : Int) (a b c : Bool) (w : World) :
    Calls Tryd.prog 71 #[.agg #[.int .i64 k, .int .i64 n, .bool a, .bool b, .bool c]] w fun e w' => e = .returned (.tuple #[.int .u64 (packR k n a b c).1, .int .i64 (packR k n a b c).2]) ∧ Below w.heap.size w w' := by
  by_cases hz : chk k n a b c = 0
  · obtain ⟨h1, h2, h3⟩ := chk_ok k n a b c hz
    obtain ⟨k, rfl⟩ : ∃ q : Nat, k = q := ⟨k.toNat, by omega⟩
    obtain ⟨n, rfl⟩ : ∃ q : Nat, n = q := ⟨n.toNat, by omega⟩
    have hv : packR k n a b c = (((packN k n a b c : Nat) : Int), 0) := by unfold packR; rw [if_neg (by simp [hz])]; rfl
    rw [hv]
    have hzb : (chk k n a b c != 0) = false := by simpa using hz
    have hk : k < 4 := by omega
    have hn : n < 256 := by omega
    clear hz hv h1
    cases a <;> cases b <;> cases c
    · go_enter Tryd.func71, Tryd.ntmps71
      go_wp2_with fail
      refine (rCheck_any _ _ _ _ _ _).mono ?_
      rintro e w1 ⟨rfl, hb1⟩
      have kB := (Bk.new w #[.int .i64 k, .int .i64 n, .bool false, .bool false, .bool false] 61).to hb1
      obtain ⟨cB, fB, lB⟩ := kB.facts
      have hB := bnext (balloc (Below.refl _ _) _) hb1
      clear hb1
      go_wp2_with fail
      refine wp_region_still_lit (by kernel_rfl) (by kernel_rfl) ?_
      repeat still_step
      still_call (bit_z false 2 0 _ (by decide))
      repeat still_step
      still_call (bit_z false 3 0 _ (by decide))
      repeat still_step
      still_call (bit_z false 4 0 _ (by decide))
      repeat still_step
      refine wpStill_nil ?_
      go_wp2
      go_ret2
      refine ⟨?_, below_drew hB⟩
      refine ret_two ?_
      refine congrArg (fun z : Int => (z, (0 : Int))) ?_
      simp only [IntKind.wrap_u64, packN, flagN, Bool.toNat_false, Bool.toNat_true]
      omega
    · go_enter Tryd.func71, Tryd.ntmps71
      go_wp2_with fail
      refine (rCheck_any _ _ _ _ _ _).mono ?_
      rintro e w1 ⟨rfl, hb1⟩
      have kB := (Bk.new w #[.int .i64 k, .int .i64 n, .bool false, .bool false, .bool true] 61).to hb1
      obtain ⟨cB, fB, lB⟩ := kB.facts
      have hB := bnext (balloc (Below.refl _ _) _) hb1
      clear hb1
      go_wp2_with fail
      refine wp_region_still_lit (by kernel_rfl) (by kernel_rfl) ?_
      repeat still_step
      still_call (bit_z false 2 0 _ (by decide))
      repeat still_step
      still_call (bit_z false 3 0 _ (by decide))
      repeat still_step
      still_call (bit_z true 4 16 _ (by decide))
      repeat still_step
      refine wpStill_nil ?_
      go_wp2
      go_ret2
      refine ⟨?_, below_drew hB⟩
      refine ret_two ?_
      refine congrArg (fun z : Int => (z, (0 : Int))) ?_
      simp only [IntKind.wrap_u64, packN, flagN, Bool.toNat_false, Bool.toNat_true]
      omega
    · go_enter Tryd.func71, Tryd.ntmps71
      go_wp2_with fail
      refine (rCheck_any _ _ _ _ _ _).mono ?_
      rintro e w1 ⟨rfl, hb1⟩
      have kB := (Bk.new w #[.int .i64 k, .int .i64 n, .bool false, .bool true, .bool false] 61).to hb1
      obtain ⟨cB, fB, lB⟩ := kB.facts
      have hB := bnext (balloc (Below.refl _ _) _) hb1
      clear hb1
      go_wp2_with fail
      refine wp_region_still_lit (by kernel_rfl) (by kernel_rfl) ?_
      repeat still_step
      still_call (bit_z false 2 0 _ (by decide))
      repeat still_step
      still_call (bit_z true 3 8 _ (by decide))
      repeat still_step
      still_call (bit_z false 4 0 _ (by decide))
      repeat still_step
      refine wpStill_nil ?_
      go_wp2
      go_ret2
      refine ⟨?_, below_drew hB⟩
      refine ret_two ?_
      refine congrArg (fun z : Int => (z, (0 : Int))) ?_
      simp only [IntKind.wrap_u64, packN, flagN, Bool.toNat_false, Bool.toNat_true]
      omega
    · go_enter Tryd.func71, Tryd.ntmps71
      go_wp2_with fail
      refine (rCheck_any _ _ _ _ _ _).mono ?_
      rintro e w1 ⟨rfl, hb1⟩
      have kB := (Bk.new w #[.int .i64 k, .int .i64 n, .bool false, .bool true, .bool true] 61).to hb1
      obtain ⟨cB, fB, lB⟩ := kB.facts
      have hB := bnext (balloc (Below.refl _ _) _) hb1
      clear hb1
      go_wp2_with fail
      refine wp_region_still_lit (by kernel_rfl) (by kernel_rfl) ?_
      repeat still_step
      still_call (bit_z false 2 0 _ (by decide))
      repeat still_step
      still_call (bit_z true 3 8 _ (by decide))
      repeat still_step
      still_call (bit_z true 4 16 _ (by decide))
      repeat still_step
      refine wpStill_nil ?_
      go_wp2
      go_ret2
      refine ⟨?_, below_drew hB⟩
      refine ret_two ?_
      refine congrArg (fun z : Int => (z, (0 : Int))) ?_
      simp only [IntKind.wrap_u64, packN, flagN, Bool.toNat_false, Bool.toNat_true]
      omega
    · go_enter Tryd.func71, Tryd.ntmps71
      go_wp2_with fail
      refine (rCheck_any _ _ _ _ _ _).mono ?_
      rintro e w1 ⟨rfl, hb1⟩
      have kB := (Bk.new w #[.int .i64 k, .int .i64 n, .bool true, .bool false, .bool false] 61).to hb1
      obtain ⟨cB, fB, lB⟩ := kB.facts
      have hB := bnext (balloc (Below.refl _ _) _) hb1
      clear hb1
      go_wp2_with fail
      refine wp_region_still_lit (by kernel_rfl) (by kernel_rfl) ?_
      repeat still_step
      still_call (bit_z true 2 4 _ (by decide))
      repeat still_step
      still_call (bit_z false 3 0 _ (by decide))
      repeat still_step
      still_call (bit_z false 4 0 _ (by decide))
      repeat still_step
      refine wpStill_nil ?_
      go_wp2
      go_ret2
      refine ⟨?_, below_drew hB⟩
      refine ret_two ?_
      refine congrArg (fun z : Int => (z, (0 : Int))) ?_
      simp only [IntKind.wrap_u64, packN, flagN, Bool.toNat_false, Bool.toNat_true]
      omega
    · go_enter Tryd.func71, Tryd.ntmps71
      go_wp2_with fail
      refine (rCheck_any _ _ _ _ _ _).mono ?_
      rintro e w1 ⟨rfl, hb1⟩
      have kB := (Bk.new w #[.int .i64 k, .int .i64 n, .bool true, .bool false, .bool true] 61).to hb1
      obtain ⟨cB, fB, lB⟩ := kB.facts
      have hB := bnext (balloc (Below.refl _ _) _) hb1
      clear hb1
      go_wp2_with fail
      refine wp_region_still_lit (by kernel_rfl) (by kernel_rfl) ?_
      repeat still_step
      still_call (bit_z true 2 4 _ (by decide))
      repeat still_step
      still_call (bit_z false 3 0 _ (by decide))
      repeat still_step
      still_call (bit_z true 4 16 _ (by decide))
      repeat still_step
      refine wpStill_nil ?_
      go_wp2
      go_ret2
      refine ⟨?_, below_drew hB⟩
      refine ret_two ?_
      refine congrArg (fun z : Int => (z, (0 : Int))) ?_
      simp only [IntKind.wrap_u64, packN, flagN, Bool.toNat_false, Bool.toNat_true]
      omega
    · go_enter Tryd.func71, Tryd.ntmps71
      go_wp2_with fail
      refine (rCheck_any _ _ _ _ _ _).mono ?_
      rintro e w1 ⟨rfl, hb1⟩
      have kB := (Bk.new w #[.int .i64 k, .int .i64 n, .bool true, .bool true, .bool false] 61).to hb1
      obtain ⟨cB, fB, lB⟩ := kB.facts
      have hB := bnext (balloc (Below.refl _ _) _) hb1
      clear hb1
      go_wp2_with fail
      refine wp_region_still_lit (by kernel_rfl) (by kernel_rfl) ?_
      repeat still_step
      still_call (bit_z true 2 4 _ (by decide))
      repeat still_step
      still_call (bit_z true 3 8 _ (by decide))
      repeat still_step
      still_call (bit_z false 4 0 _ (by decide))
      repeat still_step
      refine wpStill_nil ?_
      go_wp2
      go_ret2
      refine ⟨?_, below_drew hB⟩
      refine ret_two ?_
      refine congrArg (fun z : Int => (z, (0 : Int))) ?_
      simp only [IntKind.wrap_u64, packN, flagN, Bool.toNat_false, Bool.toNat_true]
      omega
    · go_enter Tryd.func71, Tryd.ntmps71
      go_wp2_with fail
      refine (rCheck_any _ _ _ _ _ _).mono ?_
      rintro e w1 ⟨rfl, hb1⟩
      have kB := (Bk.new w #[.int .i64 k, .int .i64 n, .bool true, .bool true, .bool true] 61).to hb1
      obtain ⟨cB, fB, lB⟩ := kB.facts
      have hB := bnext (balloc (Below.refl _ _) _) hb1
      clear hb1
      go_wp2_with fail
      refine wp_region_still_lit (by kernel_rfl) (by kernel_rfl) ?_
      repeat still_step
      still_call (bit_z true 2 4 _ (by decide))
      repeat still_step
      still_call (bit_z true 3 8 _ (by decide))
      repeat still_step
      still_call (bit_z true 4 16 _ (by decide))
      repeat still_step
      refine wpStill_nil ?_
      go_wp2
      go_ret2
      refine ⟨?_, below_drew hB⟩
      refine ret_two ?_
      refine congrArg (fun z : Int => (z, (0 : Int))) ?_
      simp only [IntKind.wrap_u64, packN, flagN, Bool.toNat_false, Bool.toNat_true]
      omega
  · have hv : packR k n a b c = (0, chk k n a b c) := by unfold packR; rw [if_pos hz]
    rw [hv]
    have hzb : (chk k n a b c != 0) = true := by simpa using hz
    clear hz hv
    go_enter Tryd.func71, Tryd.ntmps71
    go_wp2_with (go_at_call 73; refine (rCheck_any _ _ _ _ _ _).mono ?_; rintro e w1 ⟨rfl, hb1⟩)
    go_ret2
    exact ⟨rfl, by (repeat' (first | exact Below.refl _ _ | assumption | refine balloc ?_ _ | refine below_drawn ?_ _ | refine below_drew ?_ | refine bnext ?_ hb24 | refine bnext ?_ hb23 | refine bnext ?_ hb22 | refine bnext ?_ hb21 | refine bnext ?_ hb20 | refine bnext ?_ hb19 | refine bnext ?_ hb18 | refine bnext ?_ hb17 | refine bnext ?_ hb16 | refine bnext ?_ hb15 | refine bnext ?_ hb14 | refine bnext ?_ hb13 | refine bnext ?_ hb12 | refine bnext ?_ hb11 | refine bnext ?_ hb10 | refine bnext ?_ hb9 | refine bnext ?_ hb8 | refine bnext ?_ hb7 | refine bnext ?_ hb6 | refine bnext ?_ hb5 | refine bnext ?_ hb4 | refine bnext ?_ hb3 | refine bnext ?_ hb2 | refine bnext ?_ hb1))⟩
end Go.Proofs.YtomndlnfidkdcaaDoor
