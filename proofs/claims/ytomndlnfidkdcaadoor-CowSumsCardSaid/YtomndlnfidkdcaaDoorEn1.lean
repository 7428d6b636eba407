/- Entries of a page table: flags, parts and words. -/
import Derived.Test.YtomndlnfidkdcaaDoorBase
import Derived.Test.YtomndlnfidkdcaaDoorProg
import Derived.Laws.BitsAllLaws
namespace Go.Proofs.YtomndlnfidkdcaaDoor
open Go Go.Proofs Go.RowKit
set_option linter.unusedSimpArgs false
set_option linter.unusedVariables false

/-- The table of the fields of a word. -/
def layTab : List Int := [0, 3, 2, 7, 8, 255]
def LayOK (w : World) : Prop := ∀ j : Nat, j < 6 → w.cell? ⟨0, j, none⟩ = some (.int .u64 (layTab.getD j 0))
theorem LayOK.lt {w : World} (h : LayOK w) : 0 < w.heap.size := World.block_lt_of_cell? w _ (h 0 (by omega))
theorem LayOK.below {w w' : World} (h : LayOK w) (hb : Below w.heap.size w w') : LayOK w' := fun j hj => (hb.cell (p := ⟨0, j, none⟩) h.lt).trans (h j hj)
theorem LayOK.alloc {w : World} (h : LayOK w) (o : Obj) : LayOK (w.alloc o) := h.below ((Below.refl _ _).alloc (Nat.le_refl _) _)
theorem LayOK.drew {w : World} (h : LayOK w) : LayOK w.drew := h
theorem LayOK.drewN {w : World} (h : LayOK w) (n : Nat) : LayOK (w.drewN n) := h
theorem LayOK.cells {w : World} (h : LayOK w) : w.cell? ⟨0, 0, none⟩ = some (.int .u64 0) ∧ w.cell? ⟨0, 1, none⟩ = some (.int .u64 3) ∧ w.cell? ⟨0, 2, none⟩ = some (.int .u64 2) ∧
    w.cell? ⟨0, 3, none⟩ = some (.int .u64 7) ∧ w.cell? ⟨0, 4, none⟩ = some (.int .u64 8) ∧ w.cell? ⟨0, 5, none⟩ = some (.int .u64 255) :=
  ⟨h 0 (by omega), h 1 (by omega), h 2 (by omega), h 3 (by omega), h 4 (by omega), h 5 (by omega)⟩

theorem and_mod (x k : Nat) (hx : x < 18446744073709551616) (hk : k ≤ 8) : bits .and .u64 (x : Int) ((2 ^ k - 1 : Nat) : Int) = ((x % 2 ^ k : Nat) : Int) := by
  have h8 : 2 ^ k ≤ 2 ^ 8 := Nat.pow_le_pow_right (by omega) hk
  rw [u64_and_nat x (2 ^ k - 1) hx (by omega), Nat.and_two_pow_sub_one_eq_mod]

/-- The flags of an entry as a number. -/
def flagN (a b c : Bool) : Nat := a.toNat + 2 * b.toNat + 4 * c.toNat

theorem with_any (f g : Nat) (on : Bool) (w : World) (hf : f < 8) (hg : g < 8) :
    Calls Tryd.prog 77 #[.int .u64 f, .int .u64 g, .bool on] w fun e w' => e = .returned (.int .u64 ((if on then f ||| g else f &&& (18446744073709551615 - g) : Nat) : Int)) ∧ w = w' := by
  have HO := Lib.hid (u64_or_nat f g (by omega) (by omega))
  have HA := Lib.hid (u64_andNot_nat f g (by omega) (by omega))
  cases on
  all_goals
    go_enter Tryd.func77, Tryd.ntmps77
    go_wp2
    go_ret
    first
      | exact ⟨ret_int HO.out, rfl⟩
      | exact ⟨ret_int HA.out, rfl⟩

theorem has_fl (f g : Nat) (w : World) (hf : f < 18446744073709551616) (hg : g < 18446744073709551616) :
    Calls Tryd.prog 67 #[.int .u64 f, .int .u64 g] w fun e w' => e = .returned (.bool (decide (f &&& g ≠ 0))) ∧ w = w' := by
  have HO := Lib.hid (u64_and_nat f g hf hg)
  go_enter Tryd.func67, Tryd.ntmps67
  go_wp2
  go_ret
  refine ⟨?_, rfl⟩
  show Ending.returned (.bool (bits .and .u64 (f : Int) (g : Int) != 0)) = _
  rw [HO.out]
  congr 2
  rw [Bool.eq_iff_iff]
  simp

theorem part0_any (x : Nat) (w : World) (hx : x < 18446744073709551616) (hL : LayOK w) :
    Calls Tryd.prog 66 #[.int .u64 x, .int .i64 0] w fun e w' => e = .returned (.int .u64 (x / 1 % 4 : Nat)) ∧ Below w.heap.size w w' := by
  have hx2 : x / 1 < 18446744073709551616 := Nat.lt_of_le_of_lt (Nat.div_le_self _ _) hx
  have HO := Lib.hid (and_mod (x / 1) 2 hx2 (by omega))
  obtain ⟨l0, l1, l2, l3, l4, l5⟩ := hL.cells
  go_enter Tryd.func66, Tryd.ntmps66
  go_wp2_with fail
  go_quiet (fail)
  go_wp2
  go_ret
  refine ⟨ret_int ?_, below_drawn (Below.refl _ _) _⟩
  have := HO.out
  simpa using this
theorem part1_any (x : Nat) (w : World) (hx : x < 18446744073709551616) (hL : LayOK w) :
    Calls Tryd.prog 66 #[.int .u64 x, .int .i64 1] w fun e w' => e = .returned (.int .u64 (x / 4 % 8 : Nat)) ∧ Below w.heap.size w w' := by
  have hx2 : x / 4 < 18446744073709551616 := Nat.lt_of_le_of_lt (Nat.div_le_self _ _) hx
  have HO := Lib.hid (and_mod (x / 4) 3 hx2 (by omega))
  obtain ⟨l0, l1, l2, l3, l4, l5⟩ := hL.cells
  go_enter Tryd.func66, Tryd.ntmps66
  go_wp2_with fail
  go_quiet (fail)
  go_wp2
  go_ret
  refine ⟨ret_int ?_, below_drawn (Below.refl _ _) _⟩
  have := HO.out
  simpa using this
theorem part2_any (x : Nat) (w : World) (hx : x < 18446744073709551616) (hL : LayOK w) :
    Calls Tryd.prog 66 #[.int .u64 x, .int .i64 2] w fun e w' => e = .returned (.int .u64 (x / 256 % 256 : Nat)) ∧ Below w.heap.size w w' := by
  have hx2 : x / 256 < 18446744073709551616 := Nat.lt_of_le_of_lt (Nat.div_le_self _ _) hx
  have HO := Lib.hid (and_mod (x / 256) 8 hx2 (by omega))
  obtain ⟨l0, l1, l2, l3, l4, l5⟩ := hL.cells
  go_enter Tryd.func66, Tryd.ntmps66
  go_wp2_with fail
  go_quiet (fail)
  go_wp2
  go_ret
  refine ⟨ret_int ?_, below_drawn (Below.refl _ _) _⟩
  have := HO.out
  simpa using this
end Go.Proofs.YtomndlnfidkdcaaDoor
