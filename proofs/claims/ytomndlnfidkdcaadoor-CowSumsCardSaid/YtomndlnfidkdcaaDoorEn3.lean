/- Entries of a page table: which are valid, and the kind of a word. -/
import Derived.Test.YtomndlnfidkdcaaDoorEn2
namespace Go.Proofs.YtomndlnfidkdcaaDoor
open Go Go.Proofs Go.RowKit
set_option linter.unusedSimpArgs false
set_option linter.unusedVariables false
set_option maxRecDepth 100000

/-- The error of an entry. -/
def chk (k n : Int) (a b c : Bool) : Int :=
  if ¬ (k = 0 ∨ k = 1 ∨ k = 2) then 16 else if n < 0 ∨ 255 < n ∨ (k = 0 ∧ n ≠ 0) then 2 else if k = 1 then (if a = b then 3 else 0) else if a = true ∨ b = true ∨ c = true then 3 else 0
theorem flagN_zero (a b c : Bool) : (((flagN a b c : Nat) : Int) != 0) = (a || b || c) := by cases a <;> cases b <;> cases c <;> rfl

set_option maxHeartbeats 2000000 in
theorem Check_any (k n : Int) (a b c : Bool) (w : World) (hL : LayOK w) :
    Calls Tryd.prog 68 #[.agg #[.int .i64 k, .int .i64 n, .bool a, .bool b, .bool c]] w fun e w' => e = .returned (.int .i64 (chk k n a b c)) ∧ Below w.heap.size w w' := by
  obtain ⟨l0, l1, l2, l3, l4, l5⟩ := hL.cells
  have hlt := hL.lt
  have hB := balloc (Below.refl _ w) (.cells #[.int .i64 k, .int .i64 n, .bool a, .bool b, .bool c] 61)
  have hfl := flagN_zero a b c
  go_enter Tryd.func68, Tryd.ntmps68
  go_wp2_with (go_at_call 75; refine (flagsOf_any _ _ _ _ _ _).mono ?_; rintro e w1 ⟨rfl, hb1⟩)
  all_goals
    go_ret
    refine ⟨ret_int ?_, by first | exact bnext hB hb1 | exact hB | (refine bnext ?_ hb1; exact balloc (Below.refl _ _) _) | exact balloc (Below.refl _ _) _⟩
    clear l0 l1 l2 l3 l4 l5 hL
    grind [chk]

set_option maxHeartbeats 2000000 in
theorem rCheck_any (k n : Int) (a b c : Bool) (w : World) :
    Calls Tryd.prog 73 #[.agg #[.int .i64 k, .int .i64 n, .bool a, .bool b, .bool c]] w fun e w' => e = .returned (.int .i64 (chk k n a b c)) ∧ Below w.heap.size w w' := by
  go_enter Tryd.func73, Tryd.ntmps73
  go_wp2_with fail
  all_goals
    go_ret
    refine ⟨ret_int ?_, balloc (Below.refl _ _) _⟩
    grind [chk]

theorem Kind_any (x : Nat) (w : World) (hx : x < 18446744073709551616) (hL : LayOK w) :
    Calls Tryd.prog 64 #[.int .u64 x] w fun e w' => e = .returned (.tuple #[.int .i64 (if x % 4 = 3 then 0 else (x % 4 : Nat)), .int .i64 (if x % 4 = 3 then 16 else 0)]) ∧ Below w.heap.size w w' := by
  by_cases h : x % 4 = 3
  · rw [if_pos h, if_pos h]
    have H := Lib.hid h
    clear h
    go_enter Tryd.func64, Tryd.ntmps64
    go_wp2_with (go_at_call 66; refine (part0_any x _ hx hL).mono ?_; rw [Nat.div_one, H.out]; rintro e w1 ⟨rfl, hb1⟩)
    go_ret2
    exact ⟨rfl, hb1⟩
  · rw [if_neg h, if_neg h]
    have h2 : x % 4 < 3 := by omega
    generalize hy : x % 4 = y at *
    have H := Lib.hid hy
    clear h hy
    go_enter Tryd.func64, Tryd.ntmps64
    go_wp2_with (go_at_call 66; refine (part0_any x _ hx hL).mono ?_; rw [Nat.div_one, H.out]; rintro e w1 ⟨rfl, hb1⟩)
    go_ret2
    exact ⟨rfl, hb1⟩
end Go.Proofs.YtomndlnfidkdcaaDoor
