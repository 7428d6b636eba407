/- AddrWhere and AddrBack return true for all numbers. -/
import Derived.Test.YtmaebbbaooodaaaAwake03
import Derived.Test.YtmaebbbaooodaaaAddr2
namespace Go.Proofs.Ytmaebbbaooodaaa
open Go Go.Proofs Go.RowKit

def leafR (p : Int) : Int × Int × Int := if 0 ≤ p ∧ p < 64 then (p / 8, p % 8, 0) else (0, 0, 2)
def whereR (p : Int) : Int × Int × Int := if 0 ≤ p ∧ p < 512 then (p / 8, p % 8, 0) else (0, 0, 2)
def pageR (lim l i : Int) : Int × Int := if 0 ≤ l ∧ l < lim ∧ 0 ≤ i ∧ i < 8 then (l * 8 + i, 0) else (0, 2)

theorem Leaf_any (p : Int) (w : World) :
    Calls Try.prog 12 #[.int .i64 p] w fun e w' => e = .returned (.tuple #[.int .i64 (leafR p).1, .int .i64 (leafR p).2.1, .int .i64 (leafR p).2.2]) ∧ w = w' := by
  unfold leafR
  by_cases h : 0 ≤ p ∧ p < 64
  · simp only [if_pos h]; exact Leaf_ok p w h.1 h.2
  · simp only [if_neg h]; exact Leaf_bad p w (by omega)
theorem rLeaf_any (p : Int) (w : World) :
    Calls Try.prog 13 #[.int .i64 p] w fun e w' => e = .returned (.tuple #[.int .i64 (leafR p).1, .int .i64 (leafR p).2.1, .int .i64 (leafR p).2.2]) ∧ w = w' := by
  unfold leafR
  by_cases h : 0 ≤ p ∧ p < 64
  · simp only [if_pos h]; exact rLeaf_ok p w h.1 h.2
  · simp only [if_neg h]; exact rLeaf_bad p w (by omega)
theorem Where_any (p : Int) (w : World) :
    Calls Try.prog 14 #[.int .i64 p] w fun e w' => e = .returned (.tuple #[.int .i64 (whereR p).1, .int .i64 (whereR p).2.1, .int .i64 (whereR p).2.2]) ∧ w = w' := by
  unfold whereR
  by_cases h : 0 ≤ p ∧ p < 512
  · simp only [if_pos h]; exact Where_ok p w h.1 h.2
  · simp only [if_neg h]; exact Where_bad p w (by omega)
theorem rWhere_any (p : Int) (w : World) :
    Calls Try.prog 15 #[.int .i64 p] w fun e w' => e = .returned (.tuple #[.int .i64 (whereR p).1, .int .i64 (whereR p).2.1, .int .i64 (whereR p).2.2]) ∧ w = w' := by
  unfold whereR
  by_cases h : 0 ≤ p ∧ p < 512
  · simp only [if_pos h]; exact rWhere_ok p w h.1 h.2
  · simp only [if_neg h]; exact rWhere_bad p w (by omega)
theorem Page_any (l i : Int) (w : World) :
    Calls Try.prog 16 #[.int .i64 l, .int .i64 i] w fun e w' => e = .returned (.tuple #[.int .i64 (pageR 8 l i).1, .int .i64 (pageR 8 l i).2]) ∧ w = w' := by
  unfold pageR
  by_cases h : 0 ≤ l ∧ l < 8 ∧ 0 ≤ i ∧ i < 8
  · simp only [if_pos h]; exact Page_ok l i w h.1 h.2.1 h.2.2.1 h.2.2.2
  · simp only [if_neg h]; exact Page_bad l i w (by omega)
theorem rPage_any (l i : Int) (w : World) :
    Calls Try.prog 17 #[.int .i64 l, .int .i64 i] w fun e w' => e = .returned (.tuple #[.int .i64 (pageR 8 l i).1, .int .i64 (pageR 8 l i).2]) ∧ w = w' := by
  unfold pageR
  by_cases h : 0 ≤ l ∧ l < 8 ∧ 0 ≤ i ∧ i < 8
  · simp only [if_pos h]; exact rPage_ok l i w h.1 h.2.1 h.2.2.1 h.2.2.2
  · simp only [if_neg h]; exact rPage_bad l i w (by omega)
theorem Address_any (l i : Int) (w : World) :
    Calls Try.prog 18 #[.int .i64 l, .int .i64 i] w fun e w' => e = .returned (.tuple #[.int .i64 (pageR 64 l i).1, .int .i64 (pageR 64 l i).2]) ∧ w = w' := by
  unfold pageR
  by_cases h : 0 ≤ l ∧ l < 64 ∧ 0 ≤ i ∧ i < 8
  · simp only [if_pos h]; exact Address_ok l i w h.1 h.2.1 h.2.2.1 h.2.2.2
  · simp only [if_neg h]; exact Address_bad l i w (by omega)
theorem rAddress_any (l i : Int) (w : World) :
    Calls Try.prog 19 #[.int .i64 l, .int .i64 i] w fun e w' => e = .returned (.tuple #[.int .i64 (pageR 64 l i).1, .int .i64 (pageR 64 l i).2]) ∧ w = w' := by
  unfold pageR
  by_cases h : 0 ≤ l ∧ l < 64 ∧ 0 ≤ i ∧ i < 8
  · simp only [if_pos h]; exact rAddress_ok l i w h.1 h.2.1 h.2.2.1 h.2.2.2
  · simp only [if_neg h]; exact rAddress_bad l i w (by omega)

set_option maxRecDepth 100000 in
set_option maxHeartbeats 1000000 in
theorem AddrWhere_true (n m : Int) (w : World) :
    Calls Try.prog 4 #[.int .i64 n, .int .i64 m] w fun e w' => e = .returned (.bool true) ∧ Below w.heap.size w w' := by
  go_enter Try.func4, Try.ntmps4
  go_wp2_with (first | (go_at_call 12; refine (Leaf_any _ _).mono ?_; rintro e w' ⟨rfl, rfl⟩) | (go_at_call 13; refine (rLeaf_any _ _).mono ?_; rintro e w' ⟨rfl, rfl⟩) | (go_at_call 14; refine (Where_any _ _).mono ?_; rintro e w' ⟨rfl, rfl⟩) | (go_at_call 15; refine (rWhere_any _ _).mono ?_; rintro e w' ⟨rfl, rfl⟩) | (go_at_call 16; refine (Page_any _ _ _).mono ?_; rintro e w' ⟨rfl, rfl⟩) | (go_at_call 17; refine (rPage_any _ _ _).mono ?_; rintro e w' ⟨rfl, rfl⟩) | (go_at_call 18; refine (Address_any _ _ _).mono ?_; rintro e w' ⟨rfl, rfl⟩) | (go_at_call 19; refine (rAddress_any _ _ _).mono ?_; rintro e w' ⟨rfl, rfl⟩) | (go_at_call 11; refine (awake_true _).mono ?_; rintro e w5 ⟨rfl, hb5⟩))
  all_goals
    go_ret
    exact ⟨ret_true (by first | rfl | (simp <;> omega)), by (repeat' (first | exact Below.refl _ _ | assumption | refine balloc ?_ _ | refine below_drawn ?_ _ | refine below_drew ?_ | refine bnext ?_ hb24 | refine bnext ?_ hb23 | refine bnext ?_ hb22 | refine bnext ?_ hb21 | refine bnext ?_ hb20 | refine bnext ?_ hb19 | refine bnext ?_ hb18 | refine bnext ?_ hb17 | refine bnext ?_ hb16 | refine bnext ?_ hb15 | refine bnext ?_ hb14 | refine bnext ?_ hb13 | refine bnext ?_ hb12 | refine bnext ?_ hb11 | refine bnext ?_ hb10 | refine bnext ?_ hb9 | refine bnext ?_ hb8 | refine bnext ?_ hb7 | refine bnext ?_ hb6 | refine bnext ?_ hb5 | refine bnext ?_ hb4 | refine bnext ?_ hb3 | refine bnext ?_ hb2 | refine bnext ?_ hb1))⟩

set_option maxRecDepth 100000 in
set_option maxHeartbeats 1000000 in
theorem AddrBack_true (n m : Int) (w : World) :
    Calls Try.prog 5 #[.int .i64 n, .int .i64 m] w fun e w' => e = .returned (.bool true) ∧ Below w.heap.size w w' := by
  have n0 : 0 ≤ n % 512 := by omega
  have n1 : n % 512 < 512 := by omega
  have m0 : 0 ≤ m % 512 := by omega
  have m1 : m % 512 < 512 := by omega
  go_enter Try.func5, Try.ntmps5
  go_wp2_with (first | (go_at_call 9; refine (Mod_any _ _ _ (by omega) (by omega)).mono ?_; rintro e w' ⟨rfl, rfl⟩) | (go_at_call 12; refine (Leaf_ok _ _ (by omega) (by omega)).mono ?_; rintro e w' ⟨rfl, rfl⟩) | (go_at_call 14; refine (Where_ok _ _ (by omega) (by omega)).mono ?_; rintro e w' ⟨rfl, rfl⟩) | (go_at_call 16; refine (Page_ok _ _ _ (by omega) (by omega) (by omega) (by omega)).mono ?_; rintro e w' ⟨rfl, rfl⟩) | (go_at_call 18; refine (Address_ok _ _ _ (by omega) (by omega) (by omega) (by omega)).mono ?_; rintro e w' ⟨rfl, rfl⟩) | (go_at_call 11; refine (awake_true _).mono ?_; rintro e w5 ⟨rfl, hb5⟩))
  all_goals
    go_ret
    exact ⟨ret_true (by first | rfl | (simp <;> omega)), by (repeat' (first | exact Below.refl _ _ | assumption | refine balloc ?_ _ | refine below_drawn ?_ _ | refine below_drew ?_ | refine bnext ?_ hb24 | refine bnext ?_ hb23 | refine bnext ?_ hb22 | refine bnext ?_ hb21 | refine bnext ?_ hb20 | refine bnext ?_ hb19 | refine bnext ?_ hb18 | refine bnext ?_ hb17 | refine bnext ?_ hb16 | refine bnext ?_ hb15 | refine bnext ?_ hb14 | refine bnext ?_ hb13 | refine bnext ?_ hb12 | refine bnext ?_ hb11 | refine bnext ?_ hb10 | refine bnext ?_ hb9 | refine bnext ?_ hb8 | refine bnext ?_ hb7 | refine bnext ?_ hb6 | refine bnext ?_ hb5 | refine bnext ?_ hb4 | refine bnext ?_ hb3 | refine bnext ?_ hb2 | refine bnext ?_ hb1))⟩

end Go.Proofs.Ytmaebbbaooodaaa
