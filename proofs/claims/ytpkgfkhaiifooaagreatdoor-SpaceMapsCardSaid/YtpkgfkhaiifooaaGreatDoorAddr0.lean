/- headgatekit.Mod, and the pages and leaves of package addr. -/
import Derived.Test.YtpkgfkhaiifooaaGreatDoorBase
import Derived.Test.YtpkgfkhaiifooaaGreatDoorProg
namespace Go.Proofs.YtpkgfkhaiifooaaGreatDoor
open Go Go.Proofs Go.RowKit
set_option linter.unusedSimpArgs false
set_option linter.unusedVariables false

theorem and7 (p : Int) (h0 : 0 ≤ p) (h1 : p < 18446744073709551616) : wrap64 (bits .and .u64 p 7) = p % 8 := by
  rw [u64_and p 7 h0 h1 (by omega) (by omega)]
  rw [show (7 : Int).toNat = 7 from rfl, nat_mask3, IntWalk.wrap64_in _ (by omega)]
  omega
theorem or_lo (l i : Int) (h0 : 0 ≤ l) (h1 : l < 1000000) (h2 : 0 ≤ i) (h3 : i < 8) : wrap64 (bits .or .u64 (l * 8) i) = l * 8 + i := by
  rw [u64_or (l * 8) i (by omega) (by omega) (by omega) (by omega), nat_join 3 _ _ (by omega) (by omega), IntWalk.wrap64_in _ (by omega)]
  omega
theorem tmod_fix (n m : Int) (h : 1 ≤ m) (h1 : n.tmod m < 0) : n.tmod m + m = n % m := by
  have hlt : n < 0 := by
    rcases Int.lt_or_le n 0 with h' | h'
    · exact h'
    · have := Int.tmod_nonneg m h'; omega
  have e := Int.emod_add_mul_ediv n m
  have e' := Int.tmod_add_mul_tdiv n m
  have hl : -m < n.tmod m := by have := Int.lt_tmod_of_pos n (show 0 < m by omega); omega
  have hb : 0 ≤ n % m := Int.emod_nonneg _ (by omega)
  have hb' : n % m < m := Int.emod_lt_of_pos _ (by omega)
  have hd : m * (n / m - n.tdiv m) = n.tmod m - n % m := by rw [Int.mul_sub]; omega
  have : n / m - n.tdiv m = -1 := by
    have h2 : m * (n / m - n.tdiv m) < 0 := by omega
    have h3 : m * (n / m - n.tdiv m) > m * (-2) := by omega
    have h4 : n / m - n.tdiv m < 0 := by
      rcases Int.lt_or_le (n / m - n.tdiv m) 0 with h' | h'
      · exact h'
      · have := Int.mul_nonneg (show 0 ≤ m by omega) h'; omega
    have h5 : -2 < n / m - n.tdiv m := Int.lt_of_mul_lt_mul_left h3 (by omega)
    omega
  rw [this] at hd
  omega
theorem tmod_pos (n m : Int) (h : 1 ≤ m) (h1 : 0 ≤ n.tmod m) : n.tmod m = n % m := by
  rcases Int.lt_or_le n 0 with h' | h'
  · have e := Int.emod_add_mul_ediv n m
    have e' := Int.tmod_add_mul_tdiv n m
    have hb : 0 ≤ n % m := Int.emod_nonneg _ (by omega)
    have hb' : n % m < m := Int.emod_lt_of_pos _ (by omega)
    have hu : n.tmod m < m := Int.tmod_lt_of_pos n (by omega)
    have hd : m * (n / m - n.tdiv m) = n.tmod m - n % m := by rw [Int.mul_sub]; omega
    have h2 : m * (n / m - n.tdiv m) < m * 1 := by omega
    have h3 : m * (n / m - n.tdiv m) > m * (-1) := by omega
    have h4 := Int.lt_of_mul_lt_mul_left h2 (by omega)
    have h5 := Int.lt_of_mul_lt_mul_left h3 (by omega)
    rw [show n / m - n.tdiv m = 0 by omega] at hd
    omega
  · exact Int.tmod_eq_emod_of_nonneg h'

theorem leafOf_any (p : Int) (w : World) (h0 : 0 ≤ p) (h1 : p < 64) :
    Calls Tryz.prog 102 #[.int .i64 p] w fun e w' => e = .returned (.int .i64 (p / 8)) ∧ w = w' := by
  go_enter Tryz.func102, Tryz.ntmps102
  go_wp2
  go_ret
  exact ⟨rfl, rfl⟩

theorem Leaf_ok (p : Int) (w : World) (h0 : 0 ≤ p) (h1 : p < 64) :
    Calls Tryz.prog 81 #[.int .i64 p] w fun e w' => e = .returned (.tuple #[.int .i64 (p / 8), .int .i64 (p % 8), .int .i64 0]) ∧ w = w' := by
  go_enter Tryz.func81, Tryz.ntmps81
  go_wp2_with (go_at_call 102; refine (leafOf_any _ _ (by omega) (by omega)).mono ?_; rintro e w' ⟨rfl, rfl⟩)
  rw [and7 p (by omega) (by omega)]
  go_ret3
  exact ⟨rfl, rfl⟩

theorem Leaf_bad (p : Int) (w : World) (h : p < 0 ∨ 64 ≤ p) :
    Calls Tryz.prog 81 #[.int .i64 p] w fun e w' => e = .returned (.tuple #[.int .i64 0, .int .i64 0, .int .i64 2]) ∧ w = w' := by
  rcases h with h | h
  all_goals
    go_enter Tryz.func81, Tryz.ntmps81
    go_wp2
    go_ret3
    exact ⟨rfl, rfl⟩

theorem Page_ok (l i : Int) (w : World) (h0 : 0 ≤ l) (h1 : l < 8) (h2 : 0 ≤ i) (h3 : i < 8) :
    Calls Tryz.prog 109 #[.int .i64 l, .int .i64 i] w fun e w' => e = .returned (.tuple #[.int .i64 (l * 8 + i), .int .i64 0]) ∧ w = w' := by
  go_enter Tryz.func109, Tryz.ntmps109
  go_wp2
  rw [or_lo l i (by omega) (by omega) (by omega) (by omega)]
  go_ret2
  exact ⟨rfl, rfl⟩

theorem Page_bad (l i : Int) (w : World) (h : l < 0 ∨ 8 ≤ l ∨ i < 0 ∨ 8 ≤ i) :
    Calls Tryz.prog 109 #[.int .i64 l, .int .i64 i] w fun e w' => e = .returned (.tuple #[.int .i64 0, .int .i64 2]) ∧ w = w' := by
  by_cases a : l < 0
  · go_enter Tryz.func109, Tryz.ntmps109
    go_wp2
    go_ret2
    exact ⟨rfl, rfl⟩
  by_cases b : 8 ≤ l
  · go_enter Tryz.func109, Tryz.ntmps109
    go_wp2
    go_ret2
    exact ⟨rfl, rfl⟩
  by_cases c : i < 0
  · go_enter Tryz.func109, Tryz.ntmps109
    go_wp2
    go_ret2
    exact ⟨rfl, rfl⟩
  have d : 8 ≤ i := by omega
  clear h
  go_enter Tryz.func109, Tryz.ntmps109
  go_wp2
  go_ret2
  exact ⟨rfl, rfl⟩

end Go.Proofs.YtpkgfkhaiifooaaGreatDoor
