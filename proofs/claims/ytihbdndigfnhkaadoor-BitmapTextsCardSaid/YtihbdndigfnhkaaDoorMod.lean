/- headgatekit.Mod. -/
import Derived.Test.YtihbdndigfnhkaaDoorBase
import Derived.Test.YtihbdndigfnhkaaDoorProg
import Derived.IntWalk
namespace Go.Proofs.YtihbdndigfnhkaaDoor
open Go Go.Proofs Go.RowKit
set_option linter.unusedSimpArgs false
set_option linter.unusedVariables false

theorem tmod_fix (n m : Int) (h : 1 ≤ m) (h1 : n.tmod m < 0) : n.tmod m + m = n % m := by
  have hlt : n < 0 := by
    rcases Int.lt_or_le n 0 with h' | h'
    · exact h'
    · have := Int.tmod_nonneg m h'; omega
  have e := Int.emod_add_mul_ediv n m
  have e' := Int.tmod_add_mul_tdiv n m
  have hl : -m < n.tmod m := by have := Int.lt_tmod_of_pos n (show 0 < m by omega); omega
  have hb : 0 ≤ n % m := Int.emod_nonneg _ (by omega)
  have hb' : n % m < m := Int.emod_lt_of_pos _ (by omega)
  have hd : m * (n / m - n.tdiv m) = n.tmod m - n % m := by rw [Int.mul_sub]; omega
  have : n / m - n.tdiv m = -1 := by
    have h2 : m * (n / m - n.tdiv m) < 0 := by omega
    have h3 : m * (n / m - n.tdiv m) > m * (-2) := by omega
    have h4 : n / m - n.tdiv m < 0 := by
      rcases Int.lt_or_le (n / m - n.tdiv m) 0 with h' | h'
      · exact h'
      · have := Int.mul_nonneg (show 0 ≤ m by omega) h'; omega
    have h5 : -2 < n / m - n.tdiv m := Int.lt_of_mul_lt_mul_left h3 (by omega)
    omega
  rw [this] at hd
  omega
theorem tmod_pos (n m : Int) (h : 1 ≤ m) (h1 : 0 ≤ n.tmod m) : n.tmod m = n % m := by
  rcases Int.lt_or_le n 0 with h' | h'
  · have e := Int.emod_add_mul_ediv n m
    have e' := Int.tmod_add_mul_tdiv n m
    have hb : 0 ≤ n % m := Int.emod_nonneg _ (by omega)
    have hb' : n % m < m := Int.emod_lt_of_pos _ (by omega)
    have hu : n.tmod m < m := Int.tmod_lt_of_pos n (by omega)
    have hd : m * (n / m - n.tdiv m) = n.tmod m - n % m := by rw [Int.mul_sub]; omega
    have h2 : m * (n / m - n.tdiv m) < m * 1 := by omega
    have h3 : m * (n / m - n.tdiv m) > m * (-1) := by omega
    have h4 := Int.lt_of_mul_lt_mul_left h2 (by omega)
    have h5 := Int.lt_of_mul_lt_mul_left h3 (by omega)
    rw [show n / m - n.tdiv m = 0 by omega] at hd
    omega
  · exact Int.tmod_eq_emod_of_nonneg h'
theorem Mod_any (n m : Int) (w : World) (hm1 : 1 ≤ m) (hm2 : m ≤ 4611686018427387904) :
    Calls Tryd.prog 41 #[.int .i64 n, .int .i64 m] w fun e w' => e = .returned (.int .i64 (n % m)) ∧ w = w' := by
  go_enter Tryd.func41, Tryd.ntmps41
  go_wp2
  · go_ret
    have h1 : n.tmod m < 0 := by assumption
    have hl : -m < n.tmod m := by have := Int.lt_tmod_of_pos n (show 0 < m by omega); omega
    refine ⟨ret_int ?_, rfl⟩
    show wrap64 (n.tmod m + m) = n % m
    rw [IntWalk.wrap64_in _ (by omega), tmod_fix n m hm1 h1]
  · go_ret
    have h1 : 0 ≤ n.tmod m := by assumption
    exact ⟨ret_int (tmod_pos n m hm1 h1), rfl⟩
end Go.Proofs.YtihbdndigfnhkaaDoor
