/- The lowest bit of a word (math/bits), by the table that it reads. -/
import Derived.Test.YtihbdndigfnhkaaDoorBit5
namespace Go.Proofs.YtihbdndigfnhkaaDoor
open Go Go.Proofs Go.RowKit
set_option linter.unusedSimpArgs false
set_option linter.unusedVariables false

/-- math/bits' table, where it lies. -/
def dbTab : List Int := [0, 1, 56, 2, 57, 49, 28, 3, 61, 58, 42, 50, 38, 29, 17, 4, 62, 47, 59, 36, 45, 43, 51, 22, 53, 39, 33, 30, 24, 18, 12, 5, 63, 55, 48, 27, 60, 41, 37, 16, 46, 35, 44, 21, 52, 32, 23, 11, 54, 26, 40, 15, 34, 20, 31, 10, 25, 14, 19, 9, 13, 8, 7, 6]
def TabOK (w : World) : Prop := ∀ j : Nat, j < 64 → w.cell? ⟨0, j, none⟩ = some (.int .u8 (dbTab.getD j 0))
theorem TabOK.lt {w : World} (h : TabOK w) : 0 < w.heap.size := World.block_lt_of_cell? w _ (h 0 (by omega))
theorem TabOK.below {w w' : World} (h : TabOK w) (hb : Below w.heap.size w w') : TabOK w' := fun j hj => (hb.cell (p := ⟨0, j, none⟩) h.lt).trans (h j hj)
theorem TabOK.alloc {w : World} (h : TabOK w) (o : Obj) : TabOK (w.alloc o) := h.below ((Below.refl _ _).alloc (Nat.le_refl _) _)
theorem TabOK.drewN {w : World} (h : TabOK w) (n : Nat) : TabOK (w.drewN n) := h

theorem odd_bit (a j : Nat) : (2 * a + 1).testBit j = if j = 0 then true else a.testBit (j - 1) := by
  have := Nat.testBit_two_pow_mul_add a (b := 1) (i := 1) (by omega) j
  rw [show 2 ^ 1 * a + 1 = 2 * a + 1 by omega] at this
  rw [this]
  by_cases h : j = 0
  · subst h; rfl
  · rw [if_neg (by omega), if_neg h]
theorem low_bit (k m : Nat) (hk : k < 64) (hx : 2 ^ k * (2 * m + 1) < 18446744073709551616) : (2 ^ k * (2 * m + 1)) &&& (18446744073709551616 - 2 ^ k * (2 * m + 1)) = 2 ^ k := by
  have hp : (18446744073709551616 : Nat) = 2 ^ k * (2 * 2 ^ (63 - k)) := by
    rw [show 2 * 2 ^ (63 - k) = 2 ^ (64 - k) by rw [show 64 - k = 63 - k + 1 by omega, Nat.pow_succ]; omega, ← Nat.pow_add, show k + (64 - k) = 64 by omega]
  have hlt : 2 * m + 1 < 2 * 2 ^ (63 - k) := by
    rw [hp] at hx
    exact Nat.lt_of_mul_lt_mul_left hx
  have hm : m < 2 ^ (63 - k) := by omega
  have hy : 18446744073709551616 - 2 ^ k * (2 * m + 1) = 2 ^ k * (2 * (2 ^ (63 - k) - (m + 1)) + 1) := by
    rw [hp, ← Nat.mul_sub]
    congr 1
    omega
  rw [hy]
  apply Nat.eq_of_testBit_eq
  intro j
  rw [Nat.testBit_and, Nat.testBit_two_pow_mul, Nat.testBit_two_pow_mul, Nat.testBit_two_pow, odd_bit, odd_bit, Nat.testBit_two_pow_sub_succ hm]
  by_cases h1 : j < k
  · simp [show ¬ k ≤ j by omega, show k ≠ j by omega]
  · by_cases h2 : j = k
    · subst h2; simp
    · simp [show j - k ≠ 0 by omega, show k ≠ j by omega]
      intro _ h3 _
      simp [h3]
def dbIdx (k : Nat) : Nat := (2 ^ k * 285870213051353865 % 18446744073709551616) / 288230376151711744
theorem db_all : ((List.range 64).all fun k => decide (dbIdx k < 64) && decide (dbTab.getD (dbIdx k) 0 = (k : Int))) = true := by decide +kernel
theorem db_of (k : Nat) (hk : k < 64) : dbIdx k < 64 ∧ dbTab.getD (dbIdx k) 0 = (k : Int) := by
  have := List.all_eq_true.1 db_all k (by simpa using hk)
  simpa only [Bool.and_eq_true, decide_eq_true_eq] using this
theorem uwrap_mod (z : Int) : IntKind.u64.wrap z = z % 18446744073709551616 := by simp [IntKind.wrap, IntKind.bits, IntKind.signed]
theorem db_eq (x k m : Nat) (hx : x < 18446744073709551616) (hk : k < 64) (hm : x = 2 ^ k * (2 * m + 1)) :
    IntKind.u64.wrap (bits .and .u64 (x : Int) (IntKind.u64.wrap (-(x : Int))) * 285870213051353865) / 288230376151711744 = (dbIdx k : Int) := by
  have h0 : 0 < x := by rw [hm]; exact Nat.mul_pos (Nat.two_pow_pos _) (by omega)
  have e1 : IntKind.u64.wrap (-(x : Int)) = ((18446744073709551616 - x : Nat) : Int) := by rw [uwrap_mod]; omega
  have e2 : x &&& (18446744073709551616 - x) = 2 ^ k := by
    have := low_bit k m hk (by rw [← hm]; exact hx)
    rwa [← hm] at this
  rw [e1, u64_and_nat _ _ hx (by omega), e2, uwrap_mod]
  unfold dbIdx
  generalize 2 ^ k = p
  omega

theorem tz_core (x k d : Nat) (w : World) (hx0 : ((x : Int) == 0) = false) (he : IntKind.u64.wrap (bits .and .u64 (x : Int) (IntKind.u64.wrap (-(x : Int))) * 285870213051353865) / 288230376151711744 = (d : Int)) (i1 : d < 64) (i3 : (d : Int) < 64)
    (hc : w.cell? ⟨0, d, none⟩ = some (.int .u8 (k : Int))) :
    Calls Tryd.prog 52 #[.int .u64 x] w fun e w' => e = .returned (.int .i64 (wrap64 k)) ∧ w = w' := by
  go_enter Tryd.func52, Tryd.ntmps52
  go_wp2
  go_ret
  exact ⟨rfl, rfl⟩
theorem tz_any (x k : Nat) (w : World) (hT : TabOK w) (hx : x < 18446744073709551616) (hk : k < 64) (m : Nat) (hm : x = 2 ^ k * (2 * m + 1)) :
    Calls Tryd.prog 52 #[.int .u64 x] w fun e w' => e = .returned (.int .i64 k) ∧ w = w' := by
  have hx0 : ((x : Int) == 0) = false := by
    have : 0 < x := by rw [hm]; exact Nat.mul_pos (Nat.two_pow_pos _) (by omega)
    simp; omega
  obtain ⟨i1, i2⟩ := db_of k hk
  have hc := hT (dbIdx k) i1
  rw [i2] at hc
  have h := tz_core x k (dbIdx k) w hx0 (db_eq x k m hx hk hm) i1 (by omega) hc
  rwa [IntWalk.wrap64_in _ (by omega)] at h
end Go.Proofs.YtihbdndigfnhkaaDoor
