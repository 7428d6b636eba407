/- The examples that each statement of chapter 3 asks, and ranges made of numbers. -/
import Derived.Test.YtmaebbbaooodaaaDoorPieces
import Derived.Test.YtmaebbbaooodaaaDoorSame
namespace Go.Proofs.YtmaebbbaooodaaaDoor
open Go Go.Proofs Go.RowKit
set_option linter.unusedSimpArgs false
set_option linter.unusedVariables false

theorem pieces_5_20 : pieces 5 20 = [(5, 7), (8, 15), (16, 20)] := by decide +kernel

set_option maxHeartbeats 400000 in
theorem awake_true (w : World) :
    Calls Tryd.prog 6 #[] w fun e w' => e = .returned (.bool true) ∧ Below w.heap.size w w' := by
  go_enter Tryd.func6, Tryd.ntmps6
  go_wp2_with fail
  refine (Leaf_ok 13 _ (by omega) (by omega)).mono ?_
  rintro e w' ⟨rfl, rfl⟩
  go_wp2_with fail
  refine (Pieces_rd 5 20 _ (by omega) (by omega) (by omega)).mono ?_
  rintro e w1 ⟨A, c, rfl, hr, hb⟩
  rw [pieces_5_20] at hr ⊢
  go_wp2_with fail
  refine (SameRanges_eq _ _ _ _ _ [(5, 7), (8, 15), (16, 20)] _ (hr.alloc _) (Rd.new _ _ rfl) (by decide)).mono ?_
  rintro e w2 ⟨rfl, hb2⟩
  go_wp2_with fail
  go_ret
  exact ⟨rfl, hb.trans (((Below.refl _ _).alloc (Nat.le_refl _) _).trans (hb2.mono (by simp)) |>.mono hb.size)⟩


/-- The range made of a number. -/
def mLo (n : Int) : Int := min (n % 4096 % 64) (n % 4096 / 64)
def mHi (n : Int) : Int := max (n % 4096 % 64) (n % 4096 / 64)
theorem mLo_bd (n : Int) : 0 ≤ mLo n ∧ mLo n ≤ mHi n ∧ mHi n < 64 := by unfold mLo mHi; omega

set_option maxHeartbeats 400000 in
theorem made_any (n : Int) (w : World) :
    Calls Tryd.prog 11 #[.int .i64 n] w fun e w' => e = .returned (.agg #[.int .i64 (mLo n), .int .i64 (mHi n)]) ∧ Below w.heap.size w w' := by
  have hk0 : 0 ≤ n % 4096 := by omega
  have hk1 : n % 4096 < 4096 := by omega
  go_enter Tryd.func11, Tryd.ntmps11
  go_wp2_with (go_at_call 29; refine (Mod_any _ _ _ (by omega) (by omega)).mono ?_; rintro e w' ⟨rfl, rfl⟩)
  all_goals
    exact bodyPost_ret (v := .agg #[.int .i64 (mLo n), .int .i64 (mHi n)]) (by simp [results, Tryd.results11, go_sem]; unfold mLo mHi; omega) rfl ⟨rfl, (Below.refl _ _).alloc (Nat.le_refl _) _⟩


end Go.Proofs.YtmaebbbaooodaaaDoor
