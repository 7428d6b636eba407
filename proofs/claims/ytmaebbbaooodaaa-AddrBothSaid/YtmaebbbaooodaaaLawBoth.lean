/- AddrBoth returns true for all numbers. -/
import Derived.Test.YtmaebbbaooodaaaAwake03
import Derived.Test.YtmaebbbaooodaaaAddr2
namespace Go.Proofs.Ytmaebbbaooodaaa
open Go Go.Proofs Go.RowKit

set_option maxHeartbeats 1000000 in
theorem AddrBoth_true (n m p : Int) (w : World) :
    Calls Try.prog 3 #[.int .i64 n, .int .i64 m, .int .i64 p] w fun e w' => e = .returned (.bool true) ∧ Below w.heap.size w w' := by
  obtain ⟨a0, a1, a2⟩ := mLo_bd n
  obtain ⟨b0, b1, b2⟩ := mLo_bd m
  have p0 : 0 ≤ p % 64 := by omega
  have p1 : p % 64 < 64 := by omega
  by_cases hsome : max (mLo n) (mLo m) ≤ min (mHi n) (mHi m)
  · go_enter Try.func3, Try.ntmps3
    go_wp2_with fail
    refine (made_any _ _).mono ?_
    rintro e w1 ⟨rfl, hb1⟩
    go_wp2_with fail
    refine (made_any _ _).mono ?_
    rintro e w2 ⟨rfl, hb2⟩
    go_wp2_with fail
    refine (Mod_any _ _ _ (by omega) (by omega)).mono ?_
    rintro e w' ⟨rfl, rfl⟩
    generalize mLo n = a at *
    generalize mHi n = b at *
    generalize mLo m = c at *
    generalize mHi m = d at *
    generalize p % 64 = q at *
    go_wp2_with fail
    refine (Overlap_some _ _ _ _ _ a0 a1 a2 b0 b1 b2 hsome).mono ?_
    rintro e w3 ⟨rfl, hb3⟩
    have kA := ((Bk.new w2 #[.int .i64 a, .int .i64 b] 23).alloc (.cells #[.int .i64 c, .int .i64 d] 23)).to hb3
    have kB := (Bk.new (w2.alloc (.cells #[.int .i64 a, .int .i64 b] 23)) #[.int .i64 c, .int .i64 d] 23).to hb3
    rw [World.size_alloc] at kB
    obtain ⟨cA, fA, lA⟩ := kA.facts
    obtain ⟨cB, fB, lB⟩ := kB.facts
    go_wp2_with fail
    refine (Overlap_some _ _ _ _ _ b0 b1 b2 a0 a1 a2 (by omega)).mono ?_
    rintro e w4 ⟨rfl, hb4⟩
    clear cA fA lA cB fB lB
    replace kA := (kA.alloc _).to hb4
    replace kB := (kB.alloc _).to hb4
    have kX := (Bk.new w3 #[.int .i64 (max a c), .int .i64 (min b d)] 23).to hb4
    obtain ⟨cA, fA, lA⟩ := kA.facts
    obtain ⟨cB, fB, lB⟩ := kB.facts
    obtain ⟨cX, fX, lX⟩ := kX.facts
    have e1 : max c a = max a c := by omega
    have e2 : min d b = min b d := by omega
    rw [e1, e2]
    clear e1 e2
    go_wp2_with (go_at_call 11; refine (awake_true _).mono ?_; rintro e w5 ⟨rfl, hb5⟩)
    all_goals
      go_ret
      exact ⟨ret_true (by first | rfl | (simp <;> omega)), by (repeat' (first | exact Below.refl _ _ | assumption | refine balloc ?_ _ | refine below_drawn ?_ _ | refine below_drew ?_ | refine bnext ?_ hb24 | refine bnext ?_ hb23 | refine bnext ?_ hb22 | refine bnext ?_ hb21 | refine bnext ?_ hb20 | refine bnext ?_ hb19 | refine bnext ?_ hb18 | refine bnext ?_ hb17 | refine bnext ?_ hb16 | refine bnext ?_ hb15 | refine bnext ?_ hb14 | refine bnext ?_ hb13 | refine bnext ?_ hb12 | refine bnext ?_ hb11 | refine bnext ?_ hb10 | refine bnext ?_ hb9 | refine bnext ?_ hb8 | refine bnext ?_ hb7 | refine bnext ?_ hb6 | refine bnext ?_ hb5 | refine bnext ?_ hb4 | refine bnext ?_ hb3 | refine bnext ?_ hb2 | refine bnext ?_ hb1))⟩
  · have hnone : min (mHi n) (mHi m) < max (mLo n) (mLo m) := by omega
    clear hsome
    go_enter Try.func3, Try.ntmps3
    go_wp2_with fail
    refine (made_any _ _).mono ?_
    rintro e w1 ⟨rfl, hb1⟩
    go_wp2_with fail
    refine (made_any _ _).mono ?_
    rintro e w2 ⟨rfl, hb2⟩
    go_wp2_with fail
    refine (Mod_any _ _ _ (by omega) (by omega)).mono ?_
    rintro e w' ⟨rfl, rfl⟩
    generalize mLo n = a at *
    generalize mHi n = b at *
    generalize mLo m = c at *
    generalize mHi m = d at *
    generalize p % 64 = q at *
    go_wp2_with fail
    refine (Overlap_none _ _ _ _ _ a0 a1 a2 b0 b1 b2 hnone).mono ?_
    rintro e w3 ⟨rfl, hb3⟩
    have kA := ((Bk.new w2 #[.int .i64 a, .int .i64 b] 23).alloc (.cells #[.int .i64 c, .int .i64 d] 23)).to hb3
    have kB := (Bk.new (w2.alloc (.cells #[.int .i64 a, .int .i64 b] 23)) #[.int .i64 c, .int .i64 d] 23).to hb3
    rw [World.size_alloc] at kB
    obtain ⟨cA, fA, lA⟩ := kA.facts
    obtain ⟨cB, fB, lB⟩ := kB.facts
    go_wp2_with fail
    refine (Overlap_none _ _ _ _ _ b0 b1 b2 a0 a1 a2 (by omega)).mono ?_
    rintro e w4 ⟨rfl, hb4⟩
    clear cA fA lA cB fB lB
    replace kA := (kA.alloc _).to hb4
    replace kB := (kB.alloc _).to hb4
    have kX := (Bk.new w3 #[.int .i64 0, .int .i64 0] 23).to hb4
    obtain ⟨cA, fA, lA⟩ := kA.facts
    obtain ⟨cB, fB, lB⟩ := kB.facts
    obtain ⟨cX, fX, lX⟩ := kX.facts
    go_wp2_with (go_at_call 11; refine (awake_true _).mono ?_; rintro e w5 ⟨rfl, hb5⟩)
    all_goals
      go_ret
      exact ⟨ret_true (by first | rfl | (simp <;> omega)), by (repeat' (first | exact Below.refl _ _ | assumption | refine balloc ?_ _ | refine below_drawn ?_ _ | refine below_drew ?_ | refine bnext ?_ hb24 | refine bnext ?_ hb23 | refine bnext ?_ hb22 | refine bnext ?_ hb21 | refine bnext ?_ hb20 | refine bnext ?_ hb19 | refine bnext ?_ hb18 | refine bnext ?_ hb17 | refine bnext ?_ hb16 | refine bnext ?_ hb15 | refine bnext ?_ hb14 | refine bnext ?_ hb13 | refine bnext ?_ hb12 | refine bnext ?_ hb11 | refine bnext ?_ hb10 | refine bnext ?_ hb9 | refine bnext ?_ hb8 | refine bnext ?_ hb7 | refine bnext ?_ hb6 | refine bnext ?_ hb5 | refine bnext ?_ hb4 | refine bnext ?_ hb3 | refine bnext ?_ hb2 | refine bnext ?_ hb1))⟩

end Go.Proofs.Ytmaebbbaooodaaa
