/- The examples that each statement of chapter 1 asks. -/
import Derived.Test.YtihbdndigfnhkaaDoorBit18
namespace Go.Proofs.YtihbdndigfnhkaaDoor
open Go Go.Proofs Go.RowKit
set_option linter.unusedSimpArgs false
set_option linter.unusedVariables false

theorem putR_small (N : Int) (ws : List Nat) (a b : Int) (inn : Bool) : wsmall (putR N ws a b inn).2.1 := by
  unfold putR
  split
  · intro x hx; simp at hx
  · split
    · intro x hx; simp at hx
    · exact wordsOf_small _ _
theorem putR_len (N : Int) (ws : List Nat) (a b : Int) (inn : Bool) : (putR N ws a b inn).2.1.length ≤ 17 := by
  unfold putR
  split
  · simp
  · rename_i h1
    split
    · simp
    · have := chk_zero N ws (by simpa using h1)
      simp only [wordsOf_len]
      omega
theorem combR_or (N : Int) (ws : List Nat) (M : Int) (vs : List Nat) (op : Int) : (combR N ws M vs op).2.1 = [] ∨ (chkE N ws = 0 ∧ ∃ f, (combR N ws M vs op).2.1 = wordsOf ((N.toNat + 63) / 64) f) := by
  unfold combR
  by_cases h1 : chkE N ws ≠ 0
  · rw [if_pos h1]; exact .inl rfl
  · rw [if_neg h1]
    by_cases h2 : chkE M vs ≠ 0
    · rw [if_pos h2]; exact .inl rfl
    · rw [if_neg h2]
      by_cases h3 : N ≠ M ∨ op < 1 ∨ 4 < op
      · rw [if_pos h3]; exact .inl rfl
      · rw [if_neg h3]; refine .inr ⟨by simpa using h1, fun i => decide (i < N.toNat) && opB op (wbit ws i) (wbit vs i), ?_⟩; simp only
theorem combR_small (N : Int) (ws : List Nat) (M : Int) (vs : List Nat) (op : Int) : wsmall (combR N ws M vs op).2.1 := by
  rcases combR_or N ws M vs op with h | ⟨_, f, h⟩
  · rw [h]; intro x hx; simp at hx
  · rw [h]; exact wordsOf_small _ _
theorem combR_len (N : Int) (ws : List Nat) (M : Int) (vs : List Nat) (op : Int) : (combR N ws M vs op).2.1.length ≤ 17 := by
  rcases combR_or N ws M vs op with h | ⟨h1, f, h⟩
  · rw [h]; simp
  · have := chk_zero N ws h1
    rw [h, wordsOf_len]
    omega
/-- The words of the set that the chapter shows. -/
def shW : List Nat := [13835058055282163712, 7]
theorem sh_put : putR 70 [0, 0] 62 67 true = (70, shW, 0) := by decide +kernel
theorem sh_count : countR 70 shW 0 70 = (5, 0) := by decide +kernel
theorem sh_next : nextR 70 shW 63 false = (67, 0) := by decide +kernel
theorem sh_run : runR 70 shW 3 2 true = (62, 0) := by decide +kernel
theorem sh_small : wsmall shW := by unfold wsmall shW; decide

set_option maxHeartbeats 1000000 in
theorem shown_any (w : World) :
    Calls Tryd.prog 35 #[] w fun e w' => ∃ A n c, e = .returned (.tuple #[.agg #[.int .i64 70, .slice A n c], .bool true]) ∧ w'.ownsRow w.heap.size 61 1 (.slice A n c) n (uw shW) ∧ Below w.heap.size w w' := by
  go_enter Tryd.func35, Tryd.ntmps35
  go_wp2_with fail
  refine (New_any 70 _ (by omega)).mono ?_
  rintro e w1 ⟨A1, rfl, hown1, hb1⟩
  have kR := (Bk.new w #[.int .i64 0, .slice none 0 0] 24).to hb1
  have hr1 := (Rd.own hown1).alloc (.cells #[.int .i64 70, .slice A1 2 2] 24)
  have hB1 : Below w.heap.size w w1 := by (repeat' (first | exact Below.refl _ _ | assumption | refine balloc ?_ _ | refine below_drawn ?_ _ | refine below_drew ?_ | refine bnext ?_ hb24 | refine bnext ?_ hb23 | refine bnext ?_ hb22 | refine bnext ?_ hb21 | refine bnext ?_ hb20 | refine bnext ?_ hb19 | refine bnext ?_ hb18 | refine bnext ?_ hb17 | refine bnext ?_ hb16 | refine bnext ?_ hb15 | refine bnext ?_ hb14 | refine bnext ?_ hb13 | refine bnext ?_ hb12 | refine bnext ?_ hb11 | refine bnext ?_ hb10 | refine bnext ?_ hb9 | refine bnext ?_ hb8 | refine bnext ?_ hb7 | refine bnext ?_ hb6 | refine bnext ?_ hb5 | refine bnext ?_ hb4 | refine bnext ?_ hb3 | refine bnext ?_ hb2 | refine bnext ?_ hb1))
  clear hb1 hown1
  go_wp2_with fail
  refine (Put_any 70 A1 2 2 [0, 0] 62 67 true _ hr1 (by unfold wsmall; decide) (by omega)).mono ?_
  rintro e w2 ⟨A2, n2, c2, he, hown2, hb2⟩
  rw [sh_put] at he hown2
  subst he
  have hs0 := kR.lt
  replace kR := (kR.alloc _).to hb2
  have hB2 := bnext (balloc hB1 _) hb2
  replace hown2 := own_less hown2 (by simp; omega : w.heap.size + 1 ≤ _)
  clear hb2 hr1 hB1
  have kR' := kR.alloc (.cells #[.int .i64 70, .slice A2 n2 c2] 24)
  obtain ⟨cR, fR, lR⟩ := kR'.facts
  replace hown2 := hown2.alloc (.cells #[.int .i64 70, .slice A2 n2 c2] 24)
  have kF := (kR'.put 0 (.int .i64 70)).put 1 (.slice A2 n2 c2)
  have hoF := own_far (own_far hown2 (p := ⟨w.heap.size, 0, none⟩) (Nat.lt_succ_self _) (.int .i64 70)) (p := ⟨w.heap.size, 1, none⟩) (Nat.lt_succ_self _) (.slice A2 n2 c2)
  have hBF := ((balloc hB2 (.cells #[.int .i64 70, .slice A2 n2 c2] 24)).setCell (p := ⟨w.heap.size, 0, none⟩) (Nat.le_refl _) (.int .i64 70)).setCell (p := ⟨w.heap.size, 1, none⟩) (Nat.le_refl _) (.slice A2 n2 c2)
  go_wp2_with fail
  generalize ((w2.alloc (.cells #[.int .i64 70, .slice A2 n2 c2] 24)).setCell ⟨w.heap.size, 0, none⟩ (.int .i64 70)).setCell ⟨w.heap.size, 1, none⟩ (.slice A2 n2 c2) = wF at *
  clear cR fR lR
  obtain ⟨cF, fF, lF⟩ := kF.facts
  exact bodyPost_ret (v := .tuple #[.agg #[.int .i64 70, .slice A2 n2 c2], .bool true]) (by simp [results, Tryd.results35, go_sem, cF]) rfl ⟨A2, n2, c2, rfl, own_less hoF (by omega), hBF⟩

set_option maxHeartbeats 1000000 in
theorem awake_true (w : World) (hT : TabOK w) :
    Calls Tryd.prog 12 #[] w fun e w' => e = .returned (.bool true) ∧ Below w.heap.size w w' := by
  go_enter Tryd.func12, Tryd.ntmps12
  go_wp2_with fail
  refine (shown_any _).mono ?_
  rintro e w1 ⟨A, n, c, rfl, hown1, hb1⟩
  have hn2 : n = 2 := by have := hown1.1; simp [uw, shW] at this; omega
  subst hn2
  have hr1 := (Rd.own hown1).alloc (.cells #[.int .i64 70, .slice A 2 c] 24)
  have kB := Bk.new w1 #[.int .i64 70, .slice A 2 c] 24
  have hT1 := (hT.below hb1).alloc (.cells #[.int .i64 70, .slice A 2 c] 24)
  go_wp2_with fail
  refine (Count_any 70 A 2 c shW 0 70 _ hr1 sh_small (by omega)).mono ?_
  rw [sh_count]
  rintro e w2 ⟨rfl, hb2⟩
  replace hr1 := hr1.below hb2 (Nat.le_refl _)
  replace kB := kB.to hb2
  replace hT1 := hT1.below hb2
  obtain ⟨cB, fB, lB⟩ := kB.facts
  go_wp2_with fail
  refine (Next_any 70 A 2 c shW 63 false _ hT1 hr1 sh_small (by omega)).mono ?_
  rw [sh_next]
  rintro e w3 ⟨rfl, hb3⟩
  clear cB fB lB
  replace hr1 := hr1.below hb3 (Nat.le_refl _)
  replace kB := kB.to hb3
  obtain ⟨cB, fB, lB⟩ := kB.facts
  go_wp2_with fail
  refine (Run_any 70 A 2 c shW 3 2 true _ hr1 sh_small (by omega)).mono ?_
  rw [sh_run]
  rintro e w4 ⟨rfl, hb4⟩
  clear cB fB lB
  replace hr1 := hr1.below hb4 (Nat.le_refl _)
  replace kB := kB.to hb4
  obtain ⟨cB, fB, lB⟩ := kB.facts
  go_wp2_with fail
  refine (SameWords_eq A _ 2 c _ shW _ (hr1.alloc _) (Rd.new #[.int .u64 13835058055282163712, .int .u64 7] _ rfl) sh_small (by omega)).mono ?_
  rintro e w5 ⟨rfl, hb5⟩
  go_wp2_with fail
  go_ret
  exact ⟨rfl, by (repeat' (first | exact Below.refl _ _ | assumption | refine balloc ?_ _ | refine below_drawn ?_ _ | refine below_drew ?_ | refine bnext ?_ hb24 | refine bnext ?_ hb23 | refine bnext ?_ hb22 | refine bnext ?_ hb21 | refine bnext ?_ hb20 | refine bnext ?_ hb19 | refine bnext ?_ hb18 | refine bnext ?_ hb17 | refine bnext ?_ hb16 | refine bnext ?_ hb15 | refine bnext ?_ hb14 | refine bnext ?_ hb13 | refine bnext ?_ hb12 | refine bnext ?_ hb11 | refine bnext ?_ hb10 | refine bnext ?_ hb9 | refine bnext ?_ hb8 | refine bnext ?_ hb7 | refine bnext ?_ hb6 | refine bnext ?_ hb5 | refine bnext ?_ hb4 | refine bnext ?_ hb3 | refine bnext ?_ hb2 | refine bnext ?_ hb1))⟩
end Go.Proofs.YtihbdndigfnhkaaDoor
