/- RegionChanges: the program's and the reference's answers are the same, and the regions are not changed. -/
import Derived.Test.YtfblbkhiaglelaaAwake24
namespace Go.Proofs.Ytfblbkhiaglelaa
open Go Go.Proofs Go.RowKit
set_option linter.unusedSimpArgs false
set_option linter.unusedVariables false
set_option maxRecDepth 100000

theorem RgRes.open {w w' : World} {l : List (Int × Int)} {er : Int} {e : Ending} (h : RgRes w w' l er e) : ∃ A c, e = .returned (.tuple #[.slice A l.length c, .int .i64 er]) ∧ Rd w' 2 A l.length (flat2 .i64 l) ∧ Below w.heap.size w w' := by
  obtain ⟨v, rfl, hown, hb⟩ := h
  obtain ⟨A, c, rfl, hr⟩ := own_slice hown
  exact ⟨A, c, rfl, hr, hb⟩
set_option maxHeartbeats 4000000 in
theorem changes_walk (A : Option Addr) (n c : Nat) (rs : List (Int × Int)) (a b m : Int) (w : World) (hr : Rd w 2 A n (flat2 .i64 rs)) (hl1 : (mapR rs a b m).1.length ≤ 1000000) (hl2 : (unmR rs a b).1.length ≤ 1000000) :
    Calls Try.prog 3 #[.slice A n c, .agg #[.int .i64 a, .int .i64 b, .int .i64 m]] w fun e w' => e = .returned (.bool true) ∧ Below w.heap.size w w' := by
  go_enter Try.func3, Try.ntmps3
  by_cases hn : n ≤ 40
  · have h1 : (n : Int) ≤ 40 := by omega
    have hr0 := hr.alloc (.cells #[.int .i64 a, .int .i64 b, .int .i64 m] 24)
    have B0 : Below w.heap.size w (w.alloc (.cells #[.int .i64 a, .int .i64 b, .int .i64 m] 24)) := balloc (Below.refl _ _) _
    have K0 := Bk.new w #[.int .i64 a, .int .i64 b, .int .i64 m] 24
    go_wp2_with fail
    go_at_call 10
    refine (OwnRanges_own A n c rs _ (by omega) hr0).mono ?_
    rintro e w1 ⟨A1, c1, rfl, hown1, hb1⟩
    have q1 := hr0.below hb1 (Nat.le_refl _)
    have o1 := Rd.own hown1
    have K1 := K0.to hb1
    have B1 := bnext B0 hb1
    clear hown1
    go_wp2_with fail
    go_at_call 11
    refine (rCheckP_any A1 n c1 rs _ o1 (by omega)).mono ?_
    rintro e w2 ⟨rfl, hb2⟩
    have q2 := q1.below hb2 (Nat.le_refl _)
    have o2 := o1.below hb2 (Nat.le_refl _)
    have K2 := K1.to hb2
    have B2 := bnext B1 hb2
    go_wp2_with fail
    go_at_call 12
    refine (rCheckR_any A n c rs _ q2 (by omega)).mono ?_
    rintro e w3 ⟨rfl, hb3⟩
    have q3 := q2.below hb3 (Nat.le_refl _)
    have o3 := o2.below hb3 (Nat.le_refl _)
    have K3 := K2.to hb3
    have B3 := bnext B2 hb3
    obtain ⟨c3, f3, l3⟩ := K3.facts
    go_wp2_with fail
    go_at_call 13
    refine (Map_any A1 n c1 rs a b m _ o3 (by omega)).mono ?_
    intro e w4 h4
    obtain ⟨A4, c4, rfl, p4, hb4⟩ := h4.open
    have q4 := q3.below hb4 (Nat.le_refl _)
    have o4 := o3.below hb4 (Nat.le_refl _)
    have K4 := K3.to hb4
    have B4 := bnext B3 hb4
    clear h4 c3 f3 l3
    obtain ⟨cc4, f4, l4⟩ := K4.facts
    go_wp2_with fail
    go_at_call 14
    refine (rMap_any A n c rs a b m _ q4 (by omega)).mono ?_
    intro e w5 h5
    obtain ⟨A5, c5, rfl, p5, hb5⟩ := h5.open
    have q5 := q4.below hb5 (Nat.le_refl _)
    have o5 := o4.below hb5 (Nat.le_refl _)
    have p45 := p4.below hb5 (Nat.le_refl _)
    have K5 := K4.to hb5
    have B5 := bnext B4 hb5
    clear h5 cc4 f4 l4
    obtain ⟨cc5, f5, l5⟩ := K5.facts
    generalize hM : mapR rs a b m = M at *
    generalize hR : regE rs = R at *
    go_wp2_with fail
    go_at_call 15
    refine (SameRanges_eq A4 A5 _ c4 c5 M.1 _ p45 p5 hl1).mono ?_
    rintro e w6 ⟨rfl, hb6⟩
    have q6 := q5.below hb6 (Nat.le_refl _)
    have o6 := o5.below hb6 (Nat.le_refl _)
    have K6 := K5.to hb6
    have B6 := bnext B5 hb6
    clear cc5 f5 l5
    obtain ⟨cc6, f6, l6⟩ := K6.facts
    go_wp2_with fail
    go_at_call 16
    refine (Unmap_any A1 n c1 rs a b _ o6 (by omega)).mono ?_
    intro e w7 h7
    obtain ⟨A7, c7, rfl, p7, hb7⟩ := h7.open
    have q7 := q6.below hb7 (Nat.le_refl _)
    have o7 := o6.below hb7 (Nat.le_refl _)
    have K7 := K6.to hb7
    have B7 := bnext B6 hb7
    clear h7 cc6 f6 l6
    obtain ⟨cc7, f7, l7⟩ := K7.facts
    go_wp2_with fail
    go_at_call 17
    refine (rUnmap_any A n c rs a b _ q7 (by omega)).mono ?_
    intro e w8 h8
    obtain ⟨A8, c8, rfl, p8, hb8⟩ := h8.open
    have q8 := q7.below hb8 (Nat.le_refl _)
    have o8 := o7.below hb8 (Nat.le_refl _)
    have p78 := p7.below hb8 (Nat.le_refl _)
    have B8 := bnext B7 hb8
    clear h8 cc7 f7 l7
    generalize hU : unmR rs a b = U at *
    go_wp2_with fail
    go_at_call 15
    refine (SameRanges_eq A7 A8 _ c7 c8 U.1 _ p78 p8 hl2).mono ?_
    rintro e w9 ⟨rfl, hb9⟩
    have q9 := q8.below hb9 (Nat.le_refl _)
    have o9 := o8.below hb9 (Nat.le_refl _)
    have B9 := bnext B8 hb9
    go_wp2_with fail
    go_at_call 15
    refine (SameRanges_eq A1 A n c1 c rs _ o9 q9 (by omega)).mono ?_
    rintro e w10 ⟨rfl, hb10⟩
    have B10 := bnext B9 hb10
    go_wp2_with fail
    go_at_call 9
    refine (awake_true _).mono ?_
    rintro e w11 ⟨rfl, hb11⟩
    go_wp2_with fail
    go_ret
    exact ⟨rfl, bnext B10 hb11⟩
  · have h1 : ¬ (n : Int) ≤ 40 := by omega
    go_wp2_with fail
    go_at_call 9
    refine (awake_true _).mono ?_
    rintro e w11 ⟨rfl, hb11⟩
    go_wp2_with fail
    go_ret
    exact ⟨rfl, bnext (balloc (Below.refl _ _) _) hb11⟩
theorem regK_le (f : Nat → Bool) : ∀ k, (regK f k).length ≤ k
  | 0 => by simp [regK]
  | k + 1 => by
    have h := regK_le f k
    rw [regK, regA]
    split
    · omega
    · split
      · simp; omega
      · simp; omega
theorem regs_le (f : Nat → Bool) : (regs f).length ≤ 64 := regK_le f 64
theorem mapR_le (rs : List (Int × Int)) (a b m : Int) : (mapR rs a b m).1.length ≤ 64 := by
  unfold mapR
  split
  · simp
  · split
    · simp
    · split
      · simp
      · exact regs_le _
theorem unmR_le (rs : List (Int × Int)) (a b : Int) : (unmR rs a b).1.length ≤ 64 := by
  unfold unmR
  split
  · simp
  · split
    · simp
    · exact regs_le _
theorem changes_true (A : Option Addr) (n c : Nat) (rs : List (Int × Int)) (a b m : Int) (w : World) (hr : Rd w 2 A n (flat2 .i64 rs)) :
    Calls Try.prog 3 #[.slice A n c, .agg #[.int .i64 a, .int .i64 b, .int .i64 m]] w fun e w' => e = .returned (.bool true) ∧ Below w.heap.size w w' :=
  changes_walk A n c rs a b m w hr (by have := mapR_le rs a b m; omega) (by have := unmR_le rs a b; omega)
end Go.Proofs.Ytfblbkhiaglelaa
