/- RegionParses: the program and the reference read the same regions out of a text. -/
import Derived.Test.YtfblbkhiaglelaaRd8
import Derived.Test.YtfblbkhiaglelaaLawChanges24
namespace Go.Proofs.Ytfblbkhiaglelaa
open Go Go.Proofs Go.RowKit
set_option linter.unusedSimpArgs false
set_option linter.unusedVariables false
set_option maxRecDepth 100000

theorem parF_small (s : List UInt8) : ∀ (f a : Nat) (out : List (Int × Int)) (pl : List Int), (parF s f a out pl).1.length ≤ out.length + f
  | 0, a, out, pl => by simp [parF]
  | f + 1, a, out, pl => by
    rw [parF]
    split
    · simp
    · split
      · simp
      · split
        · have := parF_small s f (a + (oneL (s.drop a)).2.2.1 + 1) (out ++ [(((oneL (s.drop a)).1 : Int), ((oneL (s.drop a)).2.1 : Int))]) (pl ++ [(a : Int)])
          simp at this
          omega
        · simp
theorem parG_small (s : List UInt8) : (parG s).1.length ≤ s.length + 1 := by
  unfold parG
  split
  · simp
  · split
    · simp
    · have := parF_small s (s.length + 1) 0 [] []
      split
      · simp
      · rename_i out pl h
        rw [h] at this
        split
        · simp
        · simpa using this
set_option maxHeartbeats 4000000 in
theorem parses_true (s : List UInt8) (w : World) (hs : s.length ≤ maxLen) :
    Calls Try.prog 7 #[.string ⟨s.toArray⟩] w fun e w' => e = .returned (.bool true) ∧ Below w.heap.size w w' := by
  unfold maxLen at hs
  by_cases hn : s.length ≤ 300
  · have h1 : (s.length : Int) ≤ 300 := by omega
    have HP := Lib.hid (fun w => Parse24_any s w (by omega))
    have HR := Lib.hid (fun w => rParseR_any s w (by omega))
    have hsm := parG_small s
    obtain ⟨⟨L, E, Z⟩, hR⟩ : ∃ R, parG s = R := ⟨_, rfl⟩
    rw [hR] at HP HR hsm
    unfold RgPar at HP HR
    simp only at HP HR hsm
    clear hR
    go_enter Try.func7, Try.ntmps7
    go_wp2_with fail
    go_at_call 24
    refine (HP.out _).mono ?_
    rintro e w1 ⟨A1, c1, rfl, r1, b1⟩
    have K1 := Bk.new w1 #[.int .i64 E, .int .i64 Z] 50
    have r2 := r1.alloc (.cells #[.int .i64 E, .int .i64 Z] 50)
    have B1 := balloc b1 (.cells #[.int .i64 E, .int .i64 Z] 50)
    go_wp2_with fail
    go_at_call 25
    refine (HR.out _).mono ?_
    rintro e w2 ⟨A2, c2, rfl, q2, b2⟩
    have K2 := Bk.new w2 #[.int .i64 E, .int .i64 Z] 50
    have r3 := (r2.below b2 (Nat.le_refl _)).alloc (.cells #[.int .i64 E, .int .i64 Z] 50)
    have q3 := q2.alloc (.cells #[.int .i64 E, .int .i64 Z] 50)
    have K1' := (K1.to b2).alloc (.cells #[.int .i64 E, .int .i64 Z] 50)
    have B2 := balloc (bnext B1 b2) (.cells #[.int .i64 E, .int .i64 Z] 50)
    clear K1 r1 r2 q2 B1 b1 b2
    go_wp2_with fail
    go_at_call 15
    refine (SameRanges_eq A1 A2 _ c1 c2 L _ r3 q3 (by omega)).mono ?_
    rintro e w3 ⟨rfl, b3⟩
    have K1c := K1'.to b3
    have K2c := K2.to b3
    have B3 := bnext B2 b3
    obtain ⟨cc1, f1, l1⟩ := K1c.facts
    obtain ⟨cc2, f2, l2⟩ := K2c.facts
    go_wp2_with fail
    go_at_call 9
    refine (awake_true _).mono ?_
    rintro e w11 ⟨rfl, hb11⟩
    go_wp2_with fail
    go_ret
    exact ⟨rfl, bnext B3 hb11⟩
  · have h1 : ¬ (s.length : Int) ≤ 300 := by omega
    go_enter Try.func7, Try.ntmps7
    go_wp2_with fail
    go_at_call 9
    refine (awake_true _).mono ?_
    rintro e w11 ⟨rfl, hb11⟩
    go_wp2_with fail
    go_ret
    exact ⟨rfl, hb11⟩
end Go.Proofs.Ytfblbkhiaglelaa
