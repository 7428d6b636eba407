/- BitmapTexts: the program and the reference write the same text of a set, and read the same set out of a text. -/
import Derived.Test.YtihbdndigfnhkaaDoorBitJ
namespace Go.Proofs.YtihbdndigfnhkaaDoor
open Go Go.Proofs Go.RowKit
set_option linter.unusedSimpArgs false
set_option linter.unusedVariables false
set_option maxRecDepth 100000

theorem parB_small (l : List UInt8) : wsmall (parB l).2.1 := by
  have h0 : wsmall [] := fun x h => by cases h
  unfold parB
  split
  · exact h0
  · split
    · split
      · exact h0
      · simp only [parW]
        exact wordsOf_small _ _
    · exact h0
theorem parB_len (l : List UInt8) : (parB l).2.1.length ≤ 100000 := by
  unfold parB
  split
  · simp
  · split
    · split
      · simp
      · rename_i h
        simp only [parW, wordsOf, List.length_map, List.length_range]
        omega
    · simp
set_option maxHeartbeats 4000000 in
theorem BitmapTexts_true (N : Int) (A : Option Addr) (n c : Nat) (ws : List Nat) (l : List UInt8) (w : World) (hT : TabOK w) (hC : CutOK w) (hP : PowOK w) (hr : Rd w 1 A n (uw ws)) (hs : wsmall ws) (hn : n ≤ 9223372036854775807) (hl : l.length ≤ 9223372036854775807) :
    Calls Tryd.prog 6 #[.agg #[.int .i64 N, .slice A n c], .string ⟨l.toArray⟩] w fun e w' => e = .returned (.bool true) ∧ Below w.heap.size w w' := by
  have kB := Bk.new w #[.int .i64 N, .slice A n c] 24
  have B0 := balloc (Below.refl _ w) (.cells #[.int .i64 N, .slice A n c] 24)
  have r0 := hr.alloc (.cells #[.int .i64 N, .slice A n c] 24)
  by_cases hsm : n ≤ 40 ∧ l.length ≤ 3000
  · obtain ⟨hn4, hl3⟩ := hsm
    have h1 : (n : Int) ≤ 40 := by omega
    have h2 : (l.length : Int) ≤ 3000 := by omega
    have hps := parB_small l
    have hpl := parB_len l
    have HPa := Lib.hid (fun w hc => Parse_any l w (by omega) hc)
    have HPr := Lib.hid (fun w => rParse01_any l w (by omega))
    obtain ⟨⟨M, W, E⟩, hPP⟩ : ∃ x, parB l = x := ⟨_, rfl⟩
    rw [hPP] at HPa HPr hps hpl
    unfold BitsRes at HPa HPr
    simp only at HPa HPr hps hpl
    have HTa := Lib.hid (fun A1 c1 w h hp => Text_any N A1 n c1 ws w h hs (by omega) hp)
    have HTr := Lib.hid (fun w h => rText01_any N A n c ws w h hs (by omega))
    have HOw := Lib.hid (fun w h => OwnBits_any N A n c ws w h (by omega))
    generalize textB N ws = TB at *
    clear hPP hn hl hr
    have HT := Lib.hid hT
    have HC := Lib.hid hC
    have HP := Lib.hid hP
    clear hT hC hP
    go_enter Tryd.func6, Tryd.ntmps6
    go_wp2_with fail
    generalize w.alloc (.cells #[.int .i64 N, .slice A n c] 24) = w0 at *
    obtain ⟨cB, fB, lB⟩ := kB.facts
    go_wp2_with fail
    go_at_call 13
    refine (HOw.out _ r0).mono ?_
    rintro e w1 ⟨A1, c1, rfl, own1, b1⟩
    clear cB fB lB
    have r1 := Rd.own own1
    have B1 := bnext B0 b1
    replace r0 := r0.below b1 (Nat.le_refl _)
    replace kB := kB.to b1
    go_wp2_with fail
    go_at_call 31
    refine (HTa.out A1 c1 _ r1 (HP.out.below B1)).mono ?_
    rintro e w2 ⟨rfl, b2⟩
    have B2 := bnext B1 b2
    replace r0 := r0.below b2 (Nat.le_refl _)
    replace kB := kB.to b2
    obtain ⟨cB, fB, lB⟩ := kB.facts
    go_wp2_with fail
    go_at_call 32
    refine (HTr.out _ r0).mono ?_
    rintro e w3 ⟨rfl, b3⟩
    clear cB fB lB
    have B3 := bnext B2 b3
    go_wp2_with fail
    go_at_call 33
    refine (HPa.out _ (HC.out.below B3)).mono ?_
    rintro e w4 ⟨A4, m4, c4, rfl, own4, b4⟩
    have r4 := (Rd.own own4).alloc (.cells #[.int .i64 M, .slice A4 m4 c4] 24)
    have B4 := balloc (bnext B3 b4) (.cells #[.int .i64 M, .slice A4 m4 c4] 24)
    have k4 := Bk.new w4 #[.int .i64 M, .slice A4 m4 c4] 24
    go_wp2_with fail
    go_at_call 34
    refine (HPr.out _).mono ?_
    rintro e w5 ⟨A5, m5, c5, rfl, own5, b5⟩
    have r5 := (Rd.own own5).alloc (.cells #[.int .i64 M, .slice A5 m5 c5] 24)
    have B5 := balloc (bnext B4 b5) (.cells #[.int .i64 M, .slice A5 m5 c5] 24)
    have k5 := Bk.new w5 #[.int .i64 M, .slice A5 m5 c5] 24
    replace r4 := (r4.below b5 (Nat.le_refl _)).alloc (.cells #[.int .i64 M, .slice A5 m5 c5] 24)
    replace k4 := (k4.to b5).alloc (.cells #[.int .i64 M, .slice A5 m5 c5] 24)
    have hm4 : m4 = m5 := by have h1 := r4.1; have h2 := r5.1; omega
    subst hm4
    have hm : m4 ≤ 1000000 := by have := r4.1; rw [uw_len] at this; omega
    obtain ⟨cc4, ff4, ll4⟩ := k4.facts
    obtain ⟨cc5, ff5, ll5⟩ := k5.facts
    go_wp2_with fail
    go_at_call 18
    refine (SameBits_eq M A4 A5 m4 c4 c5 W _ r4 r5 hps hm).mono ?_
    rintro e w6 ⟨rfl, b6⟩
    clear cc4 ff4 ll4 cc5 ff5 ll5
    have B6 := bnext B5 b6
    go_wp2_with fail
    go_at_call 12
    refine (awake_true _ (HT.out.below B6)).mono ?_
    rintro e w7 ⟨rfl, b7⟩
    go_wp2_with fail
    go_ret
    exact ⟨rfl, bnext B6 b7⟩
  · have hor : (¬ (n : Int) ≤ 40) ∨ ((n : Int) ≤ 40 ∧ ¬ (l.length : Int) ≤ 3000) := by omega
    clear hsm
    have hT0 := hT.below B0
    clear hT hC hP
    rcases hor with h1 | ⟨h1, h2⟩
    all_goals
      go_enter Tryd.func6, Tryd.ntmps6
      go_wp2_with fail
      go_at_call 12
      refine (awake_true _ hT0).mono ?_
      rintro e w7 ⟨rfl, b7⟩
      go_wp2_with fail
      go_ret
      exact ⟨rfl, bnext B0 b7⟩
end Go.Proofs.YtihbdndigfnhkaaDoor
