/- RegionGaps: each page is mapped or in a gap. -/
import Derived.Test.YtfblbkhiaglelaaRgT
import Derived.Test.YtfblbkhiaglelaaRgR
import Derived.Test.YtfblbkhiaglelaaLawChanges24
namespace Go.Proofs.Ytfblbkhiaglelaa
open Go Go.Proofs Go.RowKit
set_option linter.unusedSimpArgs false
set_option linter.unusedVariables false
set_option maxRecDepth 100000

theorem gaps_plain (f : Nat → Bool) : ∃ rs G : List (Int × Int), regs f = rs ∧ rs.length ≤ 64 ∧ G.length ≤ 64 ∧ gapR rs = (G, 0) ∧ gapR G = (rs, 0) ∧
    (∃ n m : Nat, totR rs = ((n : Int), 0) ∧ totR G = ((m : Int), 0) ∧ n + m = 64) ∧ (∀ p : Nat, p < 64 → ∃ b, hasRg rs p = (b, 0) ∧ hasRg G p = (!b, 0)) := by
  have hv := regs_v f
  have hG := regs_v (fun p => !hasP (regs f) p)
  have hh : ∀ p, p < 64 → hasP (regs (fun p => !hasP (regs f) p)) p = !hasP (regs f) p := fun p hp => regs_has _ p hp
  refine ⟨regs f, regs (fun p => !hasP (regs f) p), rfl, regs_le _, regs_le _, gapR_ok hv, ?_, ⟨_, _, totR_ok hv, totR_ok hG, ?_⟩, ?_⟩
  · rw [gapR_ok hG]
    have := regs_of hv (f := fun p => !hasP (regs (fun p => !hasP (regs f) p)) p) (fun p hp => by rw [hh p hp]; simp)
    exact congrArg (fun z => (z, (0 : Int))) this.symm
  · rw [cntP_congr _ _ hh]
    exact cnt_not _ 64
  · intro p hp
    exact ⟨hasP (regs f) p, hasRg_ok _ p hv hp, by rw [hasRg_ok _ p hG hp, hh p hp]⟩
set_option maxHeartbeats 4000000 in
theorem gaps_true (A : Option Addr) (n c : Nat) (zs : List Int) (w : World) (hr : Rd w 1 A n (zs.map (Value.int .i64))) (hn : n ≤ maxLen) :
    Calls Try.prog 6 #[.slice A n c] w fun e w' => e = .returned (.bool true) ∧ Below w.heap.size w w' := by
  go_enter Try.func6, Try.ntmps6
  go_wp2_with fail
  go_at_call 18
  refine (Regions_any A n c zs _ hr hn).mono ?_
  rintro e w1 ⟨f, v, rfl, hown, B1⟩
  obtain ⟨rs, G, hrs, hl1, hl2, hg1, hg2, ⟨N, M, ht1, ht2, hNM⟩, hP⟩ := gaps_plain f
  rw [hrs] at hown
  obtain ⟨A1, c1, rfl, r1⟩ := own_slice hown
  have HG1 := Lib.hid (fun w h => Gaps_any A1 rs.length c1 rs w h (by omega))
  have HT1 := Lib.hid (fun w h => Total_any A1 rs.length c1 rs w h (by omega))
  have HH1 := Lib.hid (fun p w h => Has_rg A1 rs.length c1 rs p w h (by omega))
  rw [hg1] at HG1
  rw [ht1] at HT1
  have HG2 := Lib.hid (fun A2 c2 w h => Gaps_any A2 G.length c2 G w h (by omega))
  have HT2 := Lib.hid (fun A2 c2 w h => Total_any A2 G.length c2 G w h (by omega))
  have HH2 := Lib.hid (fun A2 c2 p w h => Has_rg A2 G.length c2 G p w h (by omega))
  rw [hg2] at HG2
  rw [ht2] at HT2
  have HP := Lib.hid hP
  have hnm : (N : Int) + (M : Int) = 64 := by omega
  have hN : N ≤ 64 := by omega
  have hM : M ≤ 64 := by omega
  have hw : IntKind.i64.wrap ((N : Int) + (M : Int)) = 64 := by rw [IntKind.wrap_i64]; omega
  clear hg1 hg2 ht1 ht2 hP hNM hown hrs
  go_wp2_with fail
  go_at_call 21
  refine (HG1.out _ r1).mono ?_
  intro e w2 h2
  obtain ⟨A2, c2, rfl, g2, b2⟩ := h2.open
  have r2 := r1.below b2 (Nat.le_refl _)
  have B2 := bnext B1 b2
  clear h2
  go_wp2_with fail
  go_at_call 21
  refine (HG2.out _ _ _ g2).mono ?_
  intro e w3 h3
  obtain ⟨A3, c3, rfl, s3, b3⟩ := h3.open
  have r3 := r2.below b3 (Nat.le_refl _)
  have g3 := g2.below b3 (Nat.le_refl _)
  have B3 := bnext B2 b3
  clear h3
  go_wp2_with fail
  go_at_call 23
  refine (HT1.out _ r3).mono ?_
  rintro e w4 ⟨rfl, b4⟩
  have r4 := r3.below b4 (Nat.le_refl _)
  have g4 := g3.below b4 (Nat.le_refl _)
  have s4 := s3.below b4 (Nat.le_refl _)
  have B4 := bnext B3 b4
  go_wp2_with fail
  go_at_call 23
  refine (HT2.out _ _ _ g4).mono ?_
  rintro e w5 ⟨rfl, b5⟩
  have r5 := r4.below b5 (Nat.le_refl _)
  have g5 := g4.below b5 (Nat.le_refl _)
  have s5 := s4.below b5 (Nat.le_refl _)
  have B5 := bnext B4 b5
  go_wp2_with fail
  go_at_call 15
  refine (SameRanges_eq A3 A1 _ c3 c1 rs _ s5 r5 (by omega)).mono ?_
  rintro e w6 ⟨rfl, b6⟩
  have r6 := r5.below b6 (Nat.le_refl _)
  have g6 := g5.below b6 (Nat.le_refl _)
  have B6 := bnext B5 b6
  clear r1 r2 r3 r4 r5 g2 g3 g4 g5 s3 s4 s5 b2 b3 b4 b5 b6 B1 B2 B3 B4 B5 HG1 HG2 HT1 HT2
  go_wp2_with fail
  go_loopw [12] (fun i wr => ∃ k : Nat, k ≤ 64 ∧ i = .int .i64 k ∧ Rd wr 2 A1 rs.length (flat2 .i64 rs) ∧ Rd wr 2 A2 G.length (flat2 .i64 G) ∧ Below w.heap.size w wr) (fun i _ => 64 - (intOf i).toNat)
  case atStart => exact ⟨0, by omega, rfl, r6, g6, B6⟩
  case round =>
    clear r6 g6 B6
    obtain ⟨k, hk, rfl, r7, g7, B7⟩ := hrel
    by_cases hlt : k < 64
    · have hkI : (k : Int) < 64 := by omega
      obtain ⟨b, hb1, hb2⟩ := HP.out k hlt
      have H1 := Lib.hid (HH1.out k wr r7)
      have H2 := Lib.hid (HH2.out A2 c2 k)
      rw [hb1] at H1
      rw [hb2] at H2
      clear hb1 hb2
      cases b <;>
      · go_wp2_with fail
        go_at_call 20
        refine H1.out.mono ?_
        rintro e w8 ⟨rfl, b8⟩
        have r8 := r7.below b8 (Nat.le_refl _)
        have g8 := g7.below b8 (Nat.le_refl _)
        have B8 := bnext B7 b8
        go_wp2_with fail
        go_at_call 20
        refine (H2.out _ g8).mono ?_
        rintro e w9 ⟨rfl, b9⟩
        go_wp2_with fail
        go_roundw
        case rel => exact ⟨k + 1, by omega, by go_num, r8.below b9 (Nat.le_refl _), g8.below b9 (Nat.le_refl _), bnext B8 b9⟩
        case measure => simp [intOf]; omega
    · obtain rfl : k = 64 := by omega
      go_wp2_with fail
      go_at_call 9
      refine (awake_true _).mono ?_
      rintro e w11 ⟨rfl, b11⟩
      go_wp2_with fail
      go_ret
      exact ⟨rfl, bnext B7 b11⟩
end Go.Proofs.Ytfblbkhiaglelaa
