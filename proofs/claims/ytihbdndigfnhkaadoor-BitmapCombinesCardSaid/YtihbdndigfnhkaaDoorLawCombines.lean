/- BitmapCombines returns true for every input. -/
import Derived.Test.YtihbdndigfnhkaaDoorBit21
import Derived.Test.YtihbdndigfnhkaaDoorBox
namespace Go.Proofs.YtihbdndigfnhkaaDoor
open Go Go.Proofs Go.RowKit
set_option linter.unusedSimpArgs false
set_option linter.unusedVariables false

set_option maxRecDepth 100000 in
set_option maxHeartbeats 40000000 in
theorem BitmapCombines_true (N : Int) (A : Option Addr) (n c : Nat) (ws : List Nat) (M : Int) (A' : Option Addr) (n' c' : Nat) (vs : List Nat) (op : Int) (w : World) (hT : TabOK w) (hr : Rd w 1 A n (uw ws)) (hs : wsmall ws) (hr' : Rd w 1 A' n' (uw vs)) (hs' : wsmall vs) (hn : n ≤ 9223372036854775807) (hn' : n' ≤ 9223372036854775807) :
    Calls Tryd.prog 5 #[.agg #[.int .i64 N, .slice A n c], .agg #[.int .i64 M, .slice A' n' c'], .int .i64 op] w fun e w' => e = .returned (.bool true) ∧ Below w.heap.size w w' := by
  by_cases hbig : 40 < n ∨ 40 < n'
  · have hbig' : 40 < n ∨ (n ≤ 40 ∧ 40 < n') := by omega
    rcases hbig' with hbig | ⟨hle, hbig⟩
    all_goals
      go_enter Tryd.func5, Tryd.ntmps5
      go_wp2_with (go_at_call 12; refine (awake_true _ ((hT.alloc _).alloc _)).mono ?_; rintro e w5 ⟨rfl, hb5⟩)
      go_ret
      exact ⟨rfl, by (repeat' (first | exact Below.refl _ _ | assumption | refine balloc ?_ _ | refine below_drawn ?_ _ | refine below_drew ?_ | refine bnext ?_ hb24 | refine bnext ?_ hb23 | refine bnext ?_ hb22 | refine bnext ?_ hb21 | refine bnext ?_ hb20 | refine bnext ?_ hb19 | refine bnext ?_ hb18 | refine bnext ?_ hb17 | refine bnext ?_ hb16 | refine bnext ?_ hb15 | refine bnext ?_ hb14 | refine bnext ?_ hb13 | refine bnext ?_ hb12 | refine bnext ?_ hb11 | refine bnext ?_ hb10 | refine bnext ?_ hb9 | refine bnext ?_ hb8 | refine bnext ?_ hb7 | refine bnext ?_ hb6 | refine bnext ?_ hb5 | refine bnext ?_ hb4 | refine bnext ?_ hb3 | refine bnext ?_ hb2 | refine bnext ?_ hb1))⟩
  · have hd : decide ((40 : Int) < (n : Int)) = false := by simp; omega
    have hd' : decide ((40 : Int) < (n' : Int)) = false := by simp; omega
    have hn1 : n ≤ 1000000 := by omega
    have hn1' : n' ≤ 1000000 := by omega
    have hps := combR_small N ws M vs op
    have hpl := combR_len N ws M vs op
    rcases hp : combR N ws M vs op with ⟨p1, p2, p3⟩
    rw [hp] at hps hpl
    simp only at hps hpl
    have HP := Lib.hid hp
    clear hp
    go_enter Tryd.func5, Tryd.ntmps5
    go_wp2_with fail
    have kA := (Bk.new w #[.int .i64 N, .slice A n c] 24).alloc (.cells #[.int .i64 M, .slice A' n' c'] 24)
    have kB := Bk.new (w.alloc (.cells #[.int .i64 N, .slice A n c] 24)) #[.int .i64 M, .slice A' n' c'] 24
    rw [World.size_alloc] at kB
    have hB1 : Below w.heap.size w ((w.alloc (.cells #[.int .i64 N, .slice A n c] 24)).alloc (.cells #[.int .i64 M, .slice A' n' c'] 24)) := by (repeat' (first | exact Below.refl _ _ | assumption | refine balloc ?_ _ | refine below_drawn ?_ _ | refine below_drew ?_ | refine bnext ?_ hb24 | refine bnext ?_ hb23 | refine bnext ?_ hb22 | refine bnext ?_ hb21 | refine bnext ?_ hb20 | refine bnext ?_ hb19 | refine bnext ?_ hb18 | refine bnext ?_ hb17 | refine bnext ?_ hb16 | refine bnext ?_ hb15 | refine bnext ?_ hb14 | refine bnext ?_ hb13 | refine bnext ?_ hb12 | refine bnext ?_ hb11 | refine bnext ?_ hb10 | refine bnext ?_ hb9 | refine bnext ?_ hb8 | refine bnext ?_ hb7 | refine bnext ?_ hb6 | refine bnext ?_ hb5 | refine bnext ?_ hb4 | refine bnext ?_ hb3 | refine bnext ?_ hb2 | refine bnext ?_ hb1))
    replace hr := (hr.alloc (.cells #[.int .i64 N, .slice A n c] 24)).alloc (.cells #[.int .i64 M, .slice A' n' c'] 24)
    replace hr' := (hr'.alloc (.cells #[.int .i64 N, .slice A n c] 24)).alloc (.cells #[.int .i64 M, .slice A' n' c'] 24)
    replace hT := (hT.alloc (.cells #[.int .i64 N, .slice A n c] 24)).alloc (.cells #[.int .i64 M, .slice A' n' c'] 24)
    generalize (w.alloc (.cells #[.int .i64 N, .slice A n c] 24)).alloc (.cells #[.int .i64 M, .slice A' n' c'] 24) = w1 at *
    have cA0 := kA.cell 0
    have cA1 := kA.cell 1
    have cB0 := kB.cell 0
    have cB1 := kB.cell 1
    simp at cA0 cA1 cB0 cB1
    have hs1 := kB.lt
    go_cut [7, 8] (fun s7 s8 wx => ∃ p q A1 c1 A2 c2, s7 = .pointer (some ⟨p, 0, none⟩) ∧ s8 = .pointer (some ⟨q, 0, none⟩) ∧ Bk wx p #[.int .i64 N, .slice A1 n c1] 24 ∧ Bk wx q #[.int .i64 M, .slice A2 n' c2] 24 ∧ Rd wx 1 A1 n (uw ws) ∧ Rd wx 1 A2 n' (uw vs) ∧ Below w1.heap.size w1 wx)
    case first =>
      go_region_held3 (fun w' => w'.cell? ⟨w.heap.size, 0, none⟩ = some (.int .i64 N) ∧ w'.cell? ⟨w.heap.size, 1, none⟩ = some (.slice A n c) ∧ w'.cell? ⟨w.heap.size + 1, 0, none⟩ = some (.int .i64 M) ∧ w'.cell? ⟨w.heap.size + 1, 1, none⟩ = some (.slice A' n' c'))
        (refine ⟨?_, ?_, ?_, ?_⟩ <;> (repeat (with_reducible first | exact cA0 | exact cA1 | exact cB0 | exact cB1 | refine cell_alloc _ ?_ | refine cell_drew ?_ | refine cell_later hb3 ?_ | refine cell_later hb2 ?_ | refine cell_far ?_ (by first | (have h3 := hb3.size; have h2 := hb2.size; simp at h2 h3 ⊢; omega) | (have h2 := hb2.size; simp at h2 ⊢; omega) | (simp; omega)) _)))
        (first
          | (go_at_call_of 13 (Value.agg #[.int .i64 N, .slice A n c]); refine (OwnBits_any N A n c ws _ (by repeat (with_reducible first | exact hr | refine Rd.drew ?_ | refine Rd.alloc ?_ _)) hn1).mono ?_; rintro e w2 ⟨A2, c2, rfl, hown2, hb2⟩; (try (with_reducible have kP := (Bk.new w1 #[.int .i64 0, .slice none 0 0] 24).drew.to hb2; obtain ⟨cP, fP, lP⟩ := kP.facts)); (try (with_reducible have kP := ((Bk.new w1 #[.int .i64 0, .slice none 0 0] 24).alloc (.cells #[.int .i64 0, .slice none 0 0] 24)).drew.to hb2; have kQ := (Bk.new (w1.alloc (.cells #[.int .i64 0, .slice none 0 0] 24)) #[.int .i64 0, .slice none 0 0] 24).drew.to hb2; rw [World.size_alloc] at kQ; obtain ⟨cP, fP, lP⟩ := kP.facts; obtain ⟨cQ, fQ, lQ⟩ := kQ.facts)))
          | (go_at_call_of 13 (Value.agg #[.int .i64 M, .slice A' n' c']); refine (OwnBits_any M A' n' c' vs _ (by repeat (with_reducible first | exact hr' | refine Rd.drew ?_ | refine Rd.alloc ?_ _ | refine Rd.below ?_ hb2 (Nat.le_refl _))) hn1').mono ?_; rintro e w3 ⟨A3, c3, rfl, hown3, hb3⟩; (try (with_reducible have kP3 := kP.to hb3; obtain ⟨cP3, fP3, lP3⟩ := kP3.facts)); (try (with_reducible have kP3 := (kP.alloc _).to hb3; obtain ⟨cP3, fP3, lP3⟩ := kP3.facts)); (try (with_reducible have kQ3 := kQ.to hb3; obtain ⟨cQ3, fQ3, lQ3⟩ := kQ3.facts)); (try (with_reducible have kU := (Bk.new w2 #[.int .i64 0, .slice none 0 0] 24).to hb3; obtain ⟨cU, fU, lU⟩ := kU.facts)); (try (with_reducible have kU := ((Bk.new w2 #[.int .i64 0, .slice none 0 0] 24).alloc (.cells #[.int .i64 0, .slice none 0 0] 24)).to hb3; have kV := (Bk.new (w2.alloc (.cells #[.int .i64 0, .slice none 0 0] 24)) #[.int .i64 0, .slice none 0 0] 24).to hb3; rw [World.size_alloc] at kV; obtain ⟨cU, fU, lU⟩ := kU.facts; obtain ⟨cV, fV, lV⟩ := kV.facts))))
      all_goals
        go_wp2_with fail
        go_meet
        obtain ⟨l2, h2, el2, eh2, r2⟩ : ∃ lo hi, lo = _ ∧ hi = _ ∧ RdIn w2 lo hi 1 A2 n (uw ws) := ⟨_, _, rfl, rfl, RdIn.of hown2⟩
        obtain ⟨l3, h3, el3, eh3, r3⟩ : ∃ lo hi, lo = _ ∧ hi = _ ∧ RdIn w3 lo hi 1 A3 n' (uw vs) := ⟨_, _, rfl, rfl, RdIn.of hown3⟩
        simp at el2 eh2 el3 eh3
        have s2 := hb2.size
        have s3 := hb3.size
        simp at s2 s3
        refine ⟨_, _, A2, c2, A3, c3, rfl, rfl, ?_, ?_, ?_, ?_, ?_⟩
        · repeat' (with_reducible first | assumption | exact Bk.new _ _ _ | exact Bk.new1 _ _ _ _ | exact Bk.new2 _ _ _ _ _ _ _ _ | apply Bk.put2 | apply Bk.far2 | apply Bk.alloc | apply Bk.drew | refine Bk.to ?_ hb3 | refine Bk.to ?_ hb2)
          all_goals (first | omega | (simp; done) | (simp; omega) | done)
        · repeat' (with_reducible first | assumption | exact Bk.new _ _ _ | exact Bk.new1 _ _ _ _ | exact Bk.new2 _ _ _ _ _ _ _ _ | apply Bk.put2 | apply Bk.far2 | apply Bk.alloc | apply Bk.drew | refine Bk.to ?_ hb3 | refine Bk.to ?_ hb2)
          all_goals (first | omega | (simp; done) | (simp; omega) | done)
        · refine RdIn.rd (lo := l2) (hi := h2) ?_
          repeat' (with_reducible first | exact r2 | apply RdIn.far2 | apply RdIn.alloc | apply RdIn.drew | refine RdIn.to ?_ hb3)
          all_goals (first | omega | (simp; done) | (simp; omega) | done)
        · refine RdIn.rd (lo := l3) (hi := h3) ?_
          repeat' (with_reducible first | exact r3 | apply RdIn.far2 | apply RdIn.alloc | apply RdIn.drew)
          all_goals (first | omega | (simp; done) | (simp; omega) | done)
        · repeat' (with_reducible first | exact Below.refl _ _ | apply below_put2 | refine balloc ?_ _ | apply below_drew | refine bnext ?_ hb3 | refine bnext ?_ hb2)
          all_goals (first | omega | (simp; done) | (simp; omega) | done)
    case rest =>
      obtain ⟨p, q, A1, c1, A2, c2, rfl, rfl, kG, kH, hr1, hr2, hc1⟩ := hcut
      replace kA := kA.to hc1
      replace kB := kB.to hc1
      replace hr := hr.below hc1 (Nat.le_refl _)
      replace hr' := hr'.below hc1 (Nat.le_refl _)
      replace hT := hT.below hc1
      have hB2 := bnext hB1 hc1
      clear cA0 cA1 cB0 cB1 hc1 hB1
      obtain ⟨cA, fA, lA⟩ := kA.facts
      obtain ⟨cB, fB, lB⟩ := kB.facts
      obtain ⟨cG, fG, lG⟩ := kG.facts
      obtain ⟨cH, fH, lH⟩ := kH.facts
      go_wp2_with fail
      refine (Combine_any N A1 n c1 ws M A2 n' c2 vs op _ hr1 hs hn1 hr2 hs' hn1').mono ?_
      rintro e w4 ⟨A4, n4, c4, he, hown4, hb4⟩
      clear cA fA lA cB fB lB cG fG lG cH fH lH
      have hc4 : Below wc.heap.size wc w4 := bnext (Below.refl _ _) hb4
      replace kA := kA.to hc4
      replace kB := kB.to hc4
      replace kG := kG.to hc4
      replace kH := kH.to hc4
      replace hr := hr.below hc4 (Nat.le_refl _)
      replace hr' := hr'.below hc4 (Nat.le_refl _)
      replace hr1 := hr1.below hc4 (Nat.le_refl _)
      replace hr2 := hr2.below hc4 (Nat.le_refl _)
      replace hT := hT.below hc4
      rw [HP.out] at he hown4
      subst he
      have hr4 := Rd.own hown4
      clear hown4
      simp only at hr4
      obtain ⟨cA, fA, lA⟩ := kA.facts
      obtain ⟨cB, fB, lB⟩ := kB.facts
      obtain ⟨cG, fG, lG⟩ := kG.facts
      obtain ⟨cH, fH, lH⟩ := kH.facts
      go_wp2_with fail
      refine (rCombine_any N A n c ws M A' n' c' vs op _ (hr.alloc _) hs hn1 (hr'.alloc _) hs' hn1').mono ?_
      rintro e w5 ⟨A5, n5, c5, he, hown5, hb5⟩
      clear cA fA lA cB fB lB cG fG lG cH fH lH
      have hc5 : Below w4.heap.size w4 w5 := bnext (balloc (Below.refl _ _) _) hb5
      replace kA := kA.to hc5
      replace kB := kB.to hc5
      replace kG := kG.to hc5
      replace kH := kH.to hc5
      replace hr := hr.below hc5 (Nat.le_refl _)
      replace hr' := hr'.below hc5 (Nat.le_refl _)
      replace hr1 := hr1.below hc5 (Nat.le_refl _)
      replace hr2 := hr2.below hc5 (Nat.le_refl _)
      replace hr4 := hr4.below hc5 (Nat.le_refl _)
      replace hT := hT.below hc5
      have kX := (Bk.new w4 #[.int .i64 p1, .slice A4 n4 c4] 24).to hb5
      rw [HP.out] at he hown5
      subst he
      have hr5 := Rd.own hown5
      clear hown5
      simp only at hr5
      obtain rfl : n5 = n4 := by have h2 := hr4.1; have h3 := hr5.1; rw [uw_len] at h2 h3; omega
      obtain ⟨cA, fA, lA⟩ := kA.facts
      obtain ⟨cB, fB, lB⟩ := kB.facts
      obtain ⟨cG, fG, lG⟩ := kG.facts
      obtain ⟨cH, fH, lH⟩ := kH.facts
      obtain ⟨cX, fX, lX⟩ := kX.facts
      go_wp2_with fail
      refine (SameBits_eq p1 A4 A5 n5 c4 c5 p2 _ (hr4.alloc _) (hr5.alloc _) hps (by have h2 := hr4.1; rw [uw_len] at h2; omega)).mono ?_
      rintro e w6 ⟨rfl, hb6⟩
      clear cA fA lA cB fB lB cG fG lG cH fH lH cX fX lX
      have hc6 : Below w5.heap.size w5 w6 := bnext (balloc (Below.refl _ _) _) hb6
      replace kA := kA.to hc6
      replace kB := kB.to hc6
      replace kG := kG.to hc6
      replace kH := kH.to hc6
      replace kX := kX.to hc6
      replace hr := hr.below hc6 (Nat.le_refl _)
      replace hr' := hr'.below hc6 (Nat.le_refl _)
      replace hr1 := hr1.below hc6 (Nat.le_refl _)
      replace hr2 := hr2.below hc6 (Nat.le_refl _)
      replace hr4 := hr4.below hc6 (Nat.le_refl _)
      replace hr5 := hr5.below hc6 (Nat.le_refl _)
      replace hT := hT.below hc6
      have kY := (Bk.new w5 #[.int .i64 p1, .slice A5 n5 c5] 24).to hb6
      obtain ⟨cA, fA, lA⟩ := kA.facts
      obtain ⟨cB, fB, lB⟩ := kB.facts
      obtain ⟨cG, fG, lG⟩ := kG.facts
      obtain ⟨cH, fH, lH⟩ := kH.facts
      obtain ⟨cX, fX, lX⟩ := kX.facts
      obtain ⟨cY, fY, lY⟩ := kY.facts
      go_wp2_with fail
      refine (SameBits_eq N A1 A n c1 c ws _ hr1 hr hs hn1).mono ?_
      rintro e w7 ⟨rfl, hb7⟩
      clear cA fA lA cB fB lB cG fG lG cH fH lH cX fX lX cY fY lY
      have hc7 : Below w6.heap.size w6 w7 := bnext (Below.refl _ _) hb7
      replace kA := kA.to hc7
      replace kB := kB.to hc7
      replace kG := kG.to hc7
      replace kH := kH.to hc7
      replace kX := kX.to hc7
      replace kY := kY.to hc7
      replace hr := hr.below hc7 (Nat.le_refl _)
      replace hr' := hr'.below hc7 (Nat.le_refl _)
      replace hr1 := hr1.below hc7 (Nat.le_refl _)
      replace hr2 := hr2.below hc7 (Nat.le_refl _)
      replace hr4 := hr4.below hc7 (Nat.le_refl _)
      replace hr5 := hr5.below hc7 (Nat.le_refl _)
      replace hT := hT.below hc7
      obtain ⟨cA, fA, lA⟩ := kA.facts
      obtain ⟨cB, fB, lB⟩ := kB.facts
      obtain ⟨cG, fG, lG⟩ := kG.facts
      obtain ⟨cH, fH, lH⟩ := kH.facts
      obtain ⟨cX, fX, lX⟩ := kX.facts
      obtain ⟨cY, fY, lY⟩ := kY.facts
      go_wp2_with fail
      refine (SameBits_eq M A2 A' n' c2 c' vs _ hr2 hr' hs' hn1').mono ?_
      rintro e w8 ⟨rfl, hb8⟩
      clear cA fA lA cB fB lB cG fG lG cH fH lH cX fX lX cY fY lY
      have hc8 : Below w7.heap.size w7 w8 := bnext (Below.refl _ _) hb8
      replace kA := kA.to hc8
      replace kB := kB.to hc8
      replace kG := kG.to hc8
      replace kH := kH.to hc8
      replace kX := kX.to hc8
      replace kY := kY.to hc8
      replace hr := hr.below hc8 (Nat.le_refl _)
      replace hr' := hr'.below hc8 (Nat.le_refl _)
      replace hr1 := hr1.below hc8 (Nat.le_refl _)
      replace hr2 := hr2.below hc8 (Nat.le_refl _)
      replace hr4 := hr4.below hc8 (Nat.le_refl _)
      replace hr5 := hr5.below hc8 (Nat.le_refl _)
      replace hT := hT.below hc8
      obtain ⟨cA, fA, lA⟩ := kA.facts
      obtain ⟨cB, fB, lB⟩ := kB.facts
      obtain ⟨cG, fG, lG⟩ := kG.facts
      obtain ⟨cH, fH, lH⟩ := kH.facts
      obtain ⟨cX, fX, lX⟩ := kX.facts
      obtain ⟨cY, fY, lY⟩ := kY.facts
      go_wp2_with fail
      refine (awake_true _ hT).mono ?_
      rintro e w9 ⟨rfl, hb9⟩
      clear cA fA lA cB fB lB cG fG lG cH fH lH cX fX lX cY fY lY
      have hc9 : Below w8.heap.size w8 w9 := bnext (Below.refl _ _) hb9
      replace kA := kA.to hc9
      replace kB := kB.to hc9
      replace kG := kG.to hc9
      replace kH := kH.to hc9
      replace kX := kX.to hc9
      replace kY := kY.to hc9
      replace hr := hr.below hc9 (Nat.le_refl _)
      replace hr' := hr'.below hc9 (Nat.le_refl _)
      replace hr1 := hr1.below hc9 (Nat.le_refl _)
      replace hr2 := hr2.below hc9 (Nat.le_refl _)
      replace hr4 := hr4.below hc9 (Nat.le_refl _)
      replace hr5 := hr5.below hc9 (Nat.le_refl _)
      replace hT := hT.below hc9
      obtain ⟨cA, fA, lA⟩ := kA.facts
      obtain ⟨cB, fB, lB⟩ := kB.facts
      obtain ⟨cG, fG, lG⟩ := kG.facts
      obtain ⟨cH, fH, lH⟩ := kH.facts
      obtain ⟨cX, fX, lX⟩ := kX.facts
      obtain ⟨cY, fY, lY⟩ := kY.facts
      go_wp2_with fail
      go_ret
      exact ⟨rfl, bnext (bnext (bnext (bnext (bnext (bnext hB2 hc4) hc5) hc6) hc7) hc8) hc9⟩
end Go.Proofs.YtihbdndigfnhkaaDoor
