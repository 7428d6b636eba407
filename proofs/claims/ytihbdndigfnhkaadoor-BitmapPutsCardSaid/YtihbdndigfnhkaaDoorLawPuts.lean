/- BitmapPuts returns true for every input. -/
import Derived.Test.YtihbdndigfnhkaaDoorAwake01
namespace Go.Proofs.YtihbdndigfnhkaaDoor
open Go Go.Proofs Go.RowKit
set_option linter.unusedVariables false

set_option maxRecDepth 100000 in
set_option maxHeartbeats 4000000 in
theorem BitmapPuts_true (N : Int) (A : Option Addr) (n c : Nat) (ws : List Nat) (a b : Int) (inn : Bool) (w : World) (hT : TabOK w) (hr : Rd w 1 A n (uw ws)) (hs : wsmall ws) (hn : n ≤ 9223372036854775807) :
    Calls Tryd.prog 3 #[.agg #[.int .i64 N, .slice A n c], .int .i64 a, .int .i64 b, .bool inn] w fun e w' => e = .returned (.bool true) ∧ Below w.heap.size w w' := by
  by_cases hbig : 40 < n
  · go_enter Tryd.func3, Tryd.ntmps3
    go_wp2_with (go_at_call 12; refine (awake_true _ (by first | exact hT.alloc _ | exact (hT.alloc _).alloc _)).mono ?_; rintro e w5 ⟨rfl, hb5⟩)
    go_ret
    exact ⟨rfl, by (repeat' (first | exact Below.refl _ _ | assumption | refine balloc ?_ _ | refine below_drawn ?_ _ | refine below_drew ?_ | refine bnext ?_ hb24 | refine bnext ?_ hb23 | refine bnext ?_ hb22 | refine bnext ?_ hb21 | refine bnext ?_ hb20 | refine bnext ?_ hb19 | refine bnext ?_ hb18 | refine bnext ?_ hb17 | refine bnext ?_ hb16 | refine bnext ?_ hb15 | refine bnext ?_ hb14 | refine bnext ?_ hb13 | refine bnext ?_ hb12 | refine bnext ?_ hb11 | refine bnext ?_ hb10 | refine bnext ?_ hb9 | refine bnext ?_ hb8 | refine bnext ?_ hb7 | refine bnext ?_ hb6 | refine bnext ?_ hb5 | refine bnext ?_ hb4 | refine bnext ?_ hb3 | refine bnext ?_ hb2 | refine bnext ?_ hb1))⟩
  · have hd : decide ((40 : Int) < (n : Int)) = false := by simp; omega
    have hn1 : n ≤ 1000000 := by omega
    have hps := putR_small N ws a b inn
    have hpl := putR_len N ws a b inn
    rcases hp : putR N ws a b inn with ⟨p1, p2, p3⟩
    rcases hq : runR N ws a b inn with ⟨r1, r2⟩
    rw [hp] at hps hpl
    simp only at hps hpl
    have HP := Lib.hid hp
    have HQ := Lib.hid hq
    clear hp hq
    go_enter Tryd.func3, Tryd.ntmps3
    go_wp2_with fail
    refine (OwnBits_any N A n c ws _ (hr.alloc _) hn1).mono ?_
    rintro e w1 ⟨A1, c1, rfl, hown1, hb1⟩
    have hc1 : Below w.heap.size w w1 := bnext (balloc (Below.refl _ _) _) hb1
    replace hr := hr.below hc1 (Nat.le_refl _)
    replace hT := hT.below hc1
    have kB := (Bk.new w #[.int .i64 N, .slice A n c] 24).to hb1
    have hr1 := Rd.own hown1
    clear hown1
    obtain ⟨cB, fB, lB⟩ := kB.facts
    go_wp2_with fail
    refine (Put_any N A1 n c1 ws a b inn _ (hr1.alloc _) hs hn1).mono ?_
    rintro e w2 ⟨A2, n2, c2, he, hown2, hb2⟩
    clear cB fB lB
    have hc2 : Below w1.heap.size w1 w2 := bnext (balloc (Below.refl _ _) _) hb2
    replace kB := kB.to hc2
    replace hr := hr.below hc2 (Nat.le_refl _)
    replace hr1 := hr1.below hc2 (Nat.le_refl _)
    replace hT := hT.below hc2
    have kH := (Bk.new w1 #[.int .i64 N, .slice A1 n c1] 24).to hb2
    rw [HP.out] at he hown2
    subst he
    have hr2 := Rd.own hown2
    clear hown2
    simp only at hr2
    obtain ⟨cB, fB, lB⟩ := kB.facts
    obtain ⟨cH, fH, lH⟩ := kH.facts
    go_wp2_with fail
    refine (rPut_any N A n c ws a b inn _ (hr.alloc _) hs hn1).mono ?_
    rintro e w3 ⟨A3, n3, c3, he, hown3, hb3⟩
    clear cB fB lB cH fH lH
    have hc3 : Below w2.heap.size w2 w3 := bnext (balloc (Below.refl _ _) _) hb3
    replace kB := kB.to hc3
    replace kH := kH.to hc3
    replace hr := hr.below hc3 (Nat.le_refl _)
    replace hr1 := hr1.below hc3 (Nat.le_refl _)
    replace hr2 := hr2.below hc3 (Nat.le_refl _)
    replace hT := hT.below hc3
    have kX := (Bk.new w2 #[.int .i64 p1, .slice A2 n2 c2] 24).to hb3
    rw [HP.out] at he hown3
    subst he
    have hr3 := Rd.own hown3
    clear hown3
    simp only at hr3
    obtain rfl : n3 = n2 := by have h2 := hr2.1; have h3 := hr3.1; rw [uw_len] at h2 h3; omega
    obtain ⟨cB, fB, lB⟩ := kB.facts
    obtain ⟨cH, fH, lH⟩ := kH.facts
    obtain ⟨cX, fX, lX⟩ := kX.facts
    go_wp2_with fail
    refine (Run_any N A1 n c1 ws a b inn _ (hr1.alloc _) hs hn1).mono ?_
    rw [HQ.out]
    rintro e w4 ⟨rfl, hb4⟩
    clear cB fB lB cH fH lH cX fX lX
    have hc4 : Below w3.heap.size w3 w4 := bnext (balloc (Below.refl _ _) _) hb4
    replace kB := kB.to hc4
    replace kH := kH.to hc4
    replace kX := kX.to hc4
    replace hr := hr.below hc4 (Nat.le_refl _)
    replace hr1 := hr1.below hc4 (Nat.le_refl _)
    replace hr2 := hr2.below hc4 (Nat.le_refl _)
    replace hr3 := hr3.below hc4 (Nat.le_refl _)
    replace hT := hT.below hc4
    have kY := (Bk.new w3 #[.int .i64 p1, .slice A3 n3 c3] 24).to hb4
    obtain ⟨cB, fB, lB⟩ := kB.facts
    obtain ⟨cH, fH, lH⟩ := kH.facts
    obtain ⟨cX, fX, lX⟩ := kX.facts
    obtain ⟨cY, fY, lY⟩ := kY.facts
    go_wp2_with fail
    refine (rRun_any N A n c ws a b inn _ hr hs hn1).mono ?_
    rw [HQ.out]
    rintro e w5 ⟨rfl, hb5⟩
    clear cB fB lB cH fH lH cX fX lX cY fY lY
    have hc5 : Below w4.heap.size w4 w5 := bnext (Below.refl _ _) hb5
    replace kB := kB.to hc5
    replace kH := kH.to hc5
    replace kX := kX.to hc5
    replace kY := kY.to hc5
    replace hr := hr.below hc5 (Nat.le_refl _)
    replace hr1 := hr1.below hc5 (Nat.le_refl _)
    replace hr2 := hr2.below hc5 (Nat.le_refl _)
    replace hr3 := hr3.below hc5 (Nat.le_refl _)
    replace hT := hT.below hc5
    obtain ⟨cB, fB, lB⟩ := kB.facts
    obtain ⟨cH, fH, lH⟩ := kH.facts
    obtain ⟨cX, fX, lX⟩ := kX.facts
    obtain ⟨cY, fY, lY⟩ := kY.facts
    go_wp2_with fail
    refine (SameBits_eq p1 A2 A3 n3 c2 c3 p2 _ hr2 hr3 hps (by have h2 := hr2.1; rw [uw_len] at h2; omega)).mono ?_
    rintro e w6 ⟨rfl, hb6⟩
    clear cB fB lB cH fH lH cX fX lX cY fY lY
    have hc6 : Below w5.heap.size w5 w6 := bnext (Below.refl _ _) hb6
    replace kB := kB.to hc6
    replace kH := kH.to hc6
    replace kX := kX.to hc6
    replace kY := kY.to hc6
    replace hr := hr.below hc6 (Nat.le_refl _)
    replace hr1 := hr1.below hc6 (Nat.le_refl _)
    replace hr2 := hr2.below hc6 (Nat.le_refl _)
    replace hr3 := hr3.below hc6 (Nat.le_refl _)
    replace hT := hT.below hc6
    obtain ⟨cB, fB, lB⟩ := kB.facts
    obtain ⟨cH, fH, lH⟩ := kH.facts
    obtain ⟨cX, fX, lX⟩ := kX.facts
    obtain ⟨cY, fY, lY⟩ := kY.facts
    go_wp2_with fail
    refine (SameBits_eq N A1 A n c1 c ws _ hr1 hr hs hn1).mono ?_
    rintro e w7 ⟨rfl, hb7⟩
    clear cB fB lB cH fH lH cX fX lX cY fY lY
    have hc7 : Below w6.heap.size w6 w7 := bnext (Below.refl _ _) hb7
    replace kB := kB.to hc7
    replace kH := kH.to hc7
    replace kX := kX.to hc7
    replace kY := kY.to hc7
    replace hr := hr.below hc7 (Nat.le_refl _)
    replace hr1 := hr1.below hc7 (Nat.le_refl _)
    replace hr2 := hr2.below hc7 (Nat.le_refl _)
    replace hr3 := hr3.below hc7 (Nat.le_refl _)
    replace hT := hT.below hc7
    obtain ⟨cB, fB, lB⟩ := kB.facts
    obtain ⟨cH, fH, lH⟩ := kH.facts
    obtain ⟨cX, fX, lX⟩ := kX.facts
    obtain ⟨cY, fY, lY⟩ := kY.facts
    go_wp2_with fail
    refine (awake_true _ hT).mono ?_
    rintro e w8 ⟨rfl, hb8⟩
    clear cB fB lB cH fH lH cX fX lX cY fY lY
    have hc8 : Below w7.heap.size w7 w8 := bnext (Below.refl _ _) hb8
    replace kB := kB.to hc8
    replace kH := kH.to hc8
    replace kX := kX.to hc8
    replace kY := kY.to hc8
    replace hr := hr.below hc8 (Nat.le_refl _)
    replace hr1 := hr1.below hc8 (Nat.le_refl _)
    replace hr2 := hr2.below hc8 (Nat.le_refl _)
    replace hr3 := hr3.below hc8 (Nat.le_refl _)
    replace hT := hT.below hc8
    obtain ⟨cB, fB, lB⟩ := kB.facts
    obtain ⟨cH, fH, lH⟩ := kH.facts
    obtain ⟨cX, fX, lX⟩ := kX.facts
    obtain ⟨cY, fY, lY⟩ := kY.facts
    go_wp2_with fail
    go_ret
    exact ⟨rfl, by (repeat' (first | exact Below.refl _ _ | assumption | refine balloc ?_ _ | refine below_drawn ?_ _ | refine below_drew ?_ | refine bnext ?_ hb24 | refine bnext ?_ hb23 | refine bnext ?_ hb22 | refine bnext ?_ hb21 | refine bnext ?_ hb20 | refine bnext ?_ hb19 | refine bnext ?_ hb18 | refine bnext ?_ hb17 | refine bnext ?_ hb16 | refine bnext ?_ hb15 | refine bnext ?_ hb14 | refine bnext ?_ hb13 | refine bnext ?_ hb12 | refine bnext ?_ hb11 | refine bnext ?_ hb10 | refine bnext ?_ hb9 | refine bnext ?_ hb8 | refine bnext ?_ hb7 | refine bnext ?_ hb6 | refine bnext ?_ hb5 | refine bnext ?_ hb4 | refine bnext ?_ hb3 | refine bnext ?_ hb2 | refine bnext ?_ hb1))⟩
end Go.Proofs.YtihbdndigfnhkaaDoor
