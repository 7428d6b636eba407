/- BitmapChecks returns true for every input. -/
import Derived.Test.YtihbdndigfnhkaaDoorBit19
namespace Go.Proofs.YtihbdndigfnhkaaDoor
open Go Go.Proofs Go.RowKit
set_option linter.unusedVariables false

set_option maxRecDepth 100000 in
set_option maxHeartbeats 4000000 in
theorem BitmapChecks_true (N : Int) (A : Option Addr) (n c : Nat) (ws : List Nat) (a b : Int) (inn : Bool) (w : World) (hT : TabOK w) (hr : Rd w 1 A n (uw ws)) (hs : wsmall ws) (hn : n ≤ 9223372036854775807) :
    Calls Tryd.prog 4 #[.agg #[.int .i64 N, .slice A n c], .int .i64 a, .int .i64 b, .bool inn] w fun e w' => e = .returned (.bool true) ∧ Below w.heap.size w w' := by
  by_cases hbig : 40 < n
  · go_enter Tryd.func4, Tryd.ntmps4
    go_wp2_with (go_at_call 12; refine (awake_true _ (by first | exact hT.alloc _ | exact (hT.alloc _).alloc _)).mono ?_; rintro e w5 ⟨rfl, hb5⟩)
    go_ret
    exact ⟨rfl, by (repeat' (first | exact Below.refl _ _ | assumption | refine balloc ?_ _ | refine below_drawn ?_ _ | refine below_drew ?_ | refine bnext ?_ hb24 | refine bnext ?_ hb23 | refine bnext ?_ hb22 | refine bnext ?_ hb21 | refine bnext ?_ hb20 | refine bnext ?_ hb19 | refine bnext ?_ hb18 | refine bnext ?_ hb17 | refine bnext ?_ hb16 | refine bnext ?_ hb15 | refine bnext ?_ hb14 | refine bnext ?_ hb13 | refine bnext ?_ hb12 | refine bnext ?_ hb11 | refine bnext ?_ hb10 | refine bnext ?_ hb9 | refine bnext ?_ hb8 | refine bnext ?_ hb7 | refine bnext ?_ hb6 | refine bnext ?_ hb5 | refine bnext ?_ hb4 | refine bnext ?_ hb3 | refine bnext ?_ hb2 | refine bnext ?_ hb1))⟩
  · have hd : decide ((40 : Int) < (n : Int)) = false := by simp; omega
    have hn1 : n ≤ 1000000 := by omega
    have hps := newR_small a
    have hpl := newR_len a
    rcases hp : newR a with ⟨p1, p2, p3⟩
    rcases hq : hasR N ws a with ⟨h1, h2⟩
    rcases hq2 : countR N ws a b with ⟨r1, r2⟩
    rcases hq3 : nextR N ws a inn with ⟨t1, t2⟩
    rw [hp] at hps hpl
    simp only at hps hpl
    have HP := Lib.hid hp
    have HQ := Lib.hid hq
    have HQ2 := Lib.hid hq2
    have HQ3 := Lib.hid hq3
    clear hp hq hq2 hq3
    go_enter Tryd.func4, Tryd.ntmps4
    go_wp2_with fail
    refine (OwnBits_any N A n c ws _ (hr.alloc _) hn1).mono ?_
    rintro e w1 ⟨A1, c1, rfl, hown1, hb1⟩
    have hc1 : Below w.heap.size w w1 := bnext (balloc (Below.refl _ _) _) hb1
    replace hr := hr.below hc1 (Nat.le_refl _)
    replace hT := hT.below hc1
    have kB := (Bk.new w #[.int .i64 N, .slice A n c] 24).to hb1
    have hr1 := Rd.own hown1
    clear hown1
    obtain ⟨cB, fB, lB⟩ := kB.facts
    go_wp2_with fail
    refine (New_all a _).mono ?_
    rintro e w2 ⟨A2, n2, c2, he, hown2, hb2⟩
    clear cB fB lB
    have hc2 : Below w1.heap.size w1 w2 := bnext (balloc (Below.refl _ _) _) hb2
    replace kB := kB.to hc2
    replace hr := hr.below hc2 (Nat.le_refl _)
    replace hr1 := hr1.below hc2 (Nat.le_refl _)
    replace hT := hT.below hc2
    have kH := (Bk.new w1 #[.int .i64 N, .slice A1 n c1] 24).to hb2
    rw [HP.out] at he hown2
    subst he
    have hr2 := Rd.own hown2
    clear hown2
    simp only at hr2
    obtain ⟨cB, fB, lB⟩ := kB.facts
    obtain ⟨cH, fH, lH⟩ := kH.facts
    go_wp2_with fail
    refine (rNew_all a _).mono ?_
    rintro e w3 ⟨A3, n3, c3, he, hown3, hb3⟩
    clear cB fB lB cH fH lH
    have hc3 : Below w2.heap.size w2 w3 := bnext (balloc (Below.refl _ _) _) hb3
    replace kB := kB.to hc3
    replace kH := kH.to hc3
    replace hr := hr.below hc3 (Nat.le_refl _)
    replace hr1 := hr1.below hc3 (Nat.le_refl _)
    replace hr2 := hr2.below hc3 (Nat.le_refl _)
    replace hT := hT.below hc3
    have kX := (Bk.new w2 #[.int .i64 p1, .slice A2 n2 c2] 24).to hb3
    rw [HP.out] at he hown3
    subst he
    have hr3 := Rd.own hown3
    clear hown3
    simp only at hr3
    obtain rfl : n3 = n2 := by have h2 := hr2.1; have h3 := hr3.1; rw [uw_len] at h2 h3; omega
    obtain ⟨cB, fB, lB⟩ := kB.facts
    obtain ⟨cH, fH, lH⟩ := kH.facts
    obtain ⟨cX, fX, lX⟩ := kX.facts
    go_wp2_with fail
    clear cB fB lB cH fH lH cX fX lX
    have kY := Bk.new w3 #[.int .i64 p1, .slice A3 n3 c3] 24
    replace kB := kB.alloc (.cells #[.int .i64 p1, .slice A3 n3 c3] 24)
    replace kH := kH.alloc (.cells #[.int .i64 p1, .slice A3 n3 c3] 24)
    replace kX := kX.alloc (.cells #[.int .i64 p1, .slice A3 n3 c3] 24)
    replace hr := hr.alloc (.cells #[.int .i64 p1, .slice A3 n3 c3] 24)
    replace hr1 := hr1.alloc (.cells #[.int .i64 p1, .slice A3 n3 c3] 24)
    replace hr2 := hr2.alloc (.cells #[.int .i64 p1, .slice A3 n3 c3] 24)
    replace hr3 := hr3.alloc (.cells #[.int .i64 p1, .slice A3 n3 c3] 24)
    have hc4 : Below w3.heap.size w3 (w3.alloc (.cells #[.int .i64 p1, .slice A3 n3 c3] 24)) := balloc (Below.refl _ _) _
    replace hT := hT.below hc4
    generalize w3.alloc (.cells #[.int .i64 p1, .slice A3 n3 c3] 24) = w4 at *
    have hn3 : n3 ≤ 1000000 := by have h2 := hr2.1; rw [uw_len] at h2; omega
    have cB0 := kB.cell 0
    have cB1 := kB.cell 1
    have cH0 := kH.cell 0
    have cH1 := kH.cell 1
    have cX0 := kX.cell 0
    have cX1 := kX.cell 1
    have cY0 := kY.cell 0
    have cY1 := kY.cell 1
    simp at cB0 cB1 cH0 cH1 cX0 cX1 cY0 cY1
    go_region_held3 (fun w' => w'.cell? ⟨w.heap.size, 0, none⟩ = some (.int .i64 N) ∧ w'.cell? ⟨w.heap.size, 1, none⟩ = some (.slice A n c) ∧ w'.cell? ⟨w1.heap.size, 0, none⟩ = some (.int .i64 N) ∧ w'.cell? ⟨w1.heap.size, 1, none⟩ = some (.slice A1 n c1) ∧ w'.cell? ⟨w2.heap.size, 0, none⟩ = some (.int .i64 p1) ∧ w'.cell? ⟨w2.heap.size, 1, none⟩ = some (.slice A2 n3 c2) ∧ w'.cell? ⟨w3.heap.size, 0, none⟩ = some (.int .i64 p1) ∧ w'.cell? ⟨w3.heap.size, 1, none⟩ = some (.slice A3 n3 c3))
      (refine ⟨?_, ?_, ?_, ?_, ?_, ?_, ?_, ?_⟩ <;> (repeat (with_reducible first | exact cB0 | exact cB1 | exact cH0 | exact cH1 | exact cX0 | exact cX1 | exact cY0 | exact cY1 | refine cell_drew ?_ | refine cell_later hb7 ?_ | refine cell_later hb6 ?_ | refine cell_later hb5 ?_)))
      (first
        | (go_at_call 18; refine (SameBits_eq p1 A2 A3 n3 c2 c3 p2 _ hr2.drew hr3.drew hps hn3).mono ?_; rintro e w5 ⟨rfl, hb5⟩)
        | (go_at_call 21; refine (Check_any _ _ _ _ ws _ (hr1.drew.below hb5 (Nat.le_refl _)) hs hn1).mono ?_; rintro e w6 ⟨rfl, hb6⟩)
        | (go_at_call 22; refine (rCheck_any _ _ _ _ ws _ ((hr.drew.below hb5 (Nat.le_refl _)).below hb6 (Nat.le_refl _)) hs hn1).mono ?_; rintro e w7 ⟨rfl, hb7⟩))
    rename_i hheld
    clear hheld cB0 cB1 cH0 cH1 cX0 cX1 cY0 cY1 hr2 hr3 kX kY
    have hc7 : Below w4.heap.size w4 w7 := bnext (bnext (bnext (below_drew (Below.refl _ _)) hb5) hb6) hb7
    clear hb5 hb6 hb7
    have hb0 : Below w.heap.size w w7 := bnext (bnext (bnext (bnext hc1 hc2) hc3) hc4) hc7
    clear hb1 hb2 hb3 hc1 hc2 hc3 hc4
    replace kB := kB.to hc7
    replace kH := kH.to hc7
    replace hr := hr.below hc7 (Nat.le_refl _)
    replace hr1 := hr1.below hc7 (Nat.le_refl _)
    replace hT := hT.below hc7
    clear hc7
    obtain ⟨cB, fB, lB⟩ := kB.facts
    obtain ⟨cH, fH, lH⟩ := kH.facts
    go_wp2_with fail
    refine (Has_any N A1 n c1 ws a _ hr1 hs hn1).mono ?_
    rw [HQ.out]
    rintro e w8 ⟨rfl, hb8⟩
    clear cB fB lB cH fH lH
    have hc8 : Below w7.heap.size w7 w8 := bnext (Below.refl _ _) hb8
    replace kB := kB.to hc8
    replace kH := kH.to hc8
    replace hr := hr.below hc8 (Nat.le_refl _)
    replace hr1 := hr1.below hc8 (Nat.le_refl _)
    replace hT := hT.below hc8
    obtain ⟨cB, fB, lB⟩ := kB.facts
    obtain ⟨cH, fH, lH⟩ := kH.facts
    go_wp2_with fail
    refine (rHas_any N A n c ws a _ hr hs hn1).mono ?_
    rw [HQ.out]
    rintro e w9 ⟨rfl, hb9⟩
    clear cB fB lB cH fH lH
    have hc9 : Below w8.heap.size w8 w9 := bnext (Below.refl _ _) hb9
    replace kB := kB.to hc9
    replace kH := kH.to hc9
    replace hr := hr.below hc9 (Nat.le_refl _)
    replace hr1 := hr1.below hc9 (Nat.le_refl _)
    replace hT := hT.below hc9
    obtain ⟨cB, fB, lB⟩ := kB.facts
    obtain ⟨cH, fH, lH⟩ := kH.facts
    go_wp2_with fail
    refine (Count_any N A1 n c1 ws a b _ hr1 hs hn1).mono ?_
    rw [HQ2.out]
    rintro e w10 ⟨rfl, hb10⟩
    clear cB fB lB cH fH lH
    have hc10 : Below w9.heap.size w9 w10 := bnext (Below.refl _ _) hb10
    replace kB := kB.to hc10
    replace kH := kH.to hc10
    replace hr := hr.below hc10 (Nat.le_refl _)
    replace hr1 := hr1.below hc10 (Nat.le_refl _)
    replace hT := hT.below hc10
    obtain ⟨cB, fB, lB⟩ := kB.facts
    obtain ⟨cH, fH, lH⟩ := kH.facts
    go_wp2_with fail
    refine (rCount_any N A n c ws a b _ hr hs hn1).mono ?_
    rw [HQ2.out]
    rintro e w11 ⟨rfl, hb11⟩
    clear cB fB lB cH fH lH
    have hc11 : Below w10.heap.size w10 w11 := bnext (Below.refl _ _) hb11
    replace kB := kB.to hc11
    replace kH := kH.to hc11
    replace hr := hr.below hc11 (Nat.le_refl _)
    replace hr1 := hr1.below hc11 (Nat.le_refl _)
    replace hT := hT.below hc11
    obtain ⟨cB, fB, lB⟩ := kB.facts
    obtain ⟨cH, fH, lH⟩ := kH.facts
    go_wp2_with fail
    refine (Next_any N A1 n c1 ws a inn _ hT hr1 hs hn1).mono ?_
    rw [HQ3.out]
    rintro e w12 ⟨rfl, hb12⟩
    clear cB fB lB cH fH lH
    have hc12 : Below w11.heap.size w11 w12 := bnext (Below.refl _ _) hb12
    replace kB := kB.to hc12
    replace kH := kH.to hc12
    replace hr := hr.below hc12 (Nat.le_refl _)
    replace hr1 := hr1.below hc12 (Nat.le_refl _)
    replace hT := hT.below hc12
    obtain ⟨cB, fB, lB⟩ := kB.facts
    obtain ⟨cH, fH, lH⟩ := kH.facts
    go_wp2_with fail
    refine (rNext_any N A n c ws a inn _ hr hs hn1).mono ?_
    rw [HQ3.out]
    rintro e w13 ⟨rfl, hb13⟩
    clear cB fB lB cH fH lH
    have hc13 : Below w12.heap.size w12 w13 := bnext (Below.refl _ _) hb13
    replace kB := kB.to hc13
    replace kH := kH.to hc13
    replace hr := hr.below hc13 (Nat.le_refl _)
    replace hr1 := hr1.below hc13 (Nat.le_refl _)
    replace hT := hT.below hc13
    obtain ⟨cB, fB, lB⟩ := kB.facts
    obtain ⟨cH, fH, lH⟩ := kH.facts
    go_wp2_with fail
    refine (SameBits_eq N A1 A n c1 c ws _ hr1 hr hs hn1).mono ?_
    rintro e w14 ⟨rfl, hb14⟩
    clear cB fB lB cH fH lH
    have hc14 : Below w13.heap.size w13 w14 := bnext (Below.refl _ _) hb14
    replace kB := kB.to hc14
    replace kH := kH.to hc14
    replace hr := hr.below hc14 (Nat.le_refl _)
    replace hr1 := hr1.below hc14 (Nat.le_refl _)
    replace hT := hT.below hc14
    obtain ⟨cB, fB, lB⟩ := kB.facts
    obtain ⟨cH, fH, lH⟩ := kH.facts
    go_wp2_with fail
    refine (awake_true _ hT).mono ?_
    rintro e w15 ⟨rfl, hb15⟩
    clear cB fB lB cH fH lH
    have hc15 : Below w14.heap.size w14 w15 := bnext (Below.refl _ _) hb15
    replace kB := kB.to hc15
    replace kH := kH.to hc15
    replace hr := hr.below hc15 (Nat.le_refl _)
    replace hr1 := hr1.below hc15 (Nat.le_refl _)
    replace hT := hT.below hc15
    obtain ⟨cB, fB, lB⟩ := kB.facts
    obtain ⟨cH, fH, lH⟩ := kH.facts
    go_wp2_with fail
    go_ret
    exact ⟨rfl, bnext (bnext (bnext (bnext (bnext (bnext (bnext (bnext hb0 hc8) hc9) hc10) hc11) hc12) hc13) hc14) hc15⟩
end Go.Proofs.YtihbdndigfnhkaaDoor
