/- RegionLooks: the program and the reference tell the same of regions. -/
import Derived.Test.YtfblbkhiaglelaaDoorRgW
import Derived.Test.YtfblbkhiaglelaaDoorRgX
import Derived.Test.YtfblbkhiaglelaaDoorRgZ
import Derived.Test.YtfblbkhiaglelaaDoorSame24
import Derived.Test.YtfblbkhiaglelaaDoorAwake24
namespace Go.Proofs.YtfblbkhiaglelaaDoor
open Go Go.Proofs Go.RowKit
set_option linter.unusedSimpArgs false
set_option linter.unusedVariables false
set_option maxRecDepth 100000
theorem grpR_le (rs : List (Int × Int)) : (grpR rs).1.length ≤ 8 := by
  unfold grpR
  split
  · simp
  · exact grpK_le rs 8
set_option maxHeartbeats 8000000 in
theorem looks_true (A : Option Addr) (n c : Nat) (rs : List (Int × Int)) (p x : Int) (w : World) (hr : Rd w 2 A n (flat2 .i64 rs)) (hx1 : -9223372036854775808 ≤ x) (hx2 : x ≤ 9223372036854775807) (hP : PowOK w) :
    Calls Tryd.prog 3 #[.slice A n c, .int .i64 p, .int .i64 x] w fun e w' => e = .returned (.bool true) ∧ Below w.heap.size w w' := by
  by_cases hn : n ≤ 40
  · have h1 : (n : Int) ≤ 40 := by omega
    have H1 := Lib.hid (fun w h => Has_rg A n c rs p w h (by omega))
    have H2 := Lib.hid (fun w h => rHas_any A n c rs p w h (by omega))
    have H3 := Lib.hid (fun w h => Total_any A n c rs w h (by omega))
    have H4 := Lib.hid (fun w h => rTotal_any A n c rs w h (by omega))
    have H5 := Lib.hid (fun w h => Gaps_any A n c rs w h (by omega))
    have H6 := Lib.hid (fun w h => rGaps_any A n c rs w h (by omega))
    have H7 := Lib.hid (fun w h => Fit_any A n c rs x w h (by omega) hx1 hx2)
    have H8 := Lib.hid (fun w h => rFit_any A n c rs x w h (by omega) hx1 hx2)
    have H9 := Lib.hid (fun w h => Groups_any A n c rs w h (by omega))
    have H10 := Lib.hid (fun w h => rGroups_any A n c rs w h (by omega))
    have H11 := Lib.hid (fun w h hp => Text24_any A n c rs w h (by omega) hp)
    have H12 := Lib.hid (fun w h => rText_any A n c rs w h (by omega))
    have hG := gapR_le rs
    have hQ := grpR_le rs
    generalize hasRg rs p = R1 at *
    generalize totR rs = R2 at *
    obtain ⟨⟨G, GE⟩, hGG⟩ : ∃ g, gapR rs = g := ⟨_, rfl⟩
    obtain ⟨⟨Q, QE⟩, hQQ⟩ : ∃ g, grpR rs = g := ⟨_, rfl⟩
    rw [hGG] at H5 H6 hG
    rw [hQQ] at H9 H10 hQ
    generalize fitR rs x = R3 at *
    generalize textG rs = R4 at *
    clear hGG hQQ
    unfold RgRes at H5 H6
    unfold IntRes at H9 H10
    simp only at H5 H6 H9 H10 hG hQ
    have B0 := Below.refl w.heap.size w
    go_enter Tryd.func3, Tryd.ntmps3
    go_wp2_with fail
    go_at_call 6
    refine (H1.out _ hr).mono ?_
    rintro e w1 ⟨rfl, hb1⟩
    replace hr := hr.below hb1 (Nat.le_refl _)
    have B1 := bnext B0 hb1
    clear B0 hb1
    go_wp2_with fail
    go_at_call 7
    refine (H2.out _ hr).mono ?_
    rintro e w2 ⟨rfl, hb2⟩
    replace hr := hr.below hb2 (Nat.le_refl _)
    have B2 := bnext B1 hb2
    clear B1 hb2
    go_wp2_with fail
    go_at_call 8
    refine (H3.out _ hr).mono ?_
    rintro e w3 ⟨rfl, hb3⟩
    replace hr := hr.below hb3 (Nat.le_refl _)
    have B3 := bnext B2 hb3
    clear B2 hb3
    go_wp2_with fail
    go_at_call 9
    refine (H4.out _ hr).mono ?_
    rintro e w4 ⟨rfl, hb4⟩
    replace hr := hr.below hb4 (Nat.le_refl _)
    have B4 := bnext B3 hb4
    clear B3 hb4
    go_wp2_with fail
    go_at_call 10
    refine (H5.out _ hr).mono ?_
    rintro e w5 ⟨v5, rfl, own5, hb5⟩
    replace hr := hr.below hb5 (Nat.le_refl _)
    have B5 := bnext B4 hb5
    clear B4 hb5
    obtain ⟨A5, c5, rfl, r5⟩ := own_slice own5
    clear own5
    go_wp2_with fail
    go_at_call 11
    refine (H6.out _ hr).mono ?_
    rintro e w6 ⟨v6, rfl, own6, hb6⟩
    replace hr := hr.below hb6 (Nat.le_refl _)
    replace r5 := r5.below hb6 (Nat.le_refl _)
    have B6 := bnext B5 hb6
    clear B5 hb6
    obtain ⟨A6, c6, rfl, r6⟩ := own_slice own6
    clear own6
    go_wp2_with fail
    go_at_call 12
    refine (H7.out _ hr).mono ?_
    rintro e w7 ⟨rfl, hb7⟩
    replace hr := hr.below hb7 (Nat.le_refl _)
    replace r5 := r5.below hb7 (Nat.le_refl _)
    replace r6 := r6.below hb7 (Nat.le_refl _)
    have B7 := bnext B6 hb7
    clear B6 hb7
    go_wp2_with fail
    go_at_call 13
    refine (H8.out _ hr).mono ?_
    rintro e w8 ⟨rfl, hb8⟩
    replace hr := hr.below hb8 (Nat.le_refl _)
    replace r5 := r5.below hb8 (Nat.le_refl _)
    replace r6 := r6.below hb8 (Nat.le_refl _)
    have B8 := bnext B7 hb8
    clear B7 hb8
    go_wp2_with fail
    go_at_call 14
    refine (SameRanges_eq A5 A6 _ c5 c6 G _ r5 r6 (by omega)).mono ?_
    rintro e w9 ⟨rfl, hb9⟩
    replace hr := hr.below hb9 (Nat.le_refl _)
    replace r5 := r5.below hb9 (Nat.le_refl _)
    replace r6 := r6.below hb9 (Nat.le_refl _)
    have B9 := bnext B8 hb9
    clear B8 hb9
    go_wp2_with fail
    go_at_call 15
    refine (H9.out _ hr).mono ?_
    rintro e w10 ⟨A10, c10, rfl, r10, hb10⟩
    replace hr := hr.below hb10 (Nat.le_refl _)
    have B10 := bnext B9 hb10
    clear B9 hb10
    go_wp2_with fail
    go_at_call 16
    refine (H10.out _ hr).mono ?_
    rintro e w11 ⟨A11, c11, rfl, r11, hb11⟩
    replace hr := hr.below hb11 (Nat.le_refl _)
    replace r10 := r10.below hb11 (Nat.le_refl _)
    have B11 := bnext B10 hb11
    clear B10 hb11
    go_wp2_with fail
    go_at_call 17
    refine (H11.out _ hr (hP.below B11)).mono ?_
    rintro e w12 ⟨rfl, hb12⟩
    replace hr := hr.below hb12 (Nat.le_refl _)
    replace r10 := r10.below hb12 (Nat.le_refl _)
    replace r11 := r11.below hb12 (Nat.le_refl _)
    have B12 := bnext B11 hb12
    clear B11 hb12
    go_wp2_with fail
    go_at_call 18
    refine (H12.out _ hr).mono ?_
    rintro e w13 ⟨rfl, hb13⟩
    replace hr := hr.below hb13 (Nat.le_refl _)
    replace r10 := r10.below hb13 (Nat.le_refl _)
    replace r11 := r11.below hb13 (Nat.le_refl _)
    have B13 := bnext B12 hb13
    clear B12 hb13
    go_wp2_with fail
    go_at_call 19
    refine (SameInts24 A10 A11 _ c10 c11 Q _ r10 r11 (by omega)).mono ?_
    rintro e w14 ⟨rfl, hb14⟩
    replace hr := hr.below hb14 (Nat.le_refl _)
    replace r10 := r10.below hb14 (Nat.le_refl _)
    replace r11 := r11.below hb14 (Nat.le_refl _)
    have B14 := bnext B13 hb14
    clear B13 hb14
    go_wp2_with fail
    go_at_call 5
    refine (awake_true _).mono ?_
    rintro e w15 ⟨rfl, hb15⟩
    replace hr := hr.below hb15 (Nat.le_refl _)
    replace r10 := r10.below hb15 (Nat.le_refl _)
    replace r11 := r11.below hb15 (Nat.le_refl _)
    have B15 := bnext B14 hb15
    clear B14 hb15
    go_wp2_with fail
    go_ret
    exact ⟨rfl, B15⟩
  · have h1 : ¬ (n : Int) ≤ 40 := by omega
    go_enter Tryd.func3, Tryd.ntmps3
    go_wp2_with fail
    go_at_call 5
    refine (awake_true _).mono ?_
    rintro e w11 ⟨rfl, hb11⟩
    go_wp2_with fail
    go_ret
    exact ⟨rfl, hb11⟩
end Go.Proofs.YtfblbkhiaglelaaDoor
