/- AddrKnown returns true. -/
import Derived.Test.YtmaebbbaooodaaaDoorAdR
import Derived.Test.YtmaebbbaooodaaaDoorAwake03
import Derived.Test.YtmaebbbaooodaaaDoorCover
namespace Go.Proofs.YtmaebbbaooodaaaDoor
open Go Go.Proofs Go.RowKit
set_option linter.unusedSimpArgs false
set_option linter.unusedVariables false
set_option maxRecDepth 100000

theorem kn1 : pieces 7 8 = [(7, 7), (8, 8)] := by decide +kernel
theorem kn2 : coverL [(5, 20), (60, 63)] = [0, 1, 2, 7] ∧ coverE [(5, 20), (60, 63)] = 0 := by decide +kernel
theorem kn3 : coverL [] = [] ∧ coverE [] = 0 := by decide +kernel
theorem kn4 : coverL [(5, 4)] = [] ∧ coverE [(5, 4)] = 2 := by decide +kernel
theorem kn5 : textA 5 5 = ([53], 0) := by decide +kernel
theorem kp1 : parA [53, 46, 46, 53] = (5, 5, 0) := by decide +kernel
theorem kp2 : parA [48, 53] = (0, 0, 3) := by decide +kernel
theorem kp3 : parA [53, 46, 46] = (0, 0, 3) := by decide +kernel
theorem kp4 : parA [53, 46, 46, 46, 54] = (0, 0, 3) := by decide +kernel
theorem kp5 : parA [53, 46, 46, 54, 52] = (0, 0, 2) := by decide +kernel
theorem kp6 : parA [55, 46, 46, 54] = (0, 0, 2) := by decide +kernel
set_option maxHeartbeats 4000000 in
theorem parsed_true (l : List UInt8) (a b er : Int) (w : World) (hl : l.length ≤ 100000) (hC : CutOK w) (h : parA l = (a, b, er)) :
    Calls Tryd.prog 21 #[.string ⟨l.toArray⟩, .agg #[.int .i64 a, .int .i64 b], .int .i64 er] w fun e w' => e = .returned (.bool true) ∧ Below w.heap.size w w' := by
  have HP := Lib.hid h
  clear h
  go_enter Tryd.func21, Tryd.ntmps21
  go_wp2_with fail
  refine (Parse_any l _ hl (hC.alloc _)).mono ?_
  rintro e w1 ⟨he, hb1⟩
  have hc1 : Below w.heap.size w w1 := bnext (balloc (Below.refl _ _) _) hb1
  replace hC := hC.below hc1
  have kR := (Bk.new w #[.int .i64 a, .int .i64 b] 23).to hb1
  rw [HP.out] at he
  subst he
  simp only
  obtain ⟨cR, fR, lR⟩ := kR.facts
  go_wp2_with fail
  go_ret
  exact ⟨rfl, balloc hc1 _⟩

set_option maxHeartbeats 4000000 in
theorem AddrKnown_true (w : World) (hC : CutOK w) :
    Calls Tryd.prog 5 #[] w fun e w' => e = .returned (.bool true) ∧ Below w.heap.size w w' := by
  go_enter Tryd.func5, Tryd.ntmps5
  go_wp2_with fail
  refine (Leaf_bad 64 _ (by omega)).mono ?_
  rintro e w' ⟨rfl, rfl⟩
  go_wp2_with fail
  refine (Page_ok 1 5 _ (by omega) (by omega) (by omega) (by omega)).mono ?_
  rintro e w' ⟨rfl, rfl⟩
  go_wp2_with fail
  refine (Page_bad 1 8 _ (by omega)).mono ?_
  rintro e w' ⟨rfl, rfl⟩
  go_wp2_with fail
  refine (Address_ok 13 2 _ (by omega) (by omega) (by omega) (by omega)).mono ?_
  rintro e w' ⟨rfl, rfl⟩
  go_wp2_with fail
  refine (Where_ok 106 _ (by omega) (by omega)).mono ?_
  rintro e w' ⟨rfl, rfl⟩
  go_wp2_with fail
  refine (Where_bad 512 _ (by omega)).mono ?_
  rintro e w' ⟨rfl, rfl⟩
  go_wp2_with fail
  refine (Pieces_rd 7 8 _ (by omega) (by omega) (by omega)).mono ?_
  rintro e w1 ⟨A1, c1, rfl, hr1, hb1⟩
  have hc1 : Below w.heap.size w w1 := bnext (Below.refl _ _) hb1
  replace hC := hC.below hc1
  rw [kn1] at hr1 ⊢
  go_wp2_with fail
  refine (Cover_any _ 2 _ [(5, 20), (60, 63)] _ (by decide) (Rd.new _ _ rfl)).mono ?_
  rintro e w2 ⟨A2, c2, rfl, hr2, hb2⟩
  have hc2 : Below w1.heap.size w1 w2 := bnext (balloc (Below.refl _ _) _) hb2
  replace hr1 := hr1.below hc2 (Nat.le_refl _)
  replace hC := hC.below hc2
  have kC1 := (Bk.new w1 #[.int .i64 5, .int .i64 20, .int .i64 60, .int .i64 63] 23).to hb2
  rw [kn2.1] at hr2 ⊢
  rw [kn2.2]
  obtain ⟨cC1, fC1, lC1⟩ := kC1.facts
  go_wp2_with fail
  refine (Cover_any none 0 0 [] _ (by decide) (Rd.zero none)).mono ?_
  rintro e w3 ⟨A3, c3, rfl, hr3, hb3⟩
  clear cC1 fC1 lC1
  have hc3 : Below w2.heap.size w2 w3 := bnext (Below.refl _ _) hb3
  replace kC1 := kC1.to hc3
  replace hr1 := hr1.below hc3 (Nat.le_refl _)
  replace hr2 := hr2.below hc3 (Nat.le_refl _)
  replace hC := hC.below hc3
  rw [kn3.1, kn3.2]
  clear hr3
  obtain ⟨cC1, fC1, lC1⟩ := kC1.facts
  go_wp2_with fail
  refine (Cover_any _ 1 _ [(5, 4)] _ (by decide) (Rd.new _ _ rfl)).mono ?_
  rintro e w4 ⟨A4, c4, rfl, hr4, hb4⟩
  clear cC1 fC1 lC1
  have hc4 : Below w3.heap.size w3 w4 := bnext (balloc (Below.refl _ _) _) hb4
  replace kC1 := kC1.to hc4
  replace hr1 := hr1.below hc4 (Nat.le_refl _)
  replace hr2 := hr2.below hc4 (Nat.le_refl _)
  replace hC := hC.below hc4
  have kC2 := (Bk.new w3 #[.int .i64 5, .int .i64 4] 23).to hb4
  rw [kn4.1, kn4.2]
  clear hr4
  obtain ⟨cC1, fC1, lC1⟩ := kC1.facts
  obtain ⟨cC2, fC2, lC2⟩ := kC2.facts
  clear kC1 kC2 cC1 fC1 lC1 cC2 fC2 lC2
  go_wp2_with fail
  refine (SameRanges_eq _ _ _ _ _ [(7, 7), (8, 8)] _ (hr1.alloc _) (Rd.new _ _ rfl) (by decide)).mono ?_
  rintro e w5 ⟨rfl, hb5⟩
  have hc5 : Below w4.heap.size w4 w5 := bnext (balloc (Below.refl _ _) _) hb5
  replace hr1 := hr1.below hc5 (Nat.le_refl _)
  replace hr2 := hr2.below hc5 (Nat.le_refl _)
  replace hC := hC.below hc5
  have kS1 := (Bk.new w4 #[.int .i64 7, .int .i64 7, .int .i64 8, .int .i64 8] 23).to hb5
  obtain ⟨cS1, fS1, lS1⟩ := kS1.facts
  go_wp2_with fail
  refine (SameInts_eq _ _ _ _ _ [0, 1, 2, 7] _ (hr2.alloc _) (Rd.new _ _ rfl) (by decide)).mono ?_
  rintro e w6 ⟨rfl, hb6⟩
  clear cS1 fS1 lS1
  have hc6 : Below w5.heap.size w5 w6 := bnext (balloc (Below.refl _ _) _) hb6
  replace kS1 := kS1.to hc6
  replace hr1 := hr1.below hc6 (Nat.le_refl _)
  replace hr2 := hr2.below hc6 (Nat.le_refl _)
  replace hC := hC.below hc6
  have kS2 := (Bk.new w5 #[.int .i64 0, .int .i64 1, .int .i64 2, .int .i64 7] 3).to hb6
  obtain ⟨cS1, fS1, lS1⟩ := kS1.facts
  obtain ⟨cS2, fS2, lS2⟩ := kS2.facts
  clear kS1 kS2 cS1 fS1 lS1 cS2 fS2 lS2 hr1 hr2
  go_wp2_with fail
  refine (Overlap_some 5 20 18 30 _ (by omega) (by omega) (by omega) (by omega) (by omega) (by omega) (by omega)).mono ?_
  rintro e w7 ⟨rfl, hb7⟩
  have hc7 : Below w6.heap.size w6 w7 := bnext (Below.refl _ _) hb7
  replace hC := hC.below hc7
  go_wp2_with fail
  refine (Overlap_none 5 7 8 9 _ (by omega) (by omega) (by omega) (by omega) (by omega) (by omega) (by omega)).mono ?_
  rintro e w8 ⟨rfl, hb8⟩
  have hc8 : Below w7.heap.size w7 w8 := bnext (balloc (Below.refl _ _) _) hb8
  replace hC := hC.below hc8
  have kX := (Bk.new w7 #[.int .i64 18, .int .i64 20] 23).to hb8
  obtain ⟨cX, fX, lX⟩ := kX.facts
  go_wp2_with fail
  refine (Text_any 5 5 _).mono ?_
  rw [kn5]
  rintro e w9 ⟨rfl, hb9⟩
  clear cX fX lX
  have hc9 : Below w8.heap.size w8 w9 := bnext (balloc (Below.refl _ _) _) hb9
  replace kX := kX.to hc9
  replace hC := hC.below hc9
  have kY := (Bk.new w8 #[.int .i64 0, .int .i64 0] 23).to hb9
  obtain ⟨cX, fX, lX⟩ := kX.facts
  obtain ⟨cY, fY, lY⟩ := kY.facts
  clear kY cY fY lY
  go_wp2_with fail
  refine (parsed_true [53, 46, 46, 53] 5 5 0 _ (by decide) hC kp1).mono ?_
  rintro e w10 ⟨rfl, hb10⟩
  clear cX fX lX
  have hc10 : Below w9.heap.size w9 w10 := bnext (Below.refl _ _) hb10
  replace kX := kX.to hc10
  replace hC := hC.below hc10
  obtain ⟨cX, fX, lX⟩ := kX.facts
  go_wp2_with fail
  refine (parsed_true [48, 53] 0 0 3 _ (by decide) hC kp2).mono ?_
  rintro e w11 ⟨rfl, hb11⟩
  clear cX fX lX
  have hc11 : Below w10.heap.size w10 w11 := bnext (Below.refl _ _) hb11
  replace kX := kX.to hc11
  replace hC := hC.below hc11
  obtain ⟨cX, fX, lX⟩ := kX.facts
  go_wp2_with fail
  refine (parsed_true [53, 46, 46] 0 0 3 _ (by decide) hC kp3).mono ?_
  rintro e w12 ⟨rfl, hb12⟩
  clear cX fX lX
  have hc12 : Below w11.heap.size w11 w12 := bnext (Below.refl _ _) hb12
  replace kX := kX.to hc12
  replace hC := hC.below hc12
  obtain ⟨cX, fX, lX⟩ := kX.facts
  go_wp2_with fail
  refine (parsed_true [53, 46, 46, 46, 54] 0 0 3 _ (by decide) hC kp4).mono ?_
  rintro e w13 ⟨rfl, hb13⟩
  clear cX fX lX
  have hc13 : Below w12.heap.size w12 w13 := bnext (Below.refl _ _) hb13
  replace kX := kX.to hc13
  replace hC := hC.below hc13
  obtain ⟨cX, fX, lX⟩ := kX.facts
  go_wp2_with fail
  refine (parsed_true [53, 46, 46, 54, 52] 0 0 2 _ (by decide) hC kp5).mono ?_
  rintro e w14 ⟨rfl, hb14⟩
  clear cX fX lX
  have hc14 : Below w13.heap.size w13 w14 := bnext (Below.refl _ _) hb14
  replace kX := kX.to hc14
  replace hC := hC.below hc14
  obtain ⟨cX, fX, lX⟩ := kX.facts
  go_wp2_with fail
  refine (parsed_true [55, 46, 46, 54] 0 0 2 _ (by decide) hC kp6).mono ?_
  rintro e w15 ⟨rfl, hb15⟩
  clear cX fX lX
  have hc15 : Below w14.heap.size w14 w15 := bnext (Below.refl _ _) hb15
  replace kX := kX.to hc15
  replace hC := hC.below hc15
  obtain ⟨cX, fX, lX⟩ := kX.facts
  go_wp2_with fail
  refine (awake_true _).mono ?_
  rintro e w16 ⟨rfl, hb16⟩
  clear cX fX lX
  have hc16 : Below w15.heap.size w15 w16 := bnext (Below.refl _ _) hb16
  replace kX := kX.to hc16
  replace hC := hC.below hc16
  obtain ⟨cX, fX, lX⟩ := kX.facts
  go_wp2_with fail
  go_ret
  exact ⟨rfl, bnext (bnext (bnext (bnext (bnext (bnext (bnext (bnext (bnext (bnext (bnext (bnext (bnext (bnext (bnext hc1 hc2) hc3) hc4) hc5) hc6) hc7) hc8) hc9) hc10) hc11) hc12) hc13) hc14) hc15) hc16⟩
end Go.Proofs.YtmaebbbaooodaaaDoor
