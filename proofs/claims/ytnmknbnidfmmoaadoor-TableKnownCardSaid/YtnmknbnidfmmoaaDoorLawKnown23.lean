/- TableKnown returns true. -/
import Derived.Test.YtnmknbnidfmmoaaDoorAwake23b
import Derived.Deep.RegionHeld3
import Derived.Deep.DeepCutAuto
namespace Go.Proofs.YtnmknbnidfmmoaaDoor
open Go Go.Proofs Go.RowKit
set_option linter.unusedSimpArgs false
set_option linter.unusedVariables false
set_option maxRecDepth 100000

def xe3 : List Nat := xe2.set 9 0
def xl2 : List Int := xl1.set 0 9
theorem kn1 : lackR 3 xl0 xe0 9 = (true, 0) := by decide +kernel
theorem kn2 : putR 3 xl0 xe0 9 1 5 true false false = ((0, [], []), 9) := by decide +kernel
theorem kn3 : putR 3 xl0 xe0 9 0 0 false false false = ((3, xl0, xe0), 0) := by decide +kernel
theorem kn4 : newR (-1) = ((-1, xl0, xe0), 0) := by decide +kernel
theorem kn5 : leafR 3 xl1 xe2 1 8 = ((0, [], []), 7) := by decide +kernel
theorem kn6 : leafR 3 xl1 xe2 2 7 = ((0, [], []), 7) := by decide +kernel
theorem kn7 : leafR 3 xl1 xe2 2 3 = ((0, [], []), 7) := by decide +kernel
theorem kn8 : leafR (-1) xl0 xe0 0 1 = ((0, [], []), 9) := by decide +kernel
theorem kn9 : clearR 3 xl1 xe2 9 = ((3, xl1, xe3), -1, 0) := by decide +kernel
theorem kn10 : clearR 3 xl1 xe3 10 = ((3, xl0, xe0), 7, 0) := by decide +kernel
theorem kn11 : clearR 3 xl1 xe2 11 = ((0, [], []), 0, 6) := by decide +kernel
theorem kn12 : frmR 3 xl0 xe0 = ([3], 0) := by decide +kernel
theorem kn13 : leafR 3 xl1 xe2 0 9 = ((3, xl2, xe2), 0) := by decide +kernel
theorem kn14 : trimR 3 xl2 xe2 = ((3, xl1, xe2), [9], 0) := by decide +kernel
theorem kn15 : pagR 3 xl1 xe2 1 = ([9], 0) := by decide +kernel
theorem kn16 : pagR 3 xl1 xe2 3 = ([], 2) := by decide +kernel
theorem ex_s3 : wsmall xe3 := by unfold wsmall; decide +kernel
theorem ex_len : xl0.length ≤ 1000 ∧ xe0.length ≤ 1000 ∧ xl1.length ≤ 1000 ∧ xe2.length ≤ 1000 := by decide +kernel
set_option maxHeartbeats 8000000 in
theorem TableKnown_true (w : World) (hL : LayOK w) :
    Calls Tryd.prog 8 #[] w fun e w' => e = .returned (.bool true) ∧ Below w.heap.size w w' := by
  go_enter Tryd.func8, Tryd.ntmps8
  go_wp2_with fail
  refine (TNew_any 3 _).mono ?_
  rw [ex_new]
  rintro e w1 ⟨v1, rfl, hv1, hl1, hb1⟩
  have hc1 : Below w.heap.size w w1 := bnext (Below.refl _ _) hb1
  replace hL := hL.below hc1
  obtain ⟨A1, c1, B1, d1, rfl, _, _, _⟩ := id hv1
  simp only [tabV] at hv1 ⊢
  go_wp2_with fail
  refine (TLacks_any 3 xl0 xe0 _ 9 _ (hv1.alloc _) ex_s0 (hL.alloc _)).mono ?_
  rw [kn1]
  rintro e w2 ⟨rfl, hb2⟩
  have hc2 : Below w1.heap.size w1 w2 := bnext (balloc (Below.refl _ _) _) hb2
  replace hL := hL.below hc2
  replace hv1 := hv1.below hc2
  have kT1 := (Bk.new w1 #[.int .i64 3, .slice A1 (xl0).length c1 , .slice B1 (xe0).length d1] 25).to hb2
  obtain ⟨cT1, fT1, lT1⟩ := kT1.facts
  go_wp2_with fail
  have hBS : Below w.heap.size w w2 := bnext hc1 hc2
  clear hc1 hc2 hb1 hb2 hl1 cT1 fT1 lT1
  obtain ⟨cT1, fT1, lT1⟩ := kT1.facts
  have cT10 := cT1 0
  have cT11 := cT1 1
  have cT12 := cT1 2
  simp at cT10 cT11 cT12
  clear cT1 fT1
  go_cut [5, 6] (fun sa sb wx => (∃ p, sa = .pointer (some ⟨p, 0, none⟩)) ∧ sb = .int .i64 9 ∧ Below w2.heap.size w2 wx)
  case first =>
    go_region_held3 (fun w' => w'.cell? ⟨w1.heap.size, 0, none⟩ = some (.int .i64 3) ∧ w'.cell? ⟨w1.heap.size, 1, none⟩ = some (.slice A1 xl0.length c1) ∧ w'.cell? ⟨w1.heap.size, 2, none⟩ = some (.slice B1 xe0.length d1))
      (refine ⟨?_, ?_, ?_⟩ <;> (repeat (with_reducible first | exact cT10 | exact cT11 | exact cT12 | refine cell_drew ?_ | refine cell_later hbP ?_ | refine cell_later hbQ ?_ | refine cell_alloc _ ?_ | refine cell_far ?_ (by show _ ≠ _; simp only; omega) _)))
      (first
        | (go_at_call 41; refine (page5_any _).mono ?_; rintro e wP ⟨rfl, hbP⟩; have hsP : w2.heap.size ≤ wP.heap.size := Nat.le_trans (by first | exact Nat.le_refl _ | (simp only [World.size_alloc, World.size_drew]; omega)) hbP.size)
        | (go_at_call 29; refine (TPut_any 3 xl0 xe0 _ 9 1 5 true false false _ (by repeat (with_reducible first | exact hv1 | refine TbV.drew ?_ | refine TbV.alloc ?_ _ | refine TbV.to ?_ hbP)) ex_s0 (by repeat (with_reducible first | exact hL | refine LayOK.drew ?_ | refine LayOK.alloc ?_ _ | refine LayOK.below ?_ hbP))).mono ?_; rw [kn2]; rintro e wQ ⟨vQ, rfl, hvQ, hlQ, hbQ⟩; obtain ⟨AQ, cQ, BQ, dQ, rfl, _, _, _⟩ := id hvQ; simp only [tabV] at hvQ hlQ ⊢
           first
             | (have kN := ((Bk.newd w2 #[.int .i64 0, .slice none 0 0, .slice none 0 0] 25).to hbP).to hbQ; obtain ⟨cN, fN, lN⟩ := kN.facts; have hNl := (Bk.newd w2 #[.int .i64 0, .slice none 0 0, .slice none 0 0] 25).lt; have hNP := hbP.size)
             | (have kN := (Bk.new wP #[.int .i64 0, .slice none 0 0, .slice none 0 0] 25).to hbQ; obtain ⟨cN, fN, lN⟩ := kN.facts)
             | skip))
    all_goals
      go_wp2_with fail
      go_meet
      first
        | exact ⟨⟨_, rfl⟩, rfl, below_put3 (by repeat (with_reducible first | exact Below.refl _ _ | refine bnext ?_ hbQ | refine bnext ?_ hbP | refine below_drew ?_ | refine balloc ?_ _)) (by first | exact Nat.le_refl _ | exact hsP) _ _ _⟩
        | exact ⟨⟨_, rfl⟩, rfl, by repeat (with_reducible first | exact Below.refl _ _ | refine bnext ?_ hbQ | refine bnext ?_ hbP | refine below_drew ?_ | refine balloc ?_ _)⟩
  case rest =>
    obtain ⟨⟨C_p, rfl⟩, rfl, hcC⟩ := hcut
    replace kT1 := kT1.to hcC
    replace hL := hL.below hcC
    replace hv1 := hv1.below hcC
    clear cT10 cT11 cT12 lT1
    have hBC : Below w.heap.size w wc := bnext hBS hcC
    clear hBS hcC
    generalize wc = wD at *
    obtain ⟨cT1, fT1, lT1⟩ := kT1.facts
    go_wp2_with fail
    refine (TPut_any 3 xl0 xe0 _ 9 0 0 false false false _ hv1 ex_s0 hL).mono ?_
    rw [kn3]
    rintro e w3 ⟨v3, rfl, hv3, hl3, hb3⟩
    clear cT1 fT1 lT1
    have hc3 : Below wD.heap.size wD w3 := bnext (Below.refl _ _) hb3
    replace kT1 := kT1.to hc3
    replace hL := hL.below hc3
    replace hv1 := hv1.below hc3
    obtain ⟨cT1, fT1, lT1⟩ := kT1.facts
    obtain ⟨A3, c3, B3, d3, rfl, _, _, _⟩ := id hv3
    simp only [tabV] at hv3 ⊢
    go_wp2_with fail
    refine (SameTable_eq 3 xl0 xe0 _ _ _ (hv1.alloc _) (hv3.alloc _) ex_s0 ex_len.1 ex_len.2.1).mono ?_
    rintro e w4 ⟨rfl, hb4⟩
    clear cT1 fT1 lT1
    have hc4 : Below w3.heap.size w3 w4 := bnext (balloc (Below.refl _ _) _) hb4
    replace kT1 := kT1.to hc4
    replace hL := hL.below hc4
    replace hv1 := hv1.below hc4
    replace hv3 := hv3.below hc4
    have kT3 := (Bk.new w3 #[.int .i64 3, .slice A3 (xl0).length c3 , .slice B3 (xe0).length d3] 25).to hb4
    obtain ⟨cT1, fT1, lT1⟩ := kT1.facts
    obtain ⟨cT3, fT3, lT3⟩ := kT3.facts
    go_wp2_with fail
    refine (example_any _ hL).mono ?_
    rintro e w5 ⟨v5, rfl, hv5, hb5⟩
    clear cT1 fT1 lT1 cT3 fT3 lT3
    have hc5 : Below w4.heap.size w4 w5 := bnext (Below.refl _ _) hb5
    replace kT1 := kT1.to hc5
    replace kT3 := kT3.to hc5
    replace hL := hL.below hc5
    replace hv1 := hv1.below hc5
    replace hv3 := hv3.below hc5
    obtain ⟨cT1, fT1, lT1⟩ := kT1.facts
    obtain ⟨cT3, fT3, lT3⟩ := kT3.facts
    obtain ⟨A5, c5, B5, d5, rfl, _, _, _⟩ := id hv5
    simp only [tabV] at hv5 ⊢
    clear kT1 kT3 hv1 hv3 cT1 fT1 lT1 cT3 fT3 lT3
    go_wp2_with fail
    refine (TNew_any (-1) _).mono ?_
    rw [kn4]
    rintro e w6 ⟨v6, rfl, hv6, hl6, hb6⟩
    have hc6 : Below w5.heap.size w5 w6 := bnext (balloc (Below.refl _ _) _) hb6
    replace hL := hL.below hc6
    replace hv5 := hv5.below hc6
    have kT5 := (Bk.new w5 #[.int .i64 3, .slice A5 (xl1).length c5 , .slice B5 (xe2).length d5] 25).to hb6
    obtain ⟨cT5, fT5, lT5⟩ := kT5.facts
    obtain ⟨A6, c6, B6, d6, rfl, _, _, _⟩ := id hv6
    simp only [tabV] at hv6 ⊢
    go_wp2_with fail
    refine (TSetLeaf_any 3 xl1 xe2 _ 1 8 _ (hv5.alloc _) ex_s2 (hL.alloc _)).mono ?_
    rw [kn5]
    rintro e w7 ⟨v7, rfl, hv7, hl7, hb7⟩
    clear cT5 fT5 lT5
    have hc7 : Below w6.heap.size w6 w7 := bnext (balloc (Below.refl _ _) _) hb7
    replace kT5 := kT5.to hc7
    replace hL := hL.below hc7
    replace hv5 := hv5.below hc7
    replace hv6 := hv6.below hc7
    have kT6 := (Bk.new w6 #[.int .i64 (-1), .slice A6 (xl0).length c6 , .slice B6 (xe0).length d6] 25).to hb7
    obtain ⟨cT5, fT5, lT5⟩ := kT5.facts
    obtain ⟨cT6, fT6, lT6⟩ := kT6.facts
    obtain ⟨A7, c7, B7, d7, rfl, _, _, _⟩ := id hv7
    simp only [tabV] at hv7 ⊢
    go_wp2_with fail
    refine (TSetLeaf_any 3 xl1 xe2 _ 2 7 _ hv5 ex_s2 hL).mono ?_
    rw [kn6]
    rintro e w8 ⟨v8, rfl, hv8, hl8, hb8⟩
    clear cT5 fT5 lT5 cT6 fT6 lT6
    have hc8 : Below w7.heap.size w7 w8 := bnext (Below.refl _ _) hb8
    replace kT5 := kT5.to hc8
    replace kT6 := kT6.to hc8
    replace hL := hL.below hc8
    replace hv5 := hv5.below hc8
    replace hv6 := hv6.below hc8
    obtain ⟨cT5, fT5, lT5⟩ := kT5.facts
    obtain ⟨cT6, fT6, lT6⟩ := kT6.facts
    obtain ⟨A8, c8, B8, d8, rfl, _, _, _⟩ := id hv8
    simp only [tabV] at hv8 ⊢
    go_wp2_with fail
    refine (TSetLeaf_any 3 xl1 xe2 _ 2 3 _ hv5 ex_s2 hL).mono ?_
    rw [kn7]
    rintro e w9 ⟨v9, rfl, hv9, hl9, hb9⟩
    clear cT5 fT5 lT5 cT6 fT6 lT6
    have hc9 : Below w8.heap.size w8 w9 := bnext (Below.refl _ _) hb9
    replace kT5 := kT5.to hc9
    replace kT6 := kT6.to hc9
    replace hL := hL.below hc9
    replace hv5 := hv5.below hc9
    replace hv6 := hv6.below hc9
    obtain ⟨cT5, fT5, lT5⟩ := kT5.facts
    obtain ⟨cT6, fT6, lT6⟩ := kT6.facts
    obtain ⟨A9, c9, B9, d9, rfl, _, _, _⟩ := id hv9
    simp only [tabV] at hv9 ⊢
    go_wp2_with fail
    refine (TSetLeaf_any (-1) xl0 xe0 _ 0 1 _ hv6 ex_s0 hL).mono ?_
    rw [kn8]
    rintro e w10 ⟨v10, rfl, hv10, hl10, hb10⟩
    clear cT5 fT5 lT5 cT6 fT6 lT6
    have hc10 : Below w9.heap.size w9 w10 := bnext (Below.refl _ _) hb10
    replace kT5 := kT5.to hc10
    replace kT6 := kT6.to hc10
    replace hL := hL.below hc10
    replace hv5 := hv5.below hc10
    replace hv6 := hv6.below hc10
    obtain ⟨cT5, fT5, lT5⟩ := kT5.facts
    obtain ⟨cT6, fT6, lT6⟩ := kT6.facts
    obtain ⟨A10, c10, B10, d10, rfl, _, _, _⟩ := id hv10
    simp only [tabV] at hv10 ⊢
    go_wp2_with fail
    refine (TClear_any 3 xl1 xe2 _ 9 _ (hv5.alloc _) ex_s2 (hL.alloc _)).mono ?_
    rw [kn9]
    rintro e w11 ⟨v11, rfl, hv11, hb11⟩
    clear cT5 fT5 lT5 cT6 fT6 lT6
    have hc11 : Below w10.heap.size w10 w11 := bnext (balloc (Below.refl _ _) _) hb11
    replace kT5 := kT5.to hc11
    replace kT6 := kT6.to hc11
    replace hL := hL.below hc11
    replace hv5 := hv5.below hc11
    replace hv6 := hv6.below hc11
    have kT10 := (Bk.new w10 #[.int .i64 0, .slice A10 0 c10, .slice B10 0 d10] 25).to hb11
    obtain ⟨cT5, fT5, lT5⟩ := kT5.facts
    obtain ⟨cT6, fT6, lT6⟩ := kT6.facts
    obtain ⟨cT10, fT10, lT10⟩ := kT10.facts
    obtain ⟨A11, c11, B11, d11, rfl, _, _, _⟩ := id hv11
    simp only [tabV] at hv11 ⊢
    go_wp2_with fail
    refine (TClear_any 3 xl1 xe3 _ 10 _ (hv11.alloc _) ex_s3 (hL.alloc _)).mono ?_
    rw [kn10]
    rintro e w12 ⟨v12, rfl, hv12, hb12⟩
    clear cT5 fT5 lT5 cT6 fT6 lT6 cT10 fT10 lT10
    have hc12 : Below w11.heap.size w11 w12 := bnext (balloc (Below.refl _ _) _) hb12
    replace kT5 := kT5.to hc12
    replace kT6 := kT6.to hc12
    replace kT10 := kT10.to hc12
    replace hL := hL.below hc12
    replace hv5 := hv5.below hc12
    replace hv6 := hv6.below hc12
    replace hv11 := hv11.below hc12
    have kT11 := (Bk.new w11 #[.int .i64 3, .slice A11 (xl1).length c11 , .slice B11 (xe3).length d11] 25).to hb12
    obtain ⟨cT5, fT5, lT5⟩ := kT5.facts
    obtain ⟨cT6, fT6, lT6⟩ := kT6.facts
    obtain ⟨cT10, fT10, lT10⟩ := kT10.facts
    obtain ⟨cT11, fT11, lT11⟩ := kT11.facts
    obtain ⟨A12, c12, B12, d12, rfl, _, _, _⟩ := id hv12
    simp only [tabV] at hv12 ⊢
    go_wp2_with fail
    refine (TClear_any 3 xl1 xe2 _ 11 _ (hv5.alloc _) ex_s2 (hL.alloc _)).mono ?_
    rw [kn11]
    rintro e w13 ⟨v13, rfl, hv13, hb13⟩
    clear cT5 fT5 lT5 cT6 fT6 lT6 cT10 fT10 lT10 cT11 fT11 lT11
    have hc13 : Below w12.heap.size w12 w13 := bnext (balloc (Below.refl _ _) _) hb13
    replace kT5 := kT5.to hc13
    replace kT6 := kT6.to hc13
    replace kT10 := kT10.to hc13
    replace kT11 := kT11.to hc13
    replace hL := hL.below hc13
    replace hv5 := hv5.below hc13
    replace hv6 := hv6.below hc13
    replace hv11 := hv11.below hc13
    replace hv12 := hv12.below hc13
    have kT12 := (Bk.new w12 #[.int .i64 3, .slice A12 (xl0).length c12 , .slice B12 (xe0).length d12] 25).to hb13
    obtain ⟨cT5, fT5, lT5⟩ := kT5.facts
    obtain ⟨cT6, fT6, lT6⟩ := kT6.facts
    obtain ⟨cT10, fT10, lT10⟩ := kT10.facts
    obtain ⟨cT11, fT11, lT11⟩ := kT11.facts
    obtain ⟨cT12, fT12, lT12⟩ := kT12.facts
    obtain ⟨A13, c13, B13, d13, rfl, _, _, _⟩ := id hv13
    simp only [tabV] at hv13 ⊢
    go_wp2_with fail
    refine (TFrames_any 3 xl0 xe0 _ _ hv12 ex_s0 hL).mono ?_
    rw [kn12]
    rintro e w14 ⟨v14, rfl, hi14, hb14⟩
    clear cT5 fT5 lT5 cT6 fT6 lT6 cT10 fT10 lT10 cT11 fT11 lT11 cT12 fT12 lT12
    have hc14 : Below w13.heap.size w13 w14 := bnext (Below.refl _ _) hb14
    replace kT5 := kT5.to hc14
    replace kT6 := kT6.to hc14
    replace kT10 := kT10.to hc14
    replace kT11 := kT11.to hc14
    replace kT12 := kT12.to hc14
    replace hL := hL.below hc14
    replace hv5 := hv5.below hc14
    replace hv6 := hv6.below hc14
    replace hv11 := hv11.below hc14
    replace hv12 := hv12.below hc14
    obtain ⟨cT5, fT5, lT5⟩ := kT5.facts
    obtain ⟨cT6, fT6, lT6⟩ := kT6.facts
    obtain ⟨cT10, fT10, lT10⟩ := kT10.facts
    obtain ⟨cT11, fT11, lT11⟩ := kT11.facts
    obtain ⟨cT12, fT12, lT12⟩ := kT12.facts
    go_wp2_with fail
    refine (SameInts_v [3] _ _ _ (hi14.alloc _) (IsV.new _ [3] _) (by decide)).mono ?_
    rintro e w15 ⟨rfl, hb15⟩
    clear cT5 fT5 lT5 cT6 fT6 lT6 cT10 fT10 lT10 cT11 fT11 lT11 cT12 fT12 lT12
    have hc15 : Below w14.heap.size w14 w15 := bnext (balloc (Below.refl _ _) _) hb15
    replace kT5 := kT5.to hc15
    replace kT6 := kT6.to hc15
    replace kT10 := kT10.to hc15
    replace kT11 := kT11.to hc15
    replace kT12 := kT12.to hc15
    replace hL := hL.below hc15
    replace hv5 := hv5.below hc15
    replace hv6 := hv6.below hc15
    replace hv11 := hv11.below hc15
    replace hv12 := hv12.below hc15
    replace hi14 := hi14.below hc15
    have kX := (Bk.new w14 #[.int .i64 3] 3).to hb15
    obtain ⟨cT5, fT5, lT5⟩ := kT5.facts
    obtain ⟨cT6, fT6, lT6⟩ := kT6.facts
    obtain ⟨cT10, fT10, lT10⟩ := kT10.facts
    obtain ⟨cT11, fT11, lT11⟩ := kT11.facts
    obtain ⟨cT12, fT12, lT12⟩ := kT12.facts
    obtain ⟨cX, fX, lX⟩ := kX.facts
    go_wp2_with fail
    refine (TSetLeaf_any 3 xl1 xe2 _ 0 9 _ hv5 ex_s2 hL).mono ?_
    rw [kn13]
    rintro e w16 ⟨v16, rfl, hv16, hl16, hb16⟩
    clear cT5 fT5 lT5 cT6 fT6 lT6 cT10 fT10 lT10 cT11 fT11 lT11 cT12 fT12 lT12 cX fX lX
    have hc16 : Below w15.heap.size w15 w16 := bnext (Below.refl _ _) hb16
    replace kT5 := kT5.to hc16
    replace kT6 := kT6.to hc16
    replace kT10 := kT10.to hc16
    replace kT11 := kT11.to hc16
    replace kT12 := kT12.to hc16
    replace kX := kX.to hc16
    replace hL := hL.below hc16
    replace hv5 := hv5.below hc16
    replace hv6 := hv6.below hc16
    replace hv11 := hv11.below hc16
    replace hv12 := hv12.below hc16
    replace hi14 := hi14.below hc16
    obtain ⟨cT5, fT5, lT5⟩ := kT5.facts
    obtain ⟨cT6, fT6, lT6⟩ := kT6.facts
    obtain ⟨cT10, fT10, lT10⟩ := kT10.facts
    obtain ⟨cT11, fT11, lT11⟩ := kT11.facts
    obtain ⟨cT12, fT12, lT12⟩ := kT12.facts
    obtain ⟨cX, fX, lX⟩ := kX.facts
    obtain ⟨A16, c16, B16, d16, rfl, _, _, _⟩ := id hv16
    simp only [tabV] at hv16 ⊢
    go_wp2_with fail
    refine (TTrim_any 3 xl2 xe2 _ _ (hv16.alloc _) ex_s2 (hL.alloc _)).mono ?_
    rw [kn14]
    rintro e w17 ⟨v17, u17, rfl, hv17, hi17, hb17⟩
    clear cT5 fT5 lT5 cT6 fT6 lT6 cT10 fT10 lT10 cT11 fT11 lT11 cT12 fT12 lT12 cX fX lX
    have hc17 : Below w16.heap.size w16 w17 := bnext (balloc (Below.refl _ _) _) hb17
    replace kT5 := kT5.to hc17
    replace kT6 := kT6.to hc17
    replace kT10 := kT10.to hc17
    replace kT11 := kT11.to hc17
    replace kT12 := kT12.to hc17
    replace kX := kX.to hc17
    replace hL := hL.below hc17
    replace hv5 := hv5.below hc17
    replace hv6 := hv6.below hc17
    replace hv11 := hv11.below hc17
    replace hv12 := hv12.below hc17
    replace hi14 := hi14.below hc17
    replace hv16 := hv16.below hc17
    have kT16 := (Bk.new w16 #[.int .i64 3, .slice A16 (xl2).length c16 , .slice B16 (xe2).length d16] 25).to hb17
    obtain ⟨cT5, fT5, lT5⟩ := kT5.facts
    obtain ⟨cT6, fT6, lT6⟩ := kT6.facts
    obtain ⟨cT10, fT10, lT10⟩ := kT10.facts
    obtain ⟨cT11, fT11, lT11⟩ := kT11.facts
    obtain ⟨cT12, fT12, lT12⟩ := kT12.facts
    obtain ⟨cX, fX, lX⟩ := kX.facts
    obtain ⟨cT16, fT16, lT16⟩ := kT16.facts
    obtain ⟨A17, c17, B17, d17, rfl, _, _, _⟩ := id hv17
    simp only [tabV] at hv17 ⊢
    go_wp2_with fail
    refine (TPages_any 3 xl1 xe2 _ 1 _ (hv5.alloc _) ex_s2 (hL.alloc _)).mono ?_
    rw [kn15]
    rintro e w18 ⟨v18, rfl, hi18, hb18⟩
    clear cT5 fT5 lT5 cT6 fT6 lT6 cT10 fT10 lT10 cT11 fT11 lT11 cT12 fT12 lT12 cX fX lX cT16 fT16 lT16
    have hc18 : Below w17.heap.size w17 w18 := bnext (balloc (Below.refl _ _) _) hb18
    replace kT5 := kT5.to hc18
    replace kT6 := kT6.to hc18
    replace kT10 := kT10.to hc18
    replace kT11 := kT11.to hc18
    replace kT12 := kT12.to hc18
    replace kX := kX.to hc18
    replace kT16 := kT16.to hc18
    replace hL := hL.below hc18
    replace hv5 := hv5.below hc18
    replace hv6 := hv6.below hc18
    replace hv11 := hv11.below hc18
    replace hv12 := hv12.below hc18
    replace hi14 := hi14.below hc18
    replace hv16 := hv16.below hc18
    replace hv17 := hv17.below hc18
    replace hi17 := hi17.below hc18
    have kT17 := (Bk.new w17 #[.int .i64 3, .slice A17 (xl1).length c17 , .slice B17 (xe2).length d17] 25).to hb18
    obtain ⟨cT5, fT5, lT5⟩ := kT5.facts
    obtain ⟨cT6, fT6, lT6⟩ := kT6.facts
    obtain ⟨cT10, fT10, lT10⟩ := kT10.facts
    obtain ⟨cT11, fT11, lT11⟩ := kT11.facts
    obtain ⟨cT12, fT12, lT12⟩ := kT12.facts
    obtain ⟨cX, fX, lX⟩ := kX.facts
    obtain ⟨cT16, fT16, lT16⟩ := kT16.facts
    obtain ⟨cT17, fT17, lT17⟩ := kT17.facts
    go_wp2_with fail
    refine (TPages_any 3 xl1 xe2 _ 3 _ hv5 ex_s2 hL).mono ?_
    rw [kn16]
    rintro e w19 ⟨v19, rfl, hi19, hb19⟩
    clear cT5 fT5 lT5 cT6 fT6 lT6 cT10 fT10 lT10 cT11 fT11 lT11 cT12 fT12 lT12 cX fX lX cT16 fT16 lT16 cT17 fT17 lT17
    have hc19 : Below w18.heap.size w18 w19 := bnext (Below.refl _ _) hb19
    replace kT5 := kT5.to hc19
    replace kT6 := kT6.to hc19
    replace kT10 := kT10.to hc19
    replace kT11 := kT11.to hc19
    replace kT12 := kT12.to hc19
    replace kX := kX.to hc19
    replace kT16 := kT16.to hc19
    replace kT17 := kT17.to hc19
    replace hL := hL.below hc19
    replace hv5 := hv5.below hc19
    replace hv6 := hv6.below hc19
    replace hv11 := hv11.below hc19
    replace hv12 := hv12.below hc19
    replace hi14 := hi14.below hc19
    replace hv16 := hv16.below hc19
    replace hv17 := hv17.below hc19
    replace hi17 := hi17.below hc19
    replace hi18 := hi18.below hc19
    obtain ⟨cT5, fT5, lT5⟩ := kT5.facts
    obtain ⟨cT6, fT6, lT6⟩ := kT6.facts
    obtain ⟨cT10, fT10, lT10⟩ := kT10.facts
    obtain ⟨cT11, fT11, lT11⟩ := kT11.facts
    obtain ⟨cT12, fT12, lT12⟩ := kT12.facts
    obtain ⟨cX, fX, lX⟩ := kX.facts
    obtain ⟨cT16, fT16, lT16⟩ := kT16.facts
    obtain ⟨cT17, fT17, lT17⟩ := kT17.facts
    go_wp2_with fail
    refine (SameTable_eq 3 xl1 xe2 _ _ _ hv17 hv5 ex_s2 ex_len.2.2.1 ex_len.2.2.2).mono ?_
    rintro e w20 ⟨rfl, hb20⟩
    clear cT5 fT5 lT5 cT6 fT6 lT6 cT10 fT10 lT10 cT11 fT11 lT11 cT12 fT12 lT12 cX fX lX cT16 fT16 lT16 cT17 fT17 lT17
    have hc20 : Below w19.heap.size w19 w20 := bnext (Below.refl _ _) hb20
    replace kT5 := kT5.to hc20
    replace kT6 := kT6.to hc20
    replace kT10 := kT10.to hc20
    replace kT11 := kT11.to hc20
    replace kT12 := kT12.to hc20
    replace kX := kX.to hc20
    replace kT16 := kT16.to hc20
    replace kT17 := kT17.to hc20
    replace hL := hL.below hc20
    replace hv5 := hv5.below hc20
    replace hv6 := hv6.below hc20
    replace hv11 := hv11.below hc20
    replace hv12 := hv12.below hc20
    replace hi14 := hi14.below hc20
    replace hv16 := hv16.below hc20
    replace hv17 := hv17.below hc20
    replace hi17 := hi17.below hc20
    replace hi18 := hi18.below hc20
    obtain ⟨cT5, fT5, lT5⟩ := kT5.facts
    obtain ⟨cT6, fT6, lT6⟩ := kT6.facts
    obtain ⟨cT10, fT10, lT10⟩ := kT10.facts
    obtain ⟨cT11, fT11, lT11⟩ := kT11.facts
    obtain ⟨cT12, fT12, lT12⟩ := kT12.facts
    obtain ⟨cX, fX, lX⟩ := kX.facts
    obtain ⟨cT16, fT16, lT16⟩ := kT16.facts
    obtain ⟨cT17, fT17, lT17⟩ := kT17.facts
    go_wp2_with fail
    refine (SameInts_v [9] _ _ _ (hi17.alloc _) (IsV.new _ [9] _) (by decide)).mono ?_
    rintro e w21 ⟨rfl, hb21⟩
    clear cT5 fT5 lT5 cT6 fT6 lT6 cT10 fT10 lT10 cT11 fT11 lT11 cT12 fT12 lT12 cX fX lX cT16 fT16 lT16 cT17 fT17 lT17
    have hc21 : Below w20.heap.size w20 w21 := bnext (balloc (Below.refl _ _) _) hb21
    replace kT5 := kT5.to hc21
    replace kT6 := kT6.to hc21
    replace kT10 := kT10.to hc21
    replace kT11 := kT11.to hc21
    replace kT12 := kT12.to hc21
    replace kX := kX.to hc21
    replace kT16 := kT16.to hc21
    replace kT17 := kT17.to hc21
    replace hL := hL.below hc21
    replace hv5 := hv5.below hc21
    replace hv6 := hv6.below hc21
    replace hv11 := hv11.below hc21
    replace hv12 := hv12.below hc21
    replace hi14 := hi14.below hc21
    replace hv16 := hv16.below hc21
    replace hv17 := hv17.below hc21
    replace hi17 := hi17.below hc21
    replace hi18 := hi18.below hc21
    have kY := (Bk.new w20 #[.int .i64 9] 3).to hb21
    obtain ⟨cT5, fT5, lT5⟩ := kT5.facts
    obtain ⟨cT6, fT6, lT6⟩ := kT6.facts
    obtain ⟨cT10, fT10, lT10⟩ := kT10.facts
    obtain ⟨cT11, fT11, lT11⟩ := kT11.facts
    obtain ⟨cT12, fT12, lT12⟩ := kT12.facts
    obtain ⟨cX, fX, lX⟩ := kX.facts
    obtain ⟨cT16, fT16, lT16⟩ := kT16.facts
    obtain ⟨cT17, fT17, lT17⟩ := kT17.facts
    obtain ⟨cY, fY, lY⟩ := kY.facts
    go_wp2_with fail
    refine (SameInts_v [9] _ _ _ (hi18.alloc _) (IsV.new _ [9] _) (by decide)).mono ?_
    rintro e w22 ⟨rfl, hb22⟩
    clear cT5 fT5 lT5 cT6 fT6 lT6 cT10 fT10 lT10 cT11 fT11 lT11 cT12 fT12 lT12 cX fX lX cT16 fT16 lT16 cT17 fT17 lT17 cY fY lY
    have hc22 : Below w21.heap.size w21 w22 := bnext (balloc (Below.refl _ _) _) hb22
    replace kT5 := kT5.to hc22
    replace kT6 := kT6.to hc22
    replace kT10 := kT10.to hc22
    replace kT11 := kT11.to hc22
    replace kT12 := kT12.to hc22
    replace kX := kX.to hc22
    replace kT16 := kT16.to hc22
    replace kT17 := kT17.to hc22
    replace kY := kY.to hc22
    replace hL := hL.below hc22
    replace hv5 := hv5.below hc22
    replace hv6 := hv6.below hc22
    replace hv11 := hv11.below hc22
    replace hv12 := hv12.below hc22
    replace hi14 := hi14.below hc22
    replace hv16 := hv16.below hc22
    replace hv17 := hv17.below hc22
    replace hi17 := hi17.below hc22
    replace hi18 := hi18.below hc22
    have kZ := (Bk.new w21 #[.int .i64 9] 3).to hb22
    obtain ⟨cT5, fT5, lT5⟩ := kT5.facts
    obtain ⟨cT6, fT6, lT6⟩ := kT6.facts
    obtain ⟨cT10, fT10, lT10⟩ := kT10.facts
    obtain ⟨cT11, fT11, lT11⟩ := kT11.facts
    obtain ⟨cT12, fT12, lT12⟩ := kT12.facts
    obtain ⟨cX, fX, lX⟩ := kX.facts
    obtain ⟨cT16, fT16, lT16⟩ := kT16.facts
    obtain ⟨cT17, fT17, lT17⟩ := kT17.facts
    obtain ⟨cY, fY, lY⟩ := kY.facts
    obtain ⟨cZ, fZ, lZ⟩ := kZ.facts
    go_wp2_with fail
    refine (awake_true _ hL).mono ?_
    rintro e w23 ⟨rfl, hb23⟩
    clear cT5 fT5 lT5 cT6 fT6 lT6 cT10 fT10 lT10 cT11 fT11 lT11 cT12 fT12 lT12 cX fX lX cT16 fT16 lT16 cT17 fT17 lT17 cY fY lY cZ fZ lZ
    have hc23 : Below w22.heap.size w22 w23 := bnext (Below.refl _ _) hb23
    replace kT5 := kT5.to hc23
    replace kT6 := kT6.to hc23
    replace kT10 := kT10.to hc23
    replace kT11 := kT11.to hc23
    replace kT12 := kT12.to hc23
    replace kX := kX.to hc23
    replace kT16 := kT16.to hc23
    replace kT17 := kT17.to hc23
    replace kY := kY.to hc23
    replace kZ := kZ.to hc23
    replace hL := hL.below hc23
    replace hv5 := hv5.below hc23
    replace hv6 := hv6.below hc23
    replace hv11 := hv11.below hc23
    replace hv12 := hv12.below hc23
    replace hi14 := hi14.below hc23
    replace hv16 := hv16.below hc23
    replace hv17 := hv17.below hc23
    replace hi17 := hi17.below hc23
    replace hi18 := hi18.below hc23
    obtain ⟨cT5, fT5, lT5⟩ := kT5.facts
    obtain ⟨cT6, fT6, lT6⟩ := kT6.facts
    obtain ⟨cT10, fT10, lT10⟩ := kT10.facts
    obtain ⟨cT11, fT11, lT11⟩ := kT11.facts
    obtain ⟨cT12, fT12, lT12⟩ := kT12.facts
    obtain ⟨cX, fX, lX⟩ := kX.facts
    obtain ⟨cT16, fT16, lT16⟩ := kT16.facts
    obtain ⟨cT17, fT17, lT17⟩ := kT17.facts
    obtain ⟨cY, fY, lY⟩ := kY.facts
    obtain ⟨cZ, fZ, lZ⟩ := kZ.facts
    go_wp2_with fail
    go_ret
    exact ⟨rfl, by exact bnext (bnext (bnext (bnext (bnext (bnext (bnext (bnext (bnext (bnext (bnext (bnext (bnext (bnext (bnext (bnext (bnext (bnext (bnext (bnext (bnext hBC hc3) hc4) hc5) hc6) hc7) hc8) hc9) hc10) hc11) hc12) hc13) hc14) hc15) hc16) hc17) hc18) hc19) hc20) hc21) hc22) hc23⟩
end Go.Proofs.YtnmknbnidfmmoaaDoor
