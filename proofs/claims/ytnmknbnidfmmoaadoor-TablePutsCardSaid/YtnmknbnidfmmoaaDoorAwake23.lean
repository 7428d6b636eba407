/- The chapter's example of a page table. -/
import Derived.Test.YtnmknbnidfmmoaaDoorTab21
import Derived.Deep.DeepCutAuto
import Derived.Deep.CutBlock
import Derived.Deep.RegionHeld3
import Derived.Deep.RegionHeld3
import Derived.Deep.RegionHeld3
import Derived.Deep.RegionHeld3
namespace Go.Proofs.YtnmknbnidfmmoaaDoor
open Go Go.Proofs Go.RowKit
set_option linter.unusedSimpArgs false
set_option linter.unusedVariables false
set_option maxRecDepth 100000

/-- Leaves and entries of the examples. -/
def xl0 : List Int := List.replicate 8 (-1)
def xl1 : List Int := xl0.set 1 7
def xe0 : List Nat := List.replicate 64 0
def xe1 : List Nat := xe0.set 9 1285
def xe2 : List Nat := xe1.set 10 514
theorem ex_new : newR 3 = ((3, xl0, xe0), 0) := by decide +kernel
theorem ex_leaf : leafR 3 xl0 xe0 1 7 = ((3, xl1, xe0), 0) := by decide +kernel
theorem ex_put1 : putR 3 xl1 xe0 9 1 5 true false false = ((3, xl1, xe1), 0) := by decide +kernel
theorem ex_put2 : putR 3 xl1 xe1 10 2 2 false false false = ((3, xl1, xe2), 0) := by decide +kernel
theorem ex_frm : frmR 3 xl1 xe2 = ([7, 3], 0) := by decide +kernel
theorem ex_cnt : cntR 3 xl1 xe2 = (1, 1, 0) := by decide +kernel
theorem ex_s0 : wsmall xe0 := by unfold wsmall; decide +kernel
theorem ex_s1 : wsmall xe1 := by unfold wsmall; decide +kernel
theorem ex_s2 : wsmall xe2 := by unfold wsmall; decide +kernel

set_option maxHeartbeats 8000000 in
theorem example_any (w : World) (hL : LayOK w) :
    Calls Tryd.prog 42 #[] w fun e w' => ∃ v, e = .returned (.tuple #[v, .bool true]) ∧ TbV w' v (3, xl1, xe2) ∧ Below w.heap.size w w' := by
  have hB0 := Below.refl w.heap.size w
  go_enter Tryd.func42, Tryd.ntmps42
  go_wp2_with fail
  refine (TNew_any 3 _).mono ?_
  rw [ex_new]
  rintro e w1 ⟨v1, rfl, hv1, hl1, hb1⟩
  have hc1 : Below w.heap.size w w1 := bnext (balloc (Below.refl _ _) _) hb1
  replace hL := hL.below hc1
  have kR := (Bk.new w #[.int .i64 0, .slice none 0 0, .slice none 0 0] 25).to hb1
  obtain ⟨cR, fR, lR⟩ := kR.facts
  obtain ⟨A1, c1, B1, d1, rfl, _, _, _⟩ := id hv1
  simp only [tabV] at hv1 ⊢
  go_wp2_with fail
  refine (TSetLeaf_any 3 xl0 xe0 _ 1 7 _ (hv1.alloc _) ex_s0 (hL.alloc _)).mono ?_
  rw [ex_leaf]
  rintro e w2 ⟨v2, rfl, hv2, hl2, hb2⟩
  clear cR fR lR
  have hc2 : Below w1.heap.size w1 w2 := bnext (balloc (Below.refl _ _) _) hb2
  replace kR := kR.to hc2
  replace hL := hL.below hc2
  replace hv1 := hv1.below hc2
  have kT1 := (Bk.new w1 #[.int .i64 3, .slice A1 (xl0).length c1 , .slice B1 (xe0).length d1] 25).to hb2
  obtain ⟨cR, fR, lR⟩ := kR.facts
  obtain ⟨cT1, fT1, lT1⟩ := kT1.facts
  obtain ⟨A2, c2, B2, d2, rfl, _, _, _⟩ := id hv2
  simp only [tabV] at hv2 ⊢
  go_wp2_with fail
  have kT2 := Bk.new (w2) #[.int .i64 3, .slice A2 (xl1).length c2 , .slice B2 (xe0).length d2] 25
  clear cR fR lR cT1 fT1 lT1
  have hc_wS : Below w2.heap.size w2 ((w2).alloc (.cells #[.int .i64 3, .slice A2 (xl1).length c2 , .slice B2 (xe0).length d2] 25)) := balloc (Below.refl _ _) (.cells #[.int .i64 3, .slice A2 (xl1).length c2 , .slice B2 (xe0).length d2] 25)
  replace kR := kR.to hc_wS
  replace kT1 := kT1.to hc_wS
  replace hL := hL.below hc_wS
  replace hv1 := hv1.below hc_wS
  replace hv2 := hv2.below hc_wS
  generalize (w2).alloc (.cells #[.int .i64 3, .slice A2 (xl1).length c2 , .slice B2 (xe0).length d2] 25) = wS at *
  have hBS : Below w.heap.size w wS := bnext (bnext hc1 hc2) hc_wS
  clear hc1 hc2 hc_wS hb1 hb2 hl1 hl2 kT1 hv1 hB0
  obtain ⟨cT2, fT2, lT2⟩ := kT2.facts
  have cT20 := cT2 0
  have cT21 := cT2 1
  have cT22 := cT2 2
  simp at cT20 cT21 cT22
  clear cT2 fT2
  go_cut [6, 7] (fun sa sb wx => ∃ p, sa = .pointer (some ⟨p, 0, none⟩) ∧ sb = .int .i64 0 ∧ TbX wx p (3, xl1, xe1) wS.heap.size ∧ Below wS.heap.size wS wx)
  case first =>
    go_region_held3 (fun w' => w'.cell? ⟨w2.heap.size, 0, none⟩ = some (.int .i64 3) ∧ w'.cell? ⟨w2.heap.size, 1, none⟩ = some (.slice A2 xl1.length c2) ∧ w'.cell? ⟨w2.heap.size, 2, none⟩ = some (.slice B2 xe0.length d2))
      (refine ⟨?_, ?_, ?_⟩ <;> (repeat (with_reducible first | exact cT20 | exact cT21 | exact cT22 | refine cell_drew ?_ | refine cell_later hbP ?_ | refine cell_later hbQ ?_ | refine cell_alloc _ ?_ | refine cell_far ?_ (by show _ ≠ _; simp only; omega) _)))
      (first
        | (go_at_call 41; refine (page5_any _).mono ?_; rintro e wP ⟨rfl, hbP⟩; have hsP : wS.heap.size ≤ wP.heap.size := Nat.le_trans (by first | exact Nat.le_refl _ | (simp only [World.size_alloc, World.size_drew]; omega)) hbP.size)
        | (go_at_call 29; refine (TPut_any 3 xl1 xe0 _ 9 1 5 true false false _ (by repeat (with_reducible first | exact hv2 | refine TbV.drew ?_ | refine TbV.alloc ?_ _ | refine TbV.to ?_ hbP)) ex_s0 (by repeat (with_reducible first | exact hL | refine LayOK.drew ?_ | refine LayOK.alloc ?_ _ | refine LayOK.below ?_ hbP))).mono ?_; rw [ex_put1]; rintro e wQ ⟨vQ, rfl, hvQ, hlQ, hbQ⟩; obtain ⟨AQ, cQ, BQ, dQ, rfl, _, _, _⟩ := id hvQ; simp only [tabV] at hvQ hlQ ⊢
           first
             | (have kN := ((Bk.newd wS #[.int .i64 0, .slice none 0 0, .slice none 0 0] 25).to hbP).to hbQ; obtain ⟨cN, fN, lN⟩ := kN.facts; have hNl := (Bk.newd wS #[.int .i64 0, .slice none 0 0, .slice none 0 0] 25).lt; have hNP := hbP.size)
             | (have kN := (Bk.new wP #[.int .i64 0, .slice none 0 0, .slice none 0 0] 25).to hbQ; obtain ⟨cN, fN, lN⟩ := kN.facts)
             | skip))
    all_goals
      go_wp2_with fail
      go_meet
      first
        | exact ⟨_, rfl, rfl, ⟨AQ, cQ, BQ, dQ, Bk.new _ _ _, hvQ.alloc _, hlQ.mono (by first | exact hsP | (simp only [World.size_alloc, World.size_drew]; omega))⟩, by repeat (with_reducible first | exact Below.refl _ _ | refine bnext ?_ hbQ | refine bnext ?_ hbP | refine below_drew ?_ | refine balloc ?_ _)⟩
        | exact ⟨_, rfl, rfl, ⟨AQ, cQ, BQ, dQ, kN.put3 _ _ _, tbv_put3 hvQ hlQ (by first | exact Nat.lt_of_lt_of_le hNl hNP | (simp only [World.size_alloc, World.size_drew]; omega)) _ _ _, hlQ.mono (by first | exact hsP | (simp only [World.size_alloc, World.size_drew]; omega))⟩, below_put3 (by repeat (with_reducible first | exact Below.refl _ _ | refine bnext ?_ hbQ | refine bnext ?_ hbP | refine below_drew ?_ | refine balloc ?_ _)) (by first | exact Nat.le_refl _ | exact hsP) _ _ _⟩
  case rest =>
    obtain ⟨C_p, rfl, rfl, ⟨AC, cC, BC, dC, kC, hvC, hlC⟩, hcC⟩ := hcut
    replace kR := kR.to hcC
    replace kT2 := kT2.to hcC
    replace hL := hL.below hcC
    replace hv2 := hv2.below hcC
    clear cT20 cT21 cT22 lT2
    simp only at kC hvC
    have hBC : Below w.heap.size w wc := bnext hBS hcC
    clear hBS hcC kT2 hv2
    generalize wc = wD at *
    have hwD : w.heap.size < wD.heap.size := kR.lt
    go_wp2_with fail
    obtain ⟨cC, fC, lC⟩ := kC.facts
    have cC0 := cC 0
    have cC1 := cC 1
    have cC2 := cC 2
    simp at cC0 cC1 cC2
    clear cC fC
    go_cut [8, 9] (fun sa sb wx => ∃ p, sa = .pointer (some ⟨p, 0, none⟩) ∧ sb = .int .i64 0 ∧ TbX wx p (3, xl1, xe2) wD.heap.size ∧ Below wD.heap.size wD wx)
    case first =>
      go_region_held3 (fun w' => w'.cell? ⟨C_p, 0, none⟩ = some (.int .i64 3) ∧ w'.cell? ⟨C_p, 1, none⟩ = some (.slice AC (xl1).length cC) ∧ w'.cell? ⟨C_p, 2, none⟩ = some (.slice BC (xe1).length dC))
        (refine ⟨?_, ?_, ?_⟩ <;> (repeat (with_reducible first | exact cC0 | exact cC1 | exact cC2 | refine cell_drew ?_ | refine cell_later hbP ?_ | refine cell_later hbQ ?_ | refine cell_alloc _ ?_ | refine cell_far ?_ (by show _ ≠ _; simp only; omega) _)))
        (first
          | (go_at_call 62; refine (slot2_any _).mono ?_; rintro e wP ⟨rfl, hbP⟩; have hsP : wD.heap.size ≤ wP.heap.size := Nat.le_trans (by first | exact Nat.le_refl _ | (simp only [World.size_alloc, World.size_drew]; omega)) hbP.size)
          | (go_at_call 29; refine (TPut_any 3 xl1 xe1 _ 10 2 2 false false false _ (by repeat (with_reducible first | exact hvC | refine TbV.drew ?_ | refine TbV.alloc ?_ _ | refine TbV.to ?_ hbP)) ex_s1 (by repeat (with_reducible first | exact hL | refine LayOK.drew ?_ | refine LayOK.alloc ?_ _ | refine LayOK.below ?_ hbP))).mono ?_; rw [ex_put2]; rintro e wQ ⟨vQ, rfl, hvQ, hlQ, hbQ⟩; obtain ⟨AQ, cQ, BQ, dQ, rfl, _, _, _⟩ := id hvQ; simp only [tabV] at hvQ hlQ ⊢
             first
               | (have kN := ((Bk.newd wD #[.int .i64 0, .slice none 0 0, .slice none 0 0] 25).to hbP).to hbQ; obtain ⟨cN, fN, lN⟩ := kN.facts; have hNl := (Bk.newd wD #[.int .i64 0, .slice none 0 0, .slice none 0 0] 25).lt; have hNP := hbP.size)
               | (have kN := (Bk.new wP #[.int .i64 0, .slice none 0 0, .slice none 0 0] 25).to hbQ; obtain ⟨cN, fN, lN⟩ := kN.facts)
               | skip))
      all_goals
        go_wp2_with fail
        go_meet
        first
          | exact ⟨_, rfl, rfl, ⟨AQ, cQ, BQ, dQ, Bk.new _ _ _, hvQ.alloc _, hlQ.mono (by first | exact hsP | (simp only [World.size_alloc, World.size_drew]; omega))⟩, by repeat (with_reducible first | exact Below.refl _ _ | refine bnext ?_ hbQ | refine bnext ?_ hbP | refine below_drew ?_ | refine balloc ?_ _)⟩
          | exact ⟨_, rfl, rfl, ⟨AQ, cQ, BQ, dQ, kN.put3 _ _ _, tbv_put3 hvQ hlQ (by first | exact Nat.lt_of_lt_of_le hNl hNP | (simp only [World.size_alloc, World.size_drew]; omega)) _ _ _, hlQ.mono (by first | exact hsP | (simp only [World.size_alloc, World.size_drew]; omega))⟩, below_put3 (by repeat (with_reducible first | exact Below.refl _ _ | refine bnext ?_ hbQ | refine bnext ?_ hbP | refine below_drew ?_ | refine balloc ?_ _)) (by first | exact Nat.le_refl _ | exact hsP) _ _ _⟩
    case rest =>
      obtain ⟨D_p, rfl, rfl, ⟨AD, cD, BD, dD, kD, hvD, hlD⟩, hcD⟩ := hcut
      replace kR := kR.to hcD
      replace kC := kC.to hcD
      replace hL := hL.below hcD
      replace hvC := hvC.below hcD
      clear cC0 cC1 cC2 lC
      simp only at kD hvD
      have hBD : Below w.heap.size w wc := bnext hBC hcD
      obtain ⟨cR, fR, lR⟩ := kR.facts
      obtain ⟨cD', fD', lD'⟩ := kD.facts
      go_wp2_with fail
      have kF := kR.put3 (.int .i64 3) (.slice AD xl1.length cD) (.slice BD xe2.length dD)
      have hvF := tbv_put3 hvD hlD (g := w.heap.size) (by have := hBC.size; have := hwD; omega) (.int .i64 3) (.slice AD xl1.length cD) (.slice BD xe2.length dD)
      have hBF := below_put3 hBD (g := w.heap.size) (Nat.le_refl _) (.int .i64 3) (.slice AD xl1.length cD) (.slice BD xe2.length dD)
      exact bodyPost_ret (kF.res2 (P := Tryd.prog) rfl _ rfl (by kernel_rfl) (by kernel_rfl)) rfl ⟨_, rfl, hvF, hBF⟩
end Go.Proofs.YtnmknbnidfmmoaaDoor
