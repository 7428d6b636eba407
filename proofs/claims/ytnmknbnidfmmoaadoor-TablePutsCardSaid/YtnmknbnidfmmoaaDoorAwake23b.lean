/- The examples that each statement of chapter 23 asks. -/
import Derived.Test.YtnmknbnidfmmoaaDoorAwake23
import Derived.Test.YtnmknbnidfmmoaaDoorTab13
import Derived.Deep.RegionHeld3
import Derived.Deep.DeepCutAuto
namespace Go.Proofs.YtnmknbnidfmmoaaDoor
open Go Go.Proofs Go.RowKit
set_option linter.unusedSimpArgs false
set_option linter.unusedVariables false
set_option maxRecDepth 100000

set_option maxHeartbeats 8000000 in
theorem awake_true (w : World) (hL : LayOK w) :
    Calls Tryd.prog 10 #[] w fun e w' => e = .returned (.bool true) ∧ Below w.heap.size w w' := by
  go_enter Tryd.func10, Tryd.ntmps10
  go_wp2_with fail
  refine (example_any _ hL).mono ?_
  rintro e w1 ⟨v1, rfl, hv1, hb1⟩
  have hc1 : Below w.heap.size w w1 := bnext (Below.refl _ _) hb1
  replace hL := hL.below hc1
  obtain ⟨A1, c1, B1, d1, rfl, _, _, _⟩ := id hv1
  simp only [tabV] at hv1 ⊢
  go_wp2_with fail
  refine (TFrames_any 3 xl1 xe2 _ _ (hv1.alloc _) ex_s2 (hL.alloc _)).mono ?_
  rw [ex_frm]
  rintro e w2 ⟨v2, rfl, hi2, hb2⟩
  have hc2 : Below w1.heap.size w1 w2 := bnext (balloc (Below.refl _ _) _) hb2
  replace hL := hL.below hc2
  replace hv1 := hv1.below hc2
  have kT1 := (Bk.new w1 #[.int .i64 3, .slice A1 (xl1).length c1 , .slice B1 (xe2).length d1] 25).to hb2
  obtain ⟨cT1, fT1, lT1⟩ := kT1.facts
  go_wp2_with fail
  refine (TCounts_any 3 xl1 xe2 _ _ hv1 ex_s2 hL).mono ?_
  rw [ex_cnt]
  rintro e w3 ⟨rfl, hb3⟩
  clear cT1 fT1 lT1
  have hc3 : Below w2.heap.size w2 w3 := bnext (Below.refl _ _) hb3
  replace kT1 := kT1.to hc3
  replace hL := hL.below hc3
  replace hv1 := hv1.below hc3
  replace hi2 := hi2.below hc3
  obtain ⟨cT1, fT1, lT1⟩ := kT1.facts
  go_wp2_with fail
  refine (SameInts_v [7, 3] _ _ _ (hi2.alloc _) (IsV.new _ [7, 3] _) (by decide)).mono ?_
  rintro e w4 ⟨rfl, hb4⟩
  clear cT1 fT1 lT1
  have hc4 : Below w3.heap.size w3 w4 := bnext (balloc (Below.refl _ _) _) hb4
  replace kT1 := kT1.to hc4
  replace hL := hL.below hc4
  replace hv1 := hv1.below hc4
  replace hi2 := hi2.below hc4
  have kX := (Bk.new w3 #[.int .i64 7, .int .i64 3] 3).to hb4
  obtain ⟨cT1, fT1, lT1⟩ := kT1.facts
  obtain ⟨cX, fX, lX⟩ := kX.facts
  go_wp2_with fail
  go_ret
  exact ⟨rfl, by (repeat' (first | exact Below.refl _ _ | assumption | refine balloc ?_ _ | refine below_drawn ?_ _ | refine below_drew ?_ | refine bnext ?_ hb24 | refine bnext ?_ hb23 | refine bnext ?_ hb22 | refine bnext ?_ hb21 | refine bnext ?_ hb20 | refine bnext ?_ hb19 | refine bnext ?_ hb18 | refine bnext ?_ hb17 | refine bnext ?_ hb16 | refine bnext ?_ hb15 | refine bnext ?_ hb14 | refine bnext ?_ hb13 | refine bnext ?_ hb12 | refine bnext ?_ hb11 | refine bnext ?_ hb10 | refine bnext ?_ hb9 | refine bnext ?_ hb8 | refine bnext ?_ hb7 | refine bnext ?_ hb6 | refine bnext ?_ hb5 | refine bnext ?_ hb4 | refine bnext ?_ hb3 | refine bnext ?_ hb2 | refine bnext ?_ hb1))⟩
end Go.Proofs.YtnmknbnidfmmoaaDoor
