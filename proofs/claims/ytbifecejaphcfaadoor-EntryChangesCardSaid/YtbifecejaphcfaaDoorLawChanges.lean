/- EntryChanges returns true for every word, flag and number. -/
import Derived.Test.YtbifecejaphcfaaDoorAwake02
import Derived.Deep.RegionHeld3
namespace Go.Proofs.YtbifecejaphcfaaDoor
open Go Go.Proofs Go.RowKit
set_option linter.unusedSimpArgs false
set_option linter.unusedVariables false

set_option maxRecDepth 100000 in
set_option maxHeartbeats 4000000 in
theorem EntryChanges_true (x : Nat) (on : Bool) (m : Int) (w : World) (hx : x < 18446744073709551616) (hL : LayOK w) (hP : PowOK w) :
    Calls Tryd.prog 5 #[.int .u64 x, .bool on, .int .i64 m] w fun e w' => e = .returned (.bool true) ∧ Below w.heap.size w w' := by
  have h1 := fun w h h' => Write_any x on w h h'
  have h2 := fun w h => rWrite_any x on w h
  have h3 := fun w h h' => Refer_any x on w h h'
  have h4 := fun w h => rRefer_any x on w h
  have h5 := fun w h h' => Move_any x m w h h'
  have h6 := fun w h => rMove_any x m w h
  generalize writeR x on = r1 at h1 h2
  generalize referR x on = r2 at h3 h4
  generalize moveR x m = r3 at h5 h6
  obtain ⟨a1, e1⟩ := r1
  obtain ⟨a2, e2⟩ := r2
  obtain ⟨a3, e3⟩ := r3
  have H1 := Lib.hid h1
  have H2 := Lib.hid h2
  have H3 := Lib.hid h3
  have H4 := Lib.hid h4
  have H5 := Lib.hid h5
  have H6 := Lib.hid h6
  clear h1 h2 h3 h4 h5 h6
  go_enter Tryd.func5, Tryd.ntmps5
  go_wp2_with fail
  refine (H1.out _ hx hL).mono ?_
  rintro e w1 ⟨rfl, hb1⟩
  have hc1 : Below w.heap.size w w1 := bnext (Below.refl _ _) hb1
  replace hL := hL.below hc1
  replace hP := hP.below hc1
  go_wp2_with fail
  refine (H2.out _ hx).mono ?_
  rintro e w2 ⟨rfl, hb2⟩
  have hc2 : Below w1.heap.size w1 w2 := bnext (Below.refl _ _) hb2
  replace hL := hL.below hc2
  replace hP := hP.below hc2
  go_wp2_with fail
  refine (H3.out _ hx hL).mono ?_
  rintro e w3 ⟨rfl, hb3⟩
  have hc3 : Below w2.heap.size w2 w3 := bnext (Below.refl _ _) hb3
  replace hL := hL.below hc3
  replace hP := hP.below hc3
  go_wp2_with fail
  refine (H4.out _ hx).mono ?_
  rintro e w4 ⟨rfl, hb4⟩
  have hc4 : Below w3.heap.size w3 w4 := bnext (Below.refl _ _) hb4
  replace hL := hL.below hc4
  replace hP := hP.below hc4
  go_wp2_with fail
  refine (H5.out _ hx hL).mono ?_
  rintro e w5 ⟨rfl, hb5⟩
  have hc5 : Below w4.heap.size w4 w5 := bnext (Below.refl _ _) hb5
  replace hL := hL.below hc5
  replace hP := hP.below hc5
  go_wp2_with fail
  refine (H6.out _ hx).mono ?_
  rintro e w6 ⟨rfl, hb6⟩
  have hc6 : Below w5.heap.size w5 w6 := bnext (Below.refl _ _) hb6
  replace hL := hL.below hc6
  replace hP := hP.below hc6
  go_wp2_with fail
  refine (awake_true _ hL hP).mono ?_
  rintro e w7 ⟨rfl, hb7⟩
  have hc7 : Below w6.heap.size w6 w7 := bnext (Below.refl _ _) hb7
  replace hL := hL.below hc7
  replace hP := hP.below hc7
  go_wp2_with fail
  go_ret
  exact ⟨rfl, by (repeat' (first | exact Below.refl _ _ | assumption | refine balloc ?_ _ | refine below_drawn ?_ _ | refine below_drew ?_ | refine bnext ?_ hb24 | refine bnext ?_ hb23 | refine bnext ?_ hb22 | refine bnext ?_ hb21 | refine bnext ?_ hb20 | refine bnext ?_ hb19 | refine bnext ?_ hb18 | refine bnext ?_ hb17 | refine bnext ?_ hb16 | refine bnext ?_ hb15 | refine bnext ?_ hb14 | refine bnext ?_ hb13 | refine bnext ?_ hb12 | refine bnext ?_ hb11 | refine bnext ?_ hb10 | refine bnext ?_ hb9 | refine bnext ?_ hb8 | refine bnext ?_ hb7 | refine bnext ?_ hb6 | refine bnext ?_ hb5 | refine bnext ?_ hb4 | refine bnext ?_ hb3 | refine bnext ?_ hb2 | refine bnext ?_ hb1))⟩
end Go.Proofs.YtbifecejaphcfaaDoor
