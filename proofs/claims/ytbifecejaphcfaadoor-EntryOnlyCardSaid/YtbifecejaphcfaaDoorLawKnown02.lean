/- The examples of chapter 2 have the results that the chapter gives. -/
import Derived.Test.YtbifecejaphcfaaDoorAwake02
import Derived.Deep.RegionHeld3
namespace Go.Proofs.YtbifecejaphcfaaDoor
open Go Go.Proofs Go.RowKit
set_option linter.unusedSimpArgs false
set_option linter.unusedVariables false

set_option maxRecDepth 100000 in
set_option maxHeartbeats 4000000 in
theorem refused_any (x : Nat) (er : Int) (w : World) (hx : x < 18446744073709551616) (hL : LayOK w) (hP : PowOK w) (h : unpR x = ((0, 0, false, false, false), er)) :
    Calls Tryd.prog 31 #[.int .u64 x, .int .i64 er] w fun e w' => e = .returned (.bool true) ∧ Below w.heap.size w w' := by
  have H := Lib.hid h
  clear h
  go_enter Tryd.func31, Tryd.ntmps31
  go_wp2_with fail
  refine (Unpack_any x _ hx hL).mono ?_
  rintro e w1 ⟨he, hb1⟩
  have hc1 : Below w.heap.size w w1 := bnext (Below.refl _ _) hb1
  replace hL := hL.below hc1
  replace hP := hP.below hc1
  rw [H.out] at he
  subst he
  simp only
  go_wp2_with fail
  go_ret
  exact ⟨rfl, by (repeat' (first | exact Below.refl _ _ | assumption | refine balloc ?_ _ | refine below_drawn ?_ _ | refine below_drew ?_ | refine bnext ?_ hb24 | refine bnext ?_ hb23 | refine bnext ?_ hb22 | refine bnext ?_ hb21 | refine bnext ?_ hb20 | refine bnext ?_ hb19 | refine bnext ?_ hb18 | refine bnext ?_ hb17 | refine bnext ?_ hb16 | refine bnext ?_ hb15 | refine bnext ?_ hb14 | refine bnext ?_ hb13 | refine bnext ?_ hb12 | refine bnext ?_ hb11 | refine bnext ?_ hb10 | refine bnext ?_ hb9 | refine bnext ?_ hb8 | refine bnext ?_ hb7 | refine bnext ?_ hb6 | refine bnext ?_ hb5 | refine bnext ?_ hb4 | refine bnext ?_ hb3 | refine bnext ?_ hb2 | refine bnext ?_ hb1))⟩

set_option maxRecDepth 100000 in
set_option maxHeartbeats 4000000 in
theorem unread_any (l : List UInt8) (er : Int) (w : World) (hl : l.length ≤ 10000) (hL : LayOK w) (hP : PowOK w) (h : progR l = ((0, 0, false, false, false), er)) :
    Calls Tryd.prog 32 #[.string ⟨l.toArray⟩, .int .i64 er] w fun e w' => e = .returned (.bool true) ∧ Below w.heap.size w w' := by
  have H := Lib.hid h
  clear h
  go_enter Tryd.func32, Tryd.ntmps32
  go_wp2_with fail
  refine (Parse_any l _ hl hL).mono ?_
  rintro e w1 ⟨he, hb1⟩
  have hc1 : Below w.heap.size w w1 := bnext (Below.refl _ _) hb1
  replace hL := hL.below hc1
  replace hP := hP.below hc1
  rw [H.out] at he
  subst he
  simp only
  go_wp2_with fail
  go_ret
  exact ⟨rfl, by (repeat' (first | exact Below.refl _ _ | assumption | refine balloc ?_ _ | refine below_drawn ?_ _ | refine below_drew ?_ | refine bnext ?_ hb24 | refine bnext ?_ hb23 | refine bnext ?_ hb22 | refine bnext ?_ hb21 | refine bnext ?_ hb20 | refine bnext ?_ hb19 | refine bnext ?_ hb18 | refine bnext ?_ hb17 | refine bnext ?_ hb16 | refine bnext ?_ hb15 | refine bnext ?_ hb14 | refine bnext ?_ hb13 | refine bnext ?_ hb12 | refine bnext ?_ hb11 | refine bnext ?_ hb10 | refine bnext ?_ hb9 | refine bnext ?_ hb8 | refine bnext ?_ hb7 | refine bnext ?_ hb6 | refine bnext ?_ hb5 | refine bnext ?_ hb4 | refine bnext ?_ hb3 | refine bnext ?_ hb2 | refine bnext ?_ hb1))⟩

theorem kn_k1 : packR 0 0 false false false = (0, 0) := by decide +kernel
theorem kn_k2 : writeR 1821 true = (0, 3) := by decide +kernel
theorem kn_k3 : referR 65282 true = (0, 9) := by decide +kernel
theorem kn_k4 : moveR 65282 0 = (2, 0) := by decide +kernel
theorem kn_k5 : moveR 0 3 = (0, 9) := by decide +kernel
theorem kn_k6 : moveR 1797 256 = (0, 2) := by decide +kernel
theorem kn_k7 : progR [45] = ((0, 0, false, false, false), 0) := by decide +kernel
theorem kn_u1 : unpR 1809 = ((0, 0, false, false, false), 3) := by decide +kernel
theorem kn_u2 : unpR 3 = ((0, 0, false, false, false), 16) := by decide +kernel
theorem kn_u3 : unpR 65537 = ((0, 0, false, false, false), 3) := by decide +kernel
theorem kn_u4 : unpR 256 = ((0, 0, false, false, false), 2) := by decide +kernel
theorem kn_r1 : progR [115, 48, 55] = ((0, 0, false, false, false), 3) := by decide +kernel
theorem kn_r2 : progR [112, 49, 50] = ((0, 0, false, false, false), 3) := by decide +kernel
theorem kn_r3 : progR [115, 50, 53, 54] = ((0, 0, false, false, false), 2) := by decide +kernel
theorem kn_p1 : Packs 2 255 false false false 65282 := by unfold Packs; decide +kernel
theorem kn_p2 : Packs 1 7 false true true 1817 := by unfold Packs; decide +kernel
set_option maxRecDepth 100000 in
set_option maxHeartbeats 4000000 in
theorem EntryKnown_true (w : World) (hL : LayOK w) (hP : PowOK w) :
    Calls Tryd.prog 7 #[] w fun e w' => e = .returned (.bool true) ∧ Below w.heap.size w w' := by
  go_enter Tryd.func7, Tryd.ntmps7
  go_wp2_with fail
  refine (Pack_any 0 0 false false false _ hL).mono ?_
  rw [kn_k1]
  rintro e w1 ⟨rfl, hb1⟩
  have hc1 : Below w.heap.size w w1 := bnext (Below.refl _ _) hb1
  replace hL := hL.below hc1
  replace hP := hP.below hc1
  go_wp2_with fail
  refine (Write_any 1821 true _ (by omega) hL).mono ?_
  rw [kn_k2]
  rintro e w2 ⟨rfl, hb2⟩
  have hc2 : Below w1.heap.size w1 w2 := bnext (Below.refl _ _) hb2
  replace hL := hL.below hc2
  replace hP := hP.below hc2
  go_wp2_with fail
  refine (Refer_any 65282 true _ (by omega) hL).mono ?_
  rw [kn_k3]
  rintro e w3 ⟨rfl, hb3⟩
  have hc3 : Below w2.heap.size w2 w3 := bnext (Below.refl _ _) hb3
  replace hL := hL.below hc3
  replace hP := hP.below hc3
  go_wp2_with fail
  refine (Move_any 65282 0 _ (by omega) hL).mono ?_
  rw [kn_k4]
  rintro e w4 ⟨rfl, hb4⟩
  have hc4 : Below w3.heap.size w3 w4 := bnext (Below.refl _ _) hb4
  replace hL := hL.below hc4
  replace hP := hP.below hc4
  go_wp2_with fail
  refine (Move_any 0 3 _ (by omega) hL).mono ?_
  rw [kn_k5]
  rintro e w5 ⟨rfl, hb5⟩
  have hc5 : Below w4.heap.size w4 w5 := bnext (Below.refl _ _) hb5
  replace hL := hL.below hc5
  replace hP := hP.below hc5
  go_wp2_with fail
  refine (Move_any 1797 256 _ (by omega) hL).mono ?_
  rw [kn_k6]
  rintro e w6 ⟨rfl, hb6⟩
  have hc6 : Below w5.heap.size w5 w6 := bnext (Below.refl _ _) hb6
  replace hL := hL.below hc6
  replace hP := hP.below hc6
  go_wp2_with fail
  refine (Parse_any [45] _ (by decide) hL).mono ?_
  rintro e w7 ⟨he, hb7⟩
  have hc7 : Below w6.heap.size w6 w7 := bnext (Below.refl _ _) hb7
  replace hL := hL.below hc7
  replace hP := hP.below hc7
  rw [kn_k7] at he
  subst he
  simp only
  go_wp2_with fail
  refine (packs_any 2 255 false false false 65282 _ (hL.alloc _) (hP.alloc _) kn_p1).mono ?_
  rintro e w8 ⟨rfl, hb8⟩
  have hc8 : Below w7.heap.size w7 w8 := bnext (balloc (Below.refl _ _) _) hb8
  replace hL := hL.below hc8
  replace hP := hP.below hc8
  have kD := (Bk.new w7 #[.int .i64 0, .int .i64 0, .bool false, .bool false, .bool false] 23).to hb8
  obtain ⟨cD, fD, lD⟩ := kD.facts
  go_wp2_with fail
  refine (packs_any 1 7 false true true 1817 _ hL hP kn_p2).mono ?_
  rintro e w9 ⟨rfl, hb9⟩
  clear cD fD lD
  have hc9 : Below w8.heap.size w8 w9 := bnext (Below.refl _ _) hb9
  replace kD := kD.to hc9
  replace hL := hL.below hc9
  replace hP := hP.below hc9
  obtain ⟨cD, fD, lD⟩ := kD.facts
  go_wp2_with fail
  refine (refused_any 1809 3 _ (by omega) hL hP kn_u1).mono ?_
  rintro e w10 ⟨rfl, hb10⟩
  clear cD fD lD
  have hc10 : Below w9.heap.size w9 w10 := bnext (Below.refl _ _) hb10
  replace kD := kD.to hc10
  replace hL := hL.below hc10
  replace hP := hP.below hc10
  obtain ⟨cD, fD, lD⟩ := kD.facts
  go_wp2_with fail
  refine (refused_any 3 16 _ (by omega) hL hP kn_u2).mono ?_
  rintro e w11 ⟨rfl, hb11⟩
  clear cD fD lD
  have hc11 : Below w10.heap.size w10 w11 := bnext (Below.refl _ _) hb11
  replace kD := kD.to hc11
  replace hL := hL.below hc11
  replace hP := hP.below hc11
  obtain ⟨cD, fD, lD⟩ := kD.facts
  go_wp2_with fail
  refine (refused_any 65537 3 _ (by omega) hL hP kn_u3).mono ?_
  rintro e w12 ⟨rfl, hb12⟩
  clear cD fD lD
  have hc12 : Below w11.heap.size w11 w12 := bnext (Below.refl _ _) hb12
  replace kD := kD.to hc12
  replace hL := hL.below hc12
  replace hP := hP.below hc12
  obtain ⟨cD, fD, lD⟩ := kD.facts
  go_wp2_with fail
  refine (refused_any 256 2 _ (by omega) hL hP kn_u4).mono ?_
  rintro e w13 ⟨rfl, hb13⟩
  clear cD fD lD
  have hc13 : Below w12.heap.size w12 w13 := bnext (Below.refl _ _) hb13
  replace kD := kD.to hc13
  replace hL := hL.below hc13
  replace hP := hP.below hc13
  obtain ⟨cD, fD, lD⟩ := kD.facts
  go_wp2_with fail
  refine (unread_any [115, 48, 55] 3 _ (by decide) hL hP kn_r1).mono ?_
  rintro e w14 ⟨rfl, hb14⟩
  clear cD fD lD
  have hc14 : Below w13.heap.size w13 w14 := bnext (Below.refl _ _) hb14
  replace kD := kD.to hc14
  replace hL := hL.below hc14
  replace hP := hP.below hc14
  obtain ⟨cD, fD, lD⟩ := kD.facts
  go_wp2_with fail
  refine (unread_any [112, 49, 50] 3 _ (by decide) hL hP kn_r2).mono ?_
  rintro e w15 ⟨rfl, hb15⟩
  clear cD fD lD
  have hc15 : Below w14.heap.size w14 w15 := bnext (Below.refl _ _) hb15
  replace kD := kD.to hc15
  replace hL := hL.below hc15
  replace hP := hP.below hc15
  obtain ⟨cD, fD, lD⟩ := kD.facts
  go_wp2_with fail
  refine (unread_any [115, 50, 53, 54] 2 _ (by decide) hL hP kn_r3).mono ?_
  rintro e w16 ⟨rfl, hb16⟩
  clear cD fD lD
  have hc16 : Below w15.heap.size w15 w16 := bnext (Below.refl _ _) hb16
  replace kD := kD.to hc16
  replace hL := hL.below hc16
  replace hP := hP.below hc16
  obtain ⟨cD, fD, lD⟩ := kD.facts
  go_wp2_with fail
  refine (awake_true _ hL hP).mono ?_
  rintro e w17 ⟨rfl, hb17⟩
  clear cD fD lD
  have hc17 : Below w16.heap.size w16 w17 := bnext (Below.refl _ _) hb17
  replace kD := kD.to hc17
  replace hL := hL.below hc17
  replace hP := hP.below hc17
  obtain ⟨cD, fD, lD⟩ := kD.facts
  go_wp2_with fail
  go_ret
  exact ⟨rfl, by (repeat' (first | exact Below.refl _ _ | assumption | refine balloc ?_ _ | refine below_drawn ?_ _ | refine below_drew ?_ | refine bnext ?_ hb24 | refine bnext ?_ hb23 | refine bnext ?_ hb22 | refine bnext ?_ hb21 | refine bnext ?_ hb20 | refine bnext ?_ hb19 | refine bnext ?_ hb18 | refine bnext ?_ hb17 | refine bnext ?_ hb16 | refine bnext ?_ hb15 | refine bnext ?_ hb14 | refine bnext ?_ hb13 | refine bnext ?_ hb12 | refine bnext ?_ hb11 | refine bnext ?_ hb10 | refine bnext ?_ hb9 | refine bnext ?_ hb8 | refine bnext ?_ hb7 | refine bnext ?_ hb6 | refine bnext ?_ hb5 | refine bnext ?_ hb4 | refine bnext ?_ hb3 | refine bnext ?_ hb2 | refine bnext ?_ hb1))⟩
end Go.Proofs.YtbifecejaphcfaaDoor
