/- The examples that each statement of chapter 2 asks. -/
import Derived.Test.YtbifecejaphcfaaDoorEn15
import Derived.Deep.RegionHeld3
namespace Go.Proofs.YtbifecejaphcfaaDoor
open Go Go.Proofs Go.RowKit
set_option linter.unusedSimpArgs false
set_option linter.unusedVariables false

/-- A word and an entry that are the same. -/
def Packs (k n : Nat) (a b c : Bool) (x : Nat) : Prop := packR k n a b c = ((x : Int), 0) ∧ unpR x = (((k : Int), (n : Int), a, b, c), 0) ∧ x < 18446744073709551616
set_option maxRecDepth 100000 in
set_option maxHeartbeats 4000000 in
theorem packs_any (k n : Nat) (a b c : Bool) (x : Nat) (w : World) (hL : LayOK w) (hP : PowOK w) (h : Packs k n a b c x) :
    Calls Tryd.prog 30 #[.agg #[.int .i64 k, .int .i64 n, .bool a, .bool b, .bool c], .int .u64 x] w fun e w' => e = .returned (.bool true) ∧ Below w.heap.size w w' := by
  have H1 := Lib.hid h.1
  have H2 := Lib.hid h.2.1
  have hx := h.2.2
  clear h
  go_enter Tryd.func30, Tryd.ntmps30
  go_wp2_with fail
  refine (Pack_any k n a b c _ (hL.alloc _)).mono ?_
  rw [H1.out]
  rintro e w1 ⟨rfl, hb1⟩
  have hc1 : Below w.heap.size w w1 := bnext (balloc (Below.refl _ _) _) hb1
  replace hL := hL.below hc1
  replace hP := hP.below hc1
  have kE := (Bk.new w #[.int .i64 k, .int .i64 n, .bool a, .bool b, .bool c] 23).to hb1
  obtain ⟨cE, fE, lE⟩ := kE.facts
  go_wp2_with fail
  refine (Unpack_any x _ hx hL).mono ?_
  rintro e w2 ⟨he, hb2⟩
  clear cE fE lE
  have hc2 : Below w1.heap.size w1 w2 := bnext (Below.refl _ _) hb2
  replace kE := kE.to hc2
  replace hL := hL.below hc2
  replace hP := hP.below hc2
  rw [H2.out] at he
  subst he
  simp only
  obtain ⟨cE, fE, lE⟩ := kE.facts
  go_wp2_with fail
  go_ret
  exact ⟨rfl, by (repeat' (first | exact Below.refl _ _ | assumption | refine balloc ?_ _ | refine below_drawn ?_ _ | refine below_drew ?_ | refine bnext ?_ hb24 | refine bnext ?_ hb23 | refine bnext ?_ hb22 | refine bnext ?_ hb21 | refine bnext ?_ hb20 | refine bnext ?_ hb19 | refine bnext ?_ hb18 | refine bnext ?_ hb17 | refine bnext ?_ hb16 | refine bnext ?_ hb15 | refine bnext ?_ hb14 | refine bnext ?_ hb13 | refine bnext ?_ hb12 | refine bnext ?_ hb11 | refine bnext ?_ hb10 | refine bnext ?_ hb9 | refine bnext ?_ hb8 | refine bnext ?_ hb7 | refine bnext ?_ hb6 | refine bnext ?_ hb5 | refine bnext ?_ hb4 | refine bnext ?_ hb3 | refine bnext ?_ hb2 | refine bnext ?_ hb1))⟩

theorem aw1 : writeR 1797 false = (1801, 0) := by decide +kernel
theorem aw2 : referR 1797 true = (1813, 0) := by decide +kernel
theorem aw3 : moveR 1797 255 = (65285, 0) := by decide +kernel
theorem aw4 : textR 1 7 true false true = ([112, 55, 119, 114], 0) := by decide +kernel
theorem aw5 : progR [112, 49, 50, 99] = ((1, 12, false, true, false), 0) := by decide +kernel
theorem aw6 : Packs 1 7 true false false 1797 := by unfold Packs; decide +kernel
set_option maxRecDepth 100000 in
set_option maxHeartbeats 4000000 in
theorem awake_true (w : World) (hL : LayOK w) (hP : PowOK w) :
    Calls Tryd.prog 17 #[] w fun e w' => e = .returned (.bool true) ∧ Below w.heap.size w w' := by
  go_enter Tryd.func17, Tryd.ntmps17
  go_wp2_with fail
  refine (Write_any 1797 false _ (by omega) hL).mono ?_
  rw [aw1]
  rintro e w1 ⟨rfl, hb1⟩
  have hc1 : Below w.heap.size w w1 := bnext (Below.refl _ _) hb1
  replace hL := hL.below hc1
  replace hP := hP.below hc1
  go_wp2_with fail
  refine (Refer_any 1797 true _ (by omega) hL).mono ?_
  rw [aw2]
  rintro e w2 ⟨rfl, hb2⟩
  have hc2 : Below w1.heap.size w1 w2 := bnext (Below.refl _ _) hb2
  replace hL := hL.below hc2
  replace hP := hP.below hc2
  go_wp2_with fail
  refine (Move_any 1797 255 _ (by omega) hL).mono ?_
  rw [aw3]
  rintro e w3 ⟨rfl, hb3⟩
  have hc3 : Below w2.heap.size w2 w3 := bnext (Below.refl _ _) hb3
  replace hL := hL.below hc3
  replace hP := hP.below hc3
  go_wp2_with fail
  refine (Text_any 1 7 true false true _ hL hP).mono ?_
  rw [aw4]
  rintro e w4 ⟨rfl, hb4⟩
  have hc4 : Below w3.heap.size w3 w4 := bnext (Below.refl _ _) hb4
  replace hL := hL.below hc4
  replace hP := hP.below hc4
  go_wp2_with fail
  refine (Parse_any [112, 49, 50, 99] _ (by decide) hL).mono ?_
  rintro e w5 ⟨he, hb5⟩
  have hc5 : Below w4.heap.size w4 w5 := bnext (Below.refl _ _) hb5
  replace hL := hL.below hc5
  replace hP := hP.below hc5
  rw [aw5] at he
  subst he
  simp only
  go_wp2_with fail
  refine (packs_any 1 7 true false false 1797 _ (hL.alloc _) (hP.alloc _) aw6).mono ?_
  rintro e w6 ⟨rfl, hb6⟩
  have hc6 : Below w5.heap.size w5 w6 := bnext (balloc (Below.refl _ _) _) hb6
  replace hL := hL.below hc6
  replace hP := hP.below hc6
  have kP := (Bk.new w5 #[.int .i64 1, .int .i64 12, .bool false, .bool true, .bool false] 23).to hb6
  obtain ⟨cP, fP, lP⟩ := kP.facts
  go_wp2_with fail
  go_ret
  exact ⟨rfl, by (repeat' (first | exact Below.refl _ _ | assumption | refine balloc ?_ _ | refine below_drawn ?_ _ | refine below_drew ?_ | refine bnext ?_ hb24 | refine bnext ?_ hb23 | refine bnext ?_ hb22 | refine bnext ?_ hb21 | refine bnext ?_ hb20 | refine bnext ?_ hb19 | refine bnext ?_ hb18 | refine bnext ?_ hb17 | refine bnext ?_ hb16 | refine bnext ?_ hb15 | refine bnext ?_ hb14 | refine bnext ?_ hb13 | refine bnext ?_ hb12 | refine bnext ?_ hb11 | refine bnext ?_ hb10 | refine bnext ?_ hb9 | refine bnext ?_ hb8 | refine bnext ?_ hb7 | refine bnext ?_ hb6 | refine bnext ?_ hb5 | refine bnext ?_ hb4 | refine bnext ?_ hb3 | refine bnext ?_ hb2 | refine bnext ?_ hb1))⟩
end Go.Proofs.YtbifecejaphcfaaDoor
