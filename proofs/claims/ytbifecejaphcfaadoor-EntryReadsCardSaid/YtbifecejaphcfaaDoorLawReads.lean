/- EntryReads returns true for every word. -/
import Derived.Test.YtbifecejaphcfaaDoorAwake02
import Derived.Deep.RegionHeld3
namespace Go.Proofs.YtbifecejaphcfaaDoor
open Go Go.Proofs Go.RowKit
set_option linter.unusedVariables false

set_option maxRecDepth 100000 in
set_option maxHeartbeats 4000000 in
theorem EntryReads_true (x : Nat) (w : World) (hx : x < 18446744073709551616) (hL : LayOK w) (hP : PowOK w) :
    Calls Tryd.prog 4 #[.int .u64 x] w fun e w' => e = .returned (.bool true) ∧ Below w.heap.size w w' := by
  rcases hu : unpR x with ⟨⟨k, n, a, b, c⟩, er⟩
  have HU := Lib.hid hu
  clear hu
  have hk1 := Kind_any x
  have hk2 := rKind_any x
  generalize (if x % 4 = 3 then (0 : Int) else ((x % 4 : Nat) : Int)) = kd at hk1 hk2
  generalize (if x % 4 = 3 then (16 : Int) else 0) = ke at hk1 hk2
  have HK1 := Lib.hid hk1
  have HK2 := Lib.hid hk2
  clear hk1 hk2
  go_enter Tryd.func4, Tryd.ntmps4
  go_wp2_with fail
  refine (Unpack_any x _ hx hL).mono ?_
  rintro e w1 ⟨he, hb1⟩
  have hc1 : Below w.heap.size w w1 := bnext (Below.refl _ _) hb1
  replace hL := hL.below hc1
  replace hP := hP.below hc1
  rw [HU.out] at he
  subst he
  simp only
  go_wp2_with fail
  refine (rUnpack_any x _ hx).mono ?_
  rintro e w2 ⟨he, hb2⟩
  have hc2 : Below w1.heap.size w1 w2 := bnext (balloc (Below.refl _ _) _) hb2
  replace hL := hL.below hc2
  replace hP := hP.below hc2
  have kA := (Bk.new w1 #[.int .i64 k, .int .i64 n, .bool a, .bool b, .bool c] 23).to hb2
  rw [HU.out] at he
  subst he
  simp only
  obtain ⟨cA, fA, lA⟩ := kA.facts
  go_wp2_with fail
  refine (HK1.out _ hx (hL.alloc _)).mono ?_
  rintro e w3 ⟨rfl, hb3⟩
  clear cA fA lA
  have hc3 : Below w2.heap.size w2 w3 := bnext (balloc (Below.refl _ _) _) hb3
  replace kA := kA.to hc3
  replace hL := hL.below hc3
  replace hP := hP.below hc3
  have kB := (Bk.new w2 #[.int .i64 k, .int .i64 n, .bool a, .bool b, .bool c] 23).to hb3
  obtain ⟨cA, fA, lA⟩ := kA.facts
  obtain ⟨cB, fB, lB⟩ := kB.facts
  go_wp2_with fail
  refine (HK2.out _ hx).mono ?_
  rintro e w4 ⟨rfl, hb4⟩
  clear cA fA lA cB fB lB
  have hc4 : Below w3.heap.size w3 w4 := bnext (Below.refl _ _) hb4
  replace kA := kA.to hc4
  replace kB := kB.to hc4
  replace hL := hL.below hc4
  replace hP := hP.below hc4
  obtain ⟨cA, fA, lA⟩ := kA.facts
  obtain ⟨cB, fB, lB⟩ := kB.facts
  go_wp2_with fail
  refine (awake_true _ hL hP).mono ?_
  rintro e w5 ⟨rfl, hb5⟩
  clear cA fA lA cB fB lB
  have hc5 : Below w4.heap.size w4 w5 := bnext (Below.refl _ _) hb5
  replace kA := kA.to hc5
  replace kB := kB.to hc5
  replace hL := hL.below hc5
  replace hP := hP.below hc5
  obtain ⟨cA, fA, lA⟩ := kA.facts
  obtain ⟨cB, fB, lB⟩ := kB.facts
  go_wp2_with fail
  go_ret
  exact ⟨rfl, by (repeat' (first | exact Below.refl _ _ | assumption | refine balloc ?_ _ | refine below_drawn ?_ _ | refine below_drew ?_ | refine bnext ?_ hb24 | refine bnext ?_ hb23 | refine bnext ?_ hb22 | refine bnext ?_ hb21 | refine bnext ?_ hb20 | refine bnext ?_ hb19 | refine bnext ?_ hb18 | refine bnext ?_ hb17 | refine bnext ?_ hb16 | refine bnext ?_ hb15 | refine bnext ?_ hb14 | refine bnext ?_ hb13 | refine bnext ?_ hb12 | refine bnext ?_ hb11 | refine bnext ?_ hb10 | refine bnext ?_ hb9 | refine bnext ?_ hb8 | refine bnext ?_ hb7 | refine bnext ?_ hb6 | refine bnext ?_ hb5 | refine bnext ?_ hb4 | refine bnext ?_ hb3 | refine bnext ?_ hb2 | refine bnext ?_ hb1))⟩
end Go.Proofs.YtbifecejaphcfaaDoor
