/- EntryBack returns true for every number. -/
import Derived.Test.YtbifecejaphcfaaDoorEnM
import Derived.Deep.RegionHeld3
namespace Go.Proofs.YtbifecejaphcfaaDoor
open Go Go.Proofs Go.RowKit
set_option linter.unusedSimpArgs false
set_option linter.unusedVariables false

set_option maxRecDepth 100000 in
set_option maxHeartbeats 4000000 in
theorem EntryBack_true (z : Int) (w : World) (hL : LayOK w) (hP : PowOK w) :
    Calls Tryd.prog 8 #[.int .i64 z] w fun e w' => e = .returned (.bool true) ∧ Below w.heap.size w w' := by
  obtain ⟨k, n, a, b, c, x, t, M⟩ := made_all z
  have hx : x < 18446744073709551616 := by have := M.lt; omega
  have ht : t.length ≤ 10000 := by have := M.len; omega
  have hK := fun w h h' => Kind_any x w h h'
  rw [if_neg M.not3, if_neg M.not3, M.kind] at hK
  have HK := Lib.hid hK
  clear hK
  go_enter Tryd.func8, Tryd.ntmps8
  go_wp2_with fail
  refine (EntryKnown_true _ hL hP).mono ?_
  rintro e w1 ⟨rfl, hb1⟩
  have hc1 : Below w.heap.size w w1 := bnext (Below.refl _ _) hb1
  replace hL := hL.below hc1
  replace hP := hP.below hc1
  go_wp2_with fail
  refine (M.call _).mono ?_
  rintro e w2 ⟨rfl, hb2⟩
  have hc2 : Below w1.heap.size w1 w2 := bnext (Below.refl _ _) hb2
  replace hL := hL.below hc2
  replace hP := hP.below hc2
  go_wp2_with fail
  refine (Pack_any k n a b c _ (hL.alloc _)).mono ?_
  rw [M.pack]
  rintro e w3 ⟨rfl, hb3⟩
  have hc3 : Below w2.heap.size w2 w3 := bnext (balloc (Below.refl _ _) _) hb3
  replace hL := hL.below hc3
  replace hP := hP.below hc3
  have kE := (Bk.new w2 #[.int .i64 k, .int .i64 n, .bool a, .bool b, .bool c] 23).to hb3
  obtain ⟨cE, fE, lE⟩ := kE.facts
  go_wp2_with fail
  refine (Unpack_any x _ hx hL).mono ?_
  rintro e w4 ⟨he, hb4⟩
  clear cE fE lE
  have hc4 : Below w3.heap.size w3 w4 := bnext (Below.refl _ _) hb4
  replace kE := kE.to hc4
  replace hL := hL.below hc4
  replace hP := hP.below hc4
  rw [M.unp] at he
  subst he
  simp only
  obtain ⟨cE, fE, lE⟩ := kE.facts
  go_wp2_with fail
  refine (Text_any k n a b c _ (hL.alloc _) (hP.alloc _)).mono ?_
  rw [M.text]
  rintro e w5 ⟨rfl, hb5⟩
  clear cE fE lE
  have hc5 : Below w4.heap.size w4 w5 := bnext (balloc (Below.refl _ _) _) hb5
  replace kE := kE.to hc5
  replace hL := hL.below hc5
  replace hP := hP.below hc5
  have kX := (Bk.new w4 #[.int .i64 k, .int .i64 n, .bool a, .bool b, .bool c] 23).to hb5
  obtain ⟨cE, fE, lE⟩ := kE.facts
  obtain ⟨cX, fX, lX⟩ := kX.facts
  go_wp2_with fail
  refine (Parse_any t _ ht hL).mono ?_
  rintro e w6 ⟨he, hb6⟩
  clear cE fE lE cX fX lX
  have hc6 : Below w5.heap.size w5 w6 := bnext (Below.refl _ _) hb6
  replace kE := kE.to hc6
  replace kX := kX.to hc6
  replace hL := hL.below hc6
  replace hP := hP.below hc6
  rw [M.prog] at he
  subst he
  simp only
  obtain ⟨cE, fE, lE⟩ := kE.facts
  obtain ⟨cX, fX, lX⟩ := kX.facts
  go_wp2_with fail
  refine (HK.out _ hx (hL.alloc _)).mono ?_
  rintro e w7 ⟨rfl, hb7⟩
  clear cE fE lE cX fX lX
  have hc7 : Below w6.heap.size w6 w7 := bnext (balloc (Below.refl _ _) _) hb7
  replace kE := kE.to hc7
  replace kX := kX.to hc7
  replace hL := hL.below hc7
  replace hP := hP.below hc7
  have kY := (Bk.new w6 #[.int .i64 k, .int .i64 n, .bool a, .bool b, .bool c] 23).to hb7
  obtain ⟨cE, fE, lE⟩ := kE.facts
  obtain ⟨cX, fX, lX⟩ := kX.facts
  obtain ⟨cY, fY, lY⟩ := kY.facts
  go_wp2_with fail
  refine (Check_any k n a b c _ hL).mono ?_
  rw [M.ok]
  rintro e w8 ⟨rfl, hb8⟩
  clear cE fE lE cX fX lX cY fY lY
  have hc8 : Below w7.heap.size w7 w8 := bnext (Below.refl _ _) hb8
  replace kE := kE.to hc8
  replace kX := kX.to hc8
  replace kY := kY.to hc8
  replace hL := hL.below hc8
  replace hP := hP.below hc8
  obtain ⟨cE, fE, lE⟩ := kE.facts
  obtain ⟨cX, fX, lX⟩ := kX.facts
  obtain ⟨cY, fY, lY⟩ := kY.facts
  go_wp2_with fail
  go_ret
  exact ⟨rfl, by (repeat' (first | exact Below.refl _ _ | assumption | refine balloc ?_ _ | refine below_drawn ?_ _ | refine below_drew ?_ | refine bnext ?_ hb24 | refine bnext ?_ hb23 | refine bnext ?_ hb22 | refine bnext ?_ hb21 | refine bnext ?_ hb20 | refine bnext ?_ hb19 | refine bnext ?_ hb18 | refine bnext ?_ hb17 | refine bnext ?_ hb16 | refine bnext ?_ hb15 | refine bnext ?_ hb14 | refine bnext ?_ hb13 | refine bnext ?_ hb12 | refine bnext ?_ hb11 | refine bnext ?_ hb10 | refine bnext ?_ hb9 | refine bnext ?_ hb8 | refine bnext ?_ hb7 | refine bnext ?_ hb6 | refine bnext ?_ hb5 | refine bnext ?_ hb4 | refine bnext ?_ hb3 | refine bnext ?_ hb2 | refine bnext ?_ hb1))⟩
end Go.Proofs.YtbifecejaphcfaaDoor
