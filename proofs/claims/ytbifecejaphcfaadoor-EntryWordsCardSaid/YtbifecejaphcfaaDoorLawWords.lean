/- EntryWords returns true for every entry. -/
import Derived.Test.YtbifecejaphcfaaDoorAwake02
import Derived.Deep.RegionHeld3
namespace Go.Proofs.YtbifecejaphcfaaDoor
open Go Go.Proofs Go.RowKit
set_option linter.unusedSimpArgs false
set_option linter.unusedVariables false

set_option maxRecDepth 100000 in
set_option maxHeartbeats 4000000 in
theorem EntryWords_true (k n : Int) (a b c : Bool) (w : World) (hL : LayOK w) (hP : PowOK w) :
    Calls Tryd.prog 3 #[.agg #[.int .i64 k, .int .i64 n, .bool a, .bool b, .bool c]] w fun e w' => e = .returned (.bool true) ∧ Below w.heap.size w w' := by
  rcases hp : packR k n a b c with ⟨x, e1⟩
  rcases ht : textR k n a b c with ⟨t, e2⟩
  have HP := Lib.hid hp
  have HT := Lib.hid ht
  clear hp ht
  go_enter Tryd.func3, Tryd.ntmps3
  go_wp2_with fail
  refine (Pack_any k n a b c _ (hL.alloc _)).mono ?_
  rw [HP.out]
  rintro e w1 ⟨rfl, hb1⟩
  have hc1 : Below w.heap.size w w1 := bnext (balloc (Below.refl _ _) _) hb1
  replace hL := hL.below hc1
  replace hP := hP.below hc1
  have kE := (Bk.new w #[.int .i64 k, .int .i64 n, .bool a, .bool b, .bool c] 23).to hb1
  obtain ⟨cE, fE, lE⟩ := kE.facts
  go_wp2_with fail
  refine (rPack_any k n a b c _).mono ?_
  rw [HP.out]
  rintro e w2 ⟨rfl, hb2⟩
  clear cE fE lE
  have hc2 : Below w1.heap.size w1 w2 := bnext (Below.refl _ _) hb2
  replace kE := kE.to hc2
  replace hL := hL.below hc2
  replace hP := hP.below hc2
  obtain ⟨cE, fE, lE⟩ := kE.facts
  go_wp2_with fail
  refine (Text_any k n a b c _ hL hP).mono ?_
  rw [HT.out]
  rintro e w3 ⟨rfl, hb3⟩
  clear cE fE lE
  have hc3 : Below w2.heap.size w2 w3 := bnext (Below.refl _ _) hb3
  replace kE := kE.to hc3
  replace hL := hL.below hc3
  replace hP := hP.below hc3
  obtain ⟨cE, fE, lE⟩ := kE.facts
  go_wp2_with fail
  refine (rText_any k n a b c _).mono ?_
  rw [HT.out]
  rintro e w4 ⟨rfl, hb4⟩
  clear cE fE lE
  have hc4 : Below w3.heap.size w3 w4 := bnext (Below.refl _ _) hb4
  replace kE := kE.to hc4
  replace hL := hL.below hc4
  replace hP := hP.below hc4
  obtain ⟨cE, fE, lE⟩ := kE.facts
  go_wp2_with fail
  clear cE fE lE
  have c0 := kE.cell 0
  have c1 := kE.cell 1
  have c2 := kE.cell 2
  have c3 := kE.cell 3
  have c4 := kE.cell 4
  simp at c0 c1 c2 c3 c4
  go_region_held3 (fun w' => w'.cell? ⟨w.heap.size, 0, none⟩ = some (.int .i64 k) ∧ w'.cell? ⟨w.heap.size, 1, none⟩ = some (.int .i64 n) ∧ w'.cell? ⟨w.heap.size, 2, none⟩ = some (.bool a) ∧ w'.cell? ⟨w.heap.size, 3, none⟩ = some (.bool b) ∧ w'.cell? ⟨w.heap.size, 4, none⟩ = some (.bool c))
    (refine ⟨?_, ?_, ?_, ?_, ?_⟩ <;> (repeat (with_reducible first | exact c0 | exact c1 | exact c2 | exact c3 | exact c4 | refine cell_drew ?_ | refine cell_later hb7 ?_ | refine cell_later hb6 ?_ | refine cell_later hb5 ?_)))
    (first
      | (go_at_call 15; refine (Check_any _ _ _ _ _ _ hL.drew).mono ?_; rintro e w5 ⟨rfl, hb5⟩)
      | (go_at_call 16; refine (rCheck_any _ _ _ _ _ _).mono ?_; rintro e w6 ⟨rfl, hb6⟩)
      | (go_at_call 17; refine (awake_true _ ((hL.drew.below hb5).below hb6) (PowOK.below (PowOK.below (show PowOK w4.drew from hP) hb5) hb6)).mono ?_; rintro e w7 ⟨rfl, hb7⟩))
  have hb8 : Below w4.heap.size w4 w7 := bnext (bnext (bnext (below_drew (Below.refl _ _)) hb5) hb6) hb7
  clear hb5 hb6 hb7
  go_wp2_with fail
  go_ret
  exact ⟨rfl, by (repeat' (first | exact Below.refl _ _ | assumption | refine balloc ?_ _ | refine below_drawn ?_ _ | refine below_drew ?_ | refine bnext ?_ hb24 | refine bnext ?_ hb23 | refine bnext ?_ hb22 | refine bnext ?_ hb21 | refine bnext ?_ hb20 | refine bnext ?_ hb19 | refine bnext ?_ hb18 | refine bnext ?_ hb17 | refine bnext ?_ hb16 | refine bnext ?_ hb15 | refine bnext ?_ hb14 | refine bnext ?_ hb13 | refine bnext ?_ hb12 | refine bnext ?_ hb11 | refine bnext ?_ hb10 | refine bnext ?_ hb9 | refine bnext ?_ hb8 | refine bnext ?_ hb7 | refine bnext ?_ hb6 | refine bnext ?_ hb5 | refine bnext ?_ hb4 | refine bnext ?_ hb3 | refine bnext ?_ hb2 | refine bnext ?_ hb1))⟩
end Go.Proofs.YtbifecejaphcfaaDoor
