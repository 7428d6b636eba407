/- EntryParses returns true for every text. -/
import Derived.Test.YtbifecejaphcfaaDoorAwake02
import Derived.Deep.RegionHeld3
namespace Go.Proofs.YtbifecejaphcfaaDoor
open Go Go.Proofs Go.RowKit
set_option linter.unusedSimpArgs false
set_option linter.unusedVariables false

set_option maxRecDepth 100000 in
set_option maxHeartbeats 4000000 in
theorem EntryParses_true (l : List UInt8) (w : World) (hl : l.length ≤ 9223372036854775807) (hL : LayOK w) (hP : PowOK w) :
    Calls Tryd.prog 6 #[.string ⟨l.toArray⟩] w fun e w' => e = .returned (.bool true) ∧ Below w.heap.size w w' := by
  by_cases hbig : 200 < l.length
  · go_enter Tryd.func6, Tryd.ntmps6
    go_wp2_with (go_at_call 17; refine (awake_true _ hL hP).mono ?_; rintro e w5 ⟨rfl, hb5⟩)
    go_ret
    exact ⟨rfl, by (repeat' (first | exact Below.refl _ _ | assumption | refine balloc ?_ _ | refine below_drawn ?_ _ | refine below_drew ?_ | refine bnext ?_ hb24 | refine bnext ?_ hb23 | refine bnext ?_ hb22 | refine bnext ?_ hb21 | refine bnext ?_ hb20 | refine bnext ?_ hb19 | refine bnext ?_ hb18 | refine bnext ?_ hb17 | refine bnext ?_ hb16 | refine bnext ?_ hb15 | refine bnext ?_ hb14 | refine bnext ?_ hb13 | refine bnext ?_ hb12 | refine bnext ?_ hb11 | refine bnext ?_ hb10 | refine bnext ?_ hb9 | refine bnext ?_ hb8 | refine bnext ?_ hb7 | refine bnext ?_ hb6 | refine bnext ?_ hb5 | refine bnext ?_ hb4 | refine bnext ?_ hb3 | refine bnext ?_ hb2 | refine bnext ?_ hb1))⟩
  · have hd : decide ((200 : Int) < (l.length : Int)) = false := by simp; omega
    rcases hu : progR l with ⟨⟨k, n, a, b, c⟩, er⟩
    have HU := Lib.hid hu
    clear hu
    have hl2 : l.length ≤ 10000 := by omega
    go_enter Tryd.func6, Tryd.ntmps6
    go_wp2_with fail
    refine (Parse_any l _ hl2 hL).mono ?_
    rintro e w1 ⟨he, hb1⟩
    have hc1 : Below w.heap.size w w1 := bnext (Below.refl _ _) hb1
    replace hL := hL.below hc1
    replace hP := hP.below hc1
    rw [HU.out] at he
    subst he
    simp only
    go_wp2_with fail
    refine (rParse_any l _ hl2).mono ?_
    rintro e w2 ⟨he, hb2⟩
    have hc2 : Below w1.heap.size w1 w2 := bnext (balloc (Below.refl _ _) _) hb2
    replace hL := hL.below hc2
    replace hP := hP.below hc2
    have kA := (Bk.new w1 #[.int .i64 k, .int .i64 n, .bool a, .bool b, .bool c] 23).to hb2
    rw [HU.out] at he
    subst he
    simp only
    obtain ⟨cA, fA, lA⟩ := kA.facts
    go_wp2_with fail
    refine (awake_true _ (hL.alloc _) (hP.alloc _)).mono ?_
    rintro e w3 ⟨rfl, hb3⟩
    clear cA fA lA
    have hc3 : Below w2.heap.size w2 w3 := bnext (balloc (Below.refl _ _) _) hb3
    replace kA := kA.to hc3
    replace hL := hL.below hc3
    replace hP := hP.below hc3
    have kB := (Bk.new w2 #[.int .i64 k, .int .i64 n, .bool a, .bool b, .bool c] 23).to hb3
    obtain ⟨cA, fA, lA⟩ := kA.facts
    obtain ⟨cB, fB, lB⟩ := kB.facts
    go_wp2_with fail
    go_ret
    exact ⟨rfl, by (repeat' (first | exact Below.refl _ _ | assumption | refine balloc ?_ _ | refine below_drawn ?_ _ | refine below_drew ?_ | refine bnext ?_ hb24 | refine bnext ?_ hb23 | refine bnext ?_ hb22 | refine bnext ?_ hb21 | refine bnext ?_ hb20 | refine bnext ?_ hb19 | refine bnext ?_ hb18 | refine bnext ?_ hb17 | refine bnext ?_ hb16 | refine bnext ?_ hb15 | refine bnext ?_ hb14 | refine bnext ?_ hb13 | refine bnext ?_ hb12 | refine bnext ?_ hb11 | refine bnext ?_ hb10 | refine bnext ?_ hb9 | refine bnext ?_ hb8 | refine bnext ?_ hb7 | refine bnext ?_ hb6 | refine bnext ?_ hb5 | refine bnext ?_ hb4 | refine bnext ?_ hb3 | refine bnext ?_ hb2 | refine bnext ?_ hb1))⟩
end Go.Proofs.YtbifecejaphcfaaDoor
