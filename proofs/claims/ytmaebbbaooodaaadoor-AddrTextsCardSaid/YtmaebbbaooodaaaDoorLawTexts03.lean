/- AddrTexts returns true for every range and text. -/
import Derived.Test.YtmaebbbaooodaaaDoorAdR
import Derived.Test.YtmaebbbaooodaaaDoorAwake03
namespace Go.Proofs.YtmaebbbaooodaaaDoor
open Go Go.Proofs Go.RowKit
set_option linter.unusedSimpArgs false
set_option linter.unusedVariables false
set_option maxRecDepth 100000

set_option maxHeartbeats 4000000 in
theorem AddrTexts_true (a b : Int) (l : List UInt8) (w : World) (hl : l.length ≤ 9223372036854775807) (hC : CutOK w) :
    Calls Tryd.prog 3 #[.agg #[.int .i64 a, .int .i64 b], .string ⟨l.toArray⟩] w fun e w' => e = .returned (.bool true) ∧ Below w.heap.size w w' := by
  by_cases hbig : 60 < l.length
  · go_enter Tryd.func3, Tryd.ntmps3
    go_wp2_with (go_at_call 6; refine (awake_true _).mono ?_; rintro e w5 ⟨rfl, hb5⟩)
    go_ret
    exact ⟨rfl, by (repeat' (first | exact Below.refl _ _ | assumption | refine balloc ?_ _ | refine below_drawn ?_ _ | refine below_drew ?_ | refine bnext ?_ hb24 | refine bnext ?_ hb23 | refine bnext ?_ hb22 | refine bnext ?_ hb21 | refine bnext ?_ hb20 | refine bnext ?_ hb19 | refine bnext ?_ hb18 | refine bnext ?_ hb17 | refine bnext ?_ hb16 | refine bnext ?_ hb15 | refine bnext ?_ hb14 | refine bnext ?_ hb13 | refine bnext ?_ hb12 | refine bnext ?_ hb11 | refine bnext ?_ hb10 | refine bnext ?_ hb9 | refine bnext ?_ hb8 | refine bnext ?_ hb7 | refine bnext ?_ hb6 | refine bnext ?_ hb5 | refine bnext ?_ hb4 | refine bnext ?_ hb3 | refine bnext ?_ hb2 | refine bnext ?_ hb1))⟩
  have hd : decide ((60 : Int) < (l.length : Int)) = false := by simp; omega
  have hl2 : l.length ≤ 100000 := by omega
  rcases ht : textA a b with ⟨tx, te⟩
  rcases hp : parA l with ⟨x, y, pe⟩
  have HT := Lib.hid ht
  have HP := Lib.hid hp
  clear ht hp
  go_enter Tryd.func3, Tryd.ntmps3
  go_wp2_with fail
  refine (Text_any a b _).mono ?_
  rw [HT.out]
  rintro e w1 ⟨rfl, hb1⟩
  have hc1 : Below w.heap.size w w1 := bnext (balloc (Below.refl _ _) _) hb1
  replace hC := hC.below hc1
  have kR := (Bk.new w #[.int .i64 a, .int .i64 b] 23).to hb1
  obtain ⟨cR, fR, lR⟩ := kR.facts
  go_wp2_with fail
  refine (rText_any a b _).mono ?_
  rw [HT.out]
  rintro e w2 ⟨rfl, hb2⟩
  clear cR fR lR
  have hc2 : Below w1.heap.size w1 w2 := bnext (Below.refl _ _) hb2
  replace kR := kR.to hc2
  replace hC := hC.below hc2
  obtain ⟨cR, fR, lR⟩ := kR.facts
  go_wp2_with fail
  refine (Parse_any l _ hl2 hC).mono ?_
  rintro e w3 ⟨he, hb3⟩
  clear cR fR lR
  have hc3 : Below w2.heap.size w2 w3 := bnext (Below.refl _ _) hb3
  replace kR := kR.to hc3
  replace hC := hC.below hc3
  rw [HP.out] at he
  subst he
  simp only
  obtain ⟨cR, fR, lR⟩ := kR.facts
  go_wp2_with fail
  refine (rParse_any l _ hl2).mono ?_
  rintro e w4 ⟨he, hb4⟩
  clear cR fR lR
  have hc4 : Below w3.heap.size w3 w4 := bnext (balloc (Below.refl _ _) _) hb4
  replace kR := kR.to hc4
  replace hC := hC.below hc4
  have kX := (Bk.new w3 #[.int .i64 x, .int .i64 y] 23).to hb4
  rw [HP.out] at he
  subst he
  simp only
  obtain ⟨cR, fR, lR⟩ := kR.facts
  obtain ⟨cX, fX, lX⟩ := kX.facts
  go_wp2_with fail
  refine (awake_true _).mono ?_
  rintro e w5 ⟨rfl, hb5⟩
  clear cR fR lR cX fX lX
  have hc5 : Below w4.heap.size w4 w5 := bnext (balloc (Below.refl _ _) _) hb5
  replace kR := kR.to hc5
  replace kX := kX.to hc5
  replace hC := hC.below hc5
  have kY := (Bk.new w4 #[.int .i64 x, .int .i64 y] 23).to hb5
  obtain ⟨cR, fR, lR⟩ := kR.facts
  obtain ⟨cX, fX, lX⟩ := kX.facts
  obtain ⟨cY, fY, lY⟩ := kY.facts
  go_wp2_with fail
  go_ret
  exact ⟨rfl, bnext (bnext (bnext (bnext hc1 hc2) hc3) hc4) hc5⟩
end Go.Proofs.YtmaebbbaooodaaaDoor
