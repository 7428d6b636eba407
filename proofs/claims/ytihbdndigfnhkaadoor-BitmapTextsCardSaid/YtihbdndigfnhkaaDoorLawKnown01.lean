/- BitmapKnown returns true. -/
import Derived.Test.YtihbdndigfnhkaaDoorBitD
import Derived.Laws.IdiomStrings
namespace Go.Proofs.YtihbdndigfnhkaaDoor
open Go Go.Proofs Go.RowKit
set_option linter.unusedSimpArgs false
set_option linter.unusedVariables false
set_option maxRecDepth 100000

theorem kr0 : runR 70 shW 3 1 true = (((62 : Nat) : Int), 0) := by decide +kernel
theorem kr1 : runR 70 shW 4 4 true = (0, 6) := by decide +kernel
theorem kr2 : runR 70 shW 5 1 true = (((62 : Nat) : Int), 0) := by decide +kernel
theorem kr3 : runR 70 shW 6 1 true = (0, 6) := by decide +kernel
theorem kr4 : runR 70 shW 3 1 false = (((0 : Nat) : Int), 0) := by decide +kernel
theorem kr5 : runR 70 shW 3 67 false = (((0 : Nat) : Int), 0) := by decide +kernel
theorem kr6 : runR 70 shW 64 64 false = (0, 6) := by decide +kernel
theorem kr7 : runR 70 shW 4 2 false = (((0 : Nat) : Int), 0) := by decide +kernel
theorem kk1 : countR 70 shW 64 70 = (3, 0) := by decide +kernel
theorem kk2 : nextR 70 shW 0 true = (62, 0) := by decide +kernel
theorem kk3 : nextR 70 shW 67 true = (0, 6) := by decide +kernel
theorem kk4 : setW 6 [0, 5] 2 = [33] := by decide +kernel
theorem kk5 : textB 6 [33] = ([54, 58, 49, 50], 0) := by decide +kernel
theorem kk6 : parB [54, 58, 49, 50] = (6, [33], 0) := by decide +kernel
theorem kk7 : parB [48, 58] = (0, [], 0) := by decide +kernel
theorem kk8 : combR 6 [33] 6 [33] 5 = (0, [], 2) := by decide +kernel
theorem kk9 : (parB [54, 58, 49, 52]).2.2 = 3 := by decide +kernel
theorem kk10 : (parB [48, 54, 58, 49, 50]).2.2 = 3 := by decide +kernel
def txt0 (k : Nat) : List UInt8 := [49, 48, 50, 53, 58] ++ List.replicate k 48
theorem kk11 : (parB (txt0 257)).2.2 = 2 := by decide +kernel
theorem kc1 : setW 3 [0, 1, 2] 3 = [7] ∧ combR 3 [3] 3 [6] 1 = (3, [7], 0) := by decide +kernel
theorem kc2 : setW 3 [1] 1 = [2] ∧ combR 3 [3] 3 [6] 2 = (3, [2], 0) := by decide +kernel
theorem kc3 : setW 3 [0] 1 = [1] ∧ combR 3 [3] 3 [6] 3 = (3, [1], 0) := by decide +kernel
theorem kc4 : setW 3 [0, 2] 2 = [5] ∧ combR 3 [3] 3 [6] 4 = (3, [5], 0) := by decide +kernel
set_option maxHeartbeats 1000000 in
theorem BitmapKnown_true (w : World) (hT : TabOK w) (hC : CutOK w) (hP : PowOK w) :
    Calls Tryd.prog 7 #[] w fun e w' => e = .returned (.bool true) ∧ Below w.heap.size w w' := by
  go_enter Tryd.func7, Tryd.ntmps7
  go_wp2_with fail
  refine (shown_any _).mono ?_
  rintro e w1 ⟨A1, m1, c1, rfl, hown1, hb1⟩
  have hc1 : Below w.heap.size w w1 := bnext (Below.refl _ _) hb1
  replace hT := hT.below hc1
  replace hC := hC.below hc1
  replace hP := hP.below hc1
  obtain rfl : m1 = 2 := by have := hown1.1; rw [uw_len] at this; simp [shW] at this; omega
  have hr1 := Rd.own hown1
  clear hown1
  go_wp2_with fail
  refine (Count_any 70 A1 2 c1 shW 64 70 _ (hr1.alloc _) sh_small (by omega)).mono ?_
  rw [kk1]
  rintro e w2 ⟨rfl, hb2⟩
  have hc2 : Below w1.heap.size w1 w2 := bnext (balloc (Below.refl _ _) _) hb2
  replace hr1 := hr1.below hc2 (Nat.le_refl _)
  replace hT := hT.below hc2
  replace hC := hC.below hc2
  replace hP := hP.below hc2
  have kB1 := (Bk.new w1 #[.int .i64 70, .slice A1 2 c1] 24).to hb2
  obtain ⟨cB1, fB1, lB1⟩ := kB1.facts
  go_wp2_with fail
  refine (Next_any 70 A1 2 c1 shW 0 true _ hT hr1 sh_small (by omega)).mono ?_
  rw [kk2]
  rintro e w3 ⟨rfl, hb3⟩
  clear cB1 fB1 lB1
  have hc3 : Below w2.heap.size w2 w3 := bnext (Below.refl _ _) hb3
  replace kB1 := kB1.to hc3
  replace hr1 := hr1.below hc3 (Nat.le_refl _)
  replace hT := hT.below hc3
  replace hC := hC.below hc3
  replace hP := hP.below hc3
  obtain ⟨cB1, fB1, lB1⟩ := kB1.facts
  go_wp2_with fail
  refine (Next_any 70 A1 2 c1 shW 67 true _ hT hr1 sh_small (by omega)).mono ?_
  rw [kk3]
  rintro e w4 ⟨rfl, hb4⟩
  clear cB1 fB1 lB1
  have hc4 : Below w3.heap.size w3 w4 := bnext (Below.refl _ _) hb4
  replace kB1 := kB1.to hc4
  replace hr1 := hr1.below hc4 (Nat.le_refl _)
  replace hT := hT.below hc4
  replace hC := hC.below hc4
  replace hP := hP.below hc4
  obtain ⟨cB1, fB1, lB1⟩ := kB1.facts
  clear cB1 fB1 lB1
  clear kB1 hr1
  go_wp2_with fail
  refine (runs_some 3 1 true 62 _ kr0).mono ?_
  rintro e w5 ⟨rfl, hb5⟩
  have hc5 : Below w4.heap.size w4 w5 := bnext (Below.refl _ _) hb5
  replace hT := hT.below hc5
  replace hC := hC.below hc5
  replace hP := hP.below hc5
  go_wp2_with fail
  refine (runs_none 4 4 true _ kr1).mono ?_
  rintro e w6 ⟨rfl, hb6⟩
  have hc6 : Below w5.heap.size w5 w6 := bnext (Below.refl _ _) hb6
  replace hT := hT.below hc6
  replace hC := hC.below hc6
  replace hP := hP.below hc6
  go_wp2_with fail
  refine (runs_some 5 1 true 62 _ kr2).mono ?_
  rintro e w7 ⟨rfl, hb7⟩
  have hc7 : Below w6.heap.size w6 w7 := bnext (Below.refl _ _) hb7
  replace hT := hT.below hc7
  replace hC := hC.below hc7
  replace hP := hP.below hc7
  go_wp2_with fail
  refine (runs_none 6 1 true _ kr3).mono ?_
  rintro e w8 ⟨rfl, hb8⟩
  have hc8 : Below w7.heap.size w7 w8 := bnext (Below.refl _ _) hb8
  replace hT := hT.below hc8
  replace hC := hC.below hc8
  replace hP := hP.below hc8
  go_wp2_with fail
  refine (runs_some 3 1 false 0 _ kr4).mono ?_
  rintro e w9 ⟨rfl, hb9⟩
  have hc9 : Below w8.heap.size w8 w9 := bnext (Below.refl _ _) hb9
  replace hT := hT.below hc9
  replace hC := hC.below hc9
  replace hP := hP.below hc9
  go_wp2_with fail
  refine (runs_some 3 67 false 0 _ kr5).mono ?_
  rintro e w10 ⟨rfl, hb10⟩
  have hc10 : Below w9.heap.size w9 w10 := bnext (Below.refl _ _) hb10
  replace hT := hT.below hc10
  replace hC := hC.below hc10
  replace hP := hP.below hc10
  go_wp2_with fail
  refine (runs_none 64 64 false _ kr6).mono ?_
  rintro e w11 ⟨rfl, hb11⟩
  have hc11 : Below w10.heap.size w10 w11 := bnext (Below.refl _ _) hb11
  replace hT := hT.below hc11
  replace hC := hC.below hc11
  replace hP := hP.below hc11
  go_wp2_with fail
  refine (runs_some 4 2 false 0 _ kr7).mono ?_
  rintro e w12 ⟨rfl, hb12⟩
  have hc12 : Below w11.heap.size w11 w12 := bnext (Below.refl _ _) hb12
  replace hT := hT.below hc12
  replace hC := hC.below hc12
  replace hP := hP.below hc12
  go_wp2_with fail
  refine (set_any 6 [0, 5] _ 2 _ (Rd.new #[.int .i64 0, .int .i64 5] 3 rfl) (by decide) (by omega) (by decide)).mono ?_
  rintro e w13 ⟨A2, m2, c2, rfl, hown2, hb13⟩
  have hc13 : Below w12.heap.size w12 w13 := bnext (balloc (Below.refl _ _) _) hb13
  replace hT := hT.below hc13
  replace hC := hC.below hc13
  replace hP := hP.below hc13
  have kS2 := (Bk.new w12 #[.int .i64 0, .int .i64 5] 3).to hb13
  try rw [show ((6 : Nat) : Int) = 6 from rfl]
  rw [show setW 6 [0, 5] ([0, 5] : List Int).length = [33] from kk4] at hown2
  obtain rfl : m2 = 1 := by have := hown2.1; rw [uw_len] at this; simp at this; omega
  have hr2 := Rd.own hown2
  clear hown2
  obtain ⟨cS2, fS2, lS2⟩ := kS2.facts
  go_wp2_with fail
  refine (Text_any 6 A2 1 c2 [33] _ (hr2.alloc _) (sw1 33 (by omega)) (by omega) (hP.alloc _)).mono ?_
  rw [kk5]
  rintro e w14 ⟨rfl, hb14⟩
  clear cS2 fS2 lS2
  have hc14 : Below w13.heap.size w13 w14 := bnext (balloc (Below.refl _ _) _) hb14
  replace kS2 := kS2.to hc14
  replace hr2 := hr2.below hc14 (Nat.le_refl _)
  replace hT := hT.below hc14
  replace hC := hC.below hc14
  replace hP := hP.below hc14
  have kB2 := (Bk.new w13 #[.int .i64 6, .slice A2 1 c2] 24).to hb14
  obtain ⟨cS2, fS2, lS2⟩ := kS2.facts
  obtain ⟨cB2, fB2, lB2⟩ := kB2.facts
  go_wp2_with fail
  refine (Parse_any [54, 58, 49, 50] _ (by decide) hC).mono ?_
  rintro e w15 ⟨A3, m3, c3, he, hown3, hb15⟩
  clear cS2 fS2 lS2 cB2 fB2 lB2
  have hc15 : Below w14.heap.size w14 w15 := bnext (Below.refl _ _) hb15
  replace kS2 := kS2.to hc15
  replace kB2 := kB2.to hc15
  replace hr2 := hr2.below hc15 (Nat.le_refl _)
  replace hT := hT.below hc15
  replace hC := hC.below hc15
  replace hP := hP.below hc15
  rw [kk6] at he hown3
  subst he
  obtain rfl : m3 = 1 := by have := hown3.1; rw [uw_len] at this; simp at this; omega
  have hr3 := Rd.own hown3
  clear hown3
  obtain ⟨cS2, fS2, lS2⟩ := kS2.facts
  obtain ⟨cB2, fB2, lB2⟩ := kB2.facts
  go_wp2_with fail
  refine (Parse_any [48, 58] _ (by decide) (hC.alloc _)).mono ?_
  rintro e w16 ⟨A4, m4, c4, he, hown4, hb16⟩
  clear cS2 fS2 lS2 cB2 fB2 lB2
  have hc16 : Below w15.heap.size w15 w16 := bnext (balloc (Below.refl _ _) _) hb16
  replace kS2 := kS2.to hc16
  replace kB2 := kB2.to hc16
  replace hr2 := hr2.below hc16 (Nat.le_refl _)
  replace hr3 := hr3.below hc16 (Nat.le_refl _)
  replace hT := hT.below hc16
  replace hC := hC.below hc16
  replace hP := hP.below hc16
  have kB3 := (Bk.new w15 #[.int .i64 6, .slice A3 1 c3] 24).to hb16
  rw [kk7] at he hown4
  subst he
  clear hown4
  obtain ⟨cS2, fS2, lS2⟩ := kS2.facts
  obtain ⟨cB2, fB2, lB2⟩ := kB2.facts
  obtain ⟨cB3, fB3, lB3⟩ := kB3.facts
  go_wp2_with fail
  refine (Combine_any 6 A2 1 c2 [33] 6 A2 1 c2 [33] 5 _ (hr2.alloc _) (sw1 33 (by omega)) (by omega) (hr2.alloc _) (sw1 33 (by omega)) (by omega)).mono ?_
  rintro e w17 ⟨A5, m5, c5, he, hown5, hb17⟩
  clear cS2 fS2 lS2 cB2 fB2 lB2 cB3 fB3 lB3
  have hc17 : Below w16.heap.size w16 w17 := bnext (balloc (Below.refl _ _) _) hb17
  replace kS2 := kS2.to hc17
  replace kB2 := kB2.to hc17
  replace kB3 := kB3.to hc17
  replace hr2 := hr2.below hc17 (Nat.le_refl _)
  replace hr3 := hr3.below hc17 (Nat.le_refl _)
  replace hT := hT.below hc17
  replace hC := hC.below hc17
  replace hP := hP.below hc17
  have kB4 := (Bk.new w16 #[.int .i64 0, .slice A4 m4 c4] 24).to hb17
  rw [kk8] at he hown5
  subst he
  obtain rfl : m5 = 0 := by have := hown5.1; rw [uw_len] at this; simp at this; omega
  clear hown5
  obtain ⟨cS2, fS2, lS2⟩ := kS2.facts
  obtain ⟨cB2, fB2, lB2⟩ := kB2.facts
  obtain ⟨cB3, fB3, lB3⟩ := kB3.facts
  obtain ⟨cB4, fB4, lB4⟩ := kB4.facts
  go_upto_region 11 with fail
  have kB5 := Bk.new w17 #[.int .i64 0, .slice A5 0 c5] 24
  have hcZ : Below w17.heap.size w17 (w17.alloc (.cells #[.int .i64 0, .slice A5 0 c5] 24)) := balloc (Below.refl _ _) _
  have hBZ : Below w.heap.size w (w17.alloc (.cells #[.int .i64 0, .slice A5 0 c5] 24)) := bnext (bnext (bnext (bnext (bnext (bnext (bnext (bnext (bnext (bnext (bnext (bnext (bnext (bnext (bnext (bnext (bnext hc1 hc2) hc3) hc4) hc5) hc6) hc7) hc8) hc9) hc10) hc11) hc12) hc13) hc14) hc15) hc16) hc17) hcZ
  replace kB2 := kB2.to hcZ
  replace kB3 := kB3.to hcZ
  replace kB4 := kB4.to hcZ
  replace hr2 := hr2.below hcZ (Nat.le_refl _)
  replace hr3 := hr3.below hcZ (Nat.le_refl _)
  replace hT := hT.below hcZ
  replace hC := hC.below hcZ
  replace hP := hP.below hcZ
  clear cB2 fB2 lB2 cB3 fB3 lB3 cB4 fB4 lB4
  clear hc1 hb1 hc2 hb2 hc3 hb3 hc4 hb4 hc5 hb5 hc6 hb6 hc7 hb7 hc8 hb8 hc9 hb9 hc10 hb10 hc11 hb11 hc12 hb12 hc13 hb13 hc14 hb14 hc15 hb15 hc16 hb16 hc17 hb17 hcZ
  try clear kS2 cS2 fS2 lS2
  generalize w17.alloc (.cells #[.int .i64 0, .slice A5 0 c5] 24) = wZ at *
  go_wp2_with fail
  go_loop [20] (fun t => ∃ k : Nat, k ≤ 257 ∧ t = .string ⟨(txt0 k).toArray⟩) (fun t => 300 - (match t with | .string b => b.size | _ => 0))
  case atStart => exact ⟨0, by omega, rfl⟩
  case round =>
    obtain ⟨k, hk, rfl⟩ := hrel
    obtain ⟨T, hTT⟩ : ∃ T, txt0 k = T := ⟨_, rfl⟩
    have hTl : T.length = 5 + k := by rw [← hTT]; unfold txt0; simp; omega
    have hT2 : txt0 (k + 1) = T ++ [48] := by rw [← hTT]; unfold txt0; rw [List.append_assoc, List.replicate_succ']
    rw [hTT]
    have HT2 := Lib.hid hT2
    have HTT := Lib.hid hTT
    have HTl := Lib.hid hTl
    by_cases hlt : k < 257
    · have hlI : (T.length : Int) < 262 := by omega
      have hTb : T.length ≤ 300 := by omega
      clear hT2 hTT hTl
      go_wp2_with fail
      all_goals try (exfalso; omega)
      go_round
      case rel => exact ⟨k + 1, by omega, by rw [HT2.out]; exact congrArg Value.string (ByteArray.ext (by simp))⟩
      case measure =>
        have e1 : ({ data := T.toArray } ++ { data := #[48] } : ByteArray).size = T.length + 1 := by rw [ByteArray.size_append, bsize]; rfl
        have e2 := bsize T
        simp only [e1, e2]
        have := HTl.out
        omega
    · obtain rfl : k = 257 := by omega
      have hlI : ¬ (T.length : Int) < 262 := by omega
      have hTb : T.length ≤ 10000 := by omega
      have HF : Hid ((parB T).2.2 = 2) := Lib.hid (by rw [← hTT]; exact kk11)
      clear hT2 hTT hTl
      obtain ⟨cB2, fB2, lB2⟩ := kB2.facts
      obtain ⟨cB3, fB3, lB3⟩ := kB3.facts
      obtain ⟨cB4, fB4, lB4⟩ := kB4.facts
      obtain ⟨cB5, fB5, lB5⟩ := kB5.facts
      go_wp2_with fail
      refine (combines_true 1 [0, 1, 2] 7 _ 3 _ (Rd.new #[.int .i64 0, .int .i64 1, .int .i64 2] 3 rfl) (by decide) (by decide) kc1.1 (by omega) kc1.2).mono ?_
      rintro e w18 ⟨rfl, hb18⟩
      clear cB2 fB2 lB2 cB3 fB3 lB3 cB4 fB4 lB4 cB5 fB5 lB5
      have hc18 : Below wZ.heap.size wZ w18 := bnext (balloc (Below.refl _ _) _) hb18
      replace kB2 := kB2.to hc18
      replace kB3 := kB3.to hc18
      replace kB4 := kB4.to hc18
      replace kB5 := kB5.to hc18
      replace hr2 := hr2.below hc18 (Nat.le_refl _)
      replace hr3 := hr3.below hc18 (Nat.le_refl _)
      replace hT := hT.below hc18
      replace hC := hC.below hc18
      replace hP := hP.below hc18
      have kL0 := (Bk.new wZ #[.int .i64 0, .int .i64 1, .int .i64 2] 3).to hb18
      obtain ⟨cB2, fB2, lB2⟩ := kB2.facts
      obtain ⟨cB3, fB3, lB3⟩ := kB3.facts
      obtain ⟨cB4, fB4, lB4⟩ := kB4.facts
      obtain ⟨cB5, fB5, lB5⟩ := kB5.facts
      obtain ⟨cL0, fL0, lL0⟩ := kL0.facts
      clear kL0 cL0 fL0 lL0
      go_wp2_with fail
      refine (combines_true 2 [1] 2 _ 1 _ (Rd.new #[.int .i64 1] 3 rfl) (by decide) (by decide) kc2.1 (by omega) kc2.2).mono ?_
      rintro e w19 ⟨rfl, hb19⟩
      clear cB2 fB2 lB2 cB3 fB3 lB3 cB4 fB4 lB4 cB5 fB5 lB5
      have hc19 : Below w18.heap.size w18 w19 := bnext (balloc (Below.refl _ _) _) hb19
      replace kB2 := kB2.to hc19
      replace kB3 := kB3.to hc19
      replace kB4 := kB4.to hc19
      replace kB5 := kB5.to hc19
      replace hr2 := hr2.below hc19 (Nat.le_refl _)
      replace hr3 := hr3.below hc19 (Nat.le_refl _)
      replace hT := hT.below hc19
      replace hC := hC.below hc19
      replace hP := hP.below hc19
      have kL1 := (Bk.new w18 #[.int .i64 1] 3).to hb19
      obtain ⟨cB2, fB2, lB2⟩ := kB2.facts
      obtain ⟨cB3, fB3, lB3⟩ := kB3.facts
      obtain ⟨cB4, fB4, lB4⟩ := kB4.facts
      obtain ⟨cB5, fB5, lB5⟩ := kB5.facts
      obtain ⟨cL1, fL1, lL1⟩ := kL1.facts
      clear kL1 cL1 fL1 lL1
      go_wp2_with fail
      refine (combines_true 3 [0] 1 _ 1 _ (Rd.new #[.int .i64 0] 3 rfl) (by decide) (by decide) kc3.1 (by omega) kc3.2).mono ?_
      rintro e w20 ⟨rfl, hb20⟩
      clear cB2 fB2 lB2 cB3 fB3 lB3 cB4 fB4 lB4 cB5 fB5 lB5
      have hc20 : Below w19.heap.size w19 w20 := bnext (balloc (Below.refl _ _) _) hb20
      replace kB2 := kB2.to hc20
      replace kB3 := kB3.to hc20
      replace kB4 := kB4.to hc20
      replace kB5 := kB5.to hc20
      replace hr2 := hr2.below hc20 (Nat.le_refl _)
      replace hr3 := hr3.below hc20 (Nat.le_refl _)
      replace hT := hT.below hc20
      replace hC := hC.below hc20
      replace hP := hP.below hc20
      have kL2 := (Bk.new w19 #[.int .i64 0] 3).to hb20
      obtain ⟨cB2, fB2, lB2⟩ := kB2.facts
      obtain ⟨cB3, fB3, lB3⟩ := kB3.facts
      obtain ⟨cB4, fB4, lB4⟩ := kB4.facts
      obtain ⟨cB5, fB5, lB5⟩ := kB5.facts
      obtain ⟨cL2, fL2, lL2⟩ := kL2.facts
      clear kL2 cL2 fL2 lL2
      go_wp2_with fail
      refine (combines_true 4 [0, 2] 5 _ 2 _ (Rd.new #[.int .i64 0, .int .i64 2] 3 rfl) (by decide) (by decide) kc4.1 (by omega) kc4.2).mono ?_
      rintro e w21 ⟨rfl, hb21⟩
      clear cB2 fB2 lB2 cB3 fB3 lB3 cB4 fB4 lB4 cB5 fB5 lB5
      have hc21 : Below w20.heap.size w20 w21 := bnext (balloc (Below.refl _ _) _) hb21
      replace kB2 := kB2.to hc21
      replace kB3 := kB3.to hc21
      replace kB4 := kB4.to hc21
      replace kB5 := kB5.to hc21
      replace hr2 := hr2.below hc21 (Nat.le_refl _)
      replace hr3 := hr3.below hc21 (Nat.le_refl _)
      replace hT := hT.below hc21
      replace hC := hC.below hc21
      replace hP := hP.below hc21
      have kL3 := (Bk.new w20 #[.int .i64 0, .int .i64 2] 3).to hb21
      obtain ⟨cB2, fB2, lB2⟩ := kB2.facts
      obtain ⟨cB3, fB3, lB3⟩ := kB3.facts
      obtain ⟨cB4, fB4, lB4⟩ := kB4.facts
      obtain ⟨cB5, fB5, lB5⟩ := kB5.facts
      obtain ⟨cL3, fL3, lL3⟩ := kL3.facts
      clear kL3 cL3 fL3 lL3
      go_wp2_with fail
      refine (fails_any [54, 58, 49, 52] _ (by decide) hC).mono ?_
      rw [kk9]
      rintro e w22 ⟨rfl, hb22⟩
      clear cB2 fB2 lB2 cB3 fB3 lB3 cB4 fB4 lB4 cB5 fB5 lB5
      have hc22 : Below w21.heap.size w21 w22 := bnext (Below.refl _ _) hb22
      replace kB2 := kB2.to hc22
      replace kB3 := kB3.to hc22
      replace kB4 := kB4.to hc22
      replace kB5 := kB5.to hc22
      replace hr2 := hr2.below hc22 (Nat.le_refl _)
      replace hr3 := hr3.below hc22 (Nat.le_refl _)
      replace hT := hT.below hc22
      replace hC := hC.below hc22
      replace hP := hP.below hc22
      obtain ⟨cB2, fB2, lB2⟩ := kB2.facts
      obtain ⟨cB3, fB3, lB3⟩ := kB3.facts
      obtain ⟨cB4, fB4, lB4⟩ := kB4.facts
      obtain ⟨cB5, fB5, lB5⟩ := kB5.facts
      go_wp2_with fail
      refine (fails_any [48, 54, 58, 49, 50] _ (by decide) hC).mono ?_
      rw [kk10]
      rintro e w23 ⟨rfl, hb23⟩
      clear cB2 fB2 lB2 cB3 fB3 lB3 cB4 fB4 lB4 cB5 fB5 lB5
      have hc23 : Below w22.heap.size w22 w23 := bnext (Below.refl _ _) hb23
      replace kB2 := kB2.to hc23
      replace kB3 := kB3.to hc23
      replace kB4 := kB4.to hc23
      replace kB5 := kB5.to hc23
      replace hr2 := hr2.below hc23 (Nat.le_refl _)
      replace hr3 := hr3.below hc23 (Nat.le_refl _)
      replace hT := hT.below hc23
      replace hC := hC.below hc23
      replace hP := hP.below hc23
      obtain ⟨cB2, fB2, lB2⟩ := kB2.facts
      obtain ⟨cB3, fB3, lB3⟩ := kB3.facts
      obtain ⟨cB4, fB4, lB4⟩ := kB4.facts
      obtain ⟨cB5, fB5, lB5⟩ := kB5.facts
      go_wp2_with fail
      refine (fails_any T _ hTb hC).mono ?_
      rw [HF.out]
      rintro e w24 ⟨rfl, hb24⟩
      clear cB2 fB2 lB2 cB3 fB3 lB3 cB4 fB4 lB4 cB5 fB5 lB5
      have hc24 : Below w23.heap.size w23 w24 := bnext (Below.refl _ _) hb24
      replace kB2 := kB2.to hc24
      replace kB3 := kB3.to hc24
      replace kB4 := kB4.to hc24
      replace kB5 := kB5.to hc24
      replace hr2 := hr2.below hc24 (Nat.le_refl _)
      replace hr3 := hr3.below hc24 (Nat.le_refl _)
      replace hT := hT.below hc24
      replace hC := hC.below hc24
      replace hP := hP.below hc24
      obtain ⟨cB2, fB2, lB2⟩ := kB2.facts
      obtain ⟨cB3, fB3, lB3⟩ := kB3.facts
      obtain ⟨cB4, fB4, lB4⟩ := kB4.facts
      obtain ⟨cB5, fB5, lB5⟩ := kB5.facts
      go_wp2_with fail
      refine (awake_true _ hT).mono ?_
      rintro e w25 ⟨rfl, hb25⟩
      clear cB2 fB2 lB2 cB3 fB3 lB3 cB4 fB4 lB4 cB5 fB5 lB5
      have hc25 : Below w24.heap.size w24 w25 := bnext (Below.refl _ _) hb25
      replace kB2 := kB2.to hc25
      replace kB3 := kB3.to hc25
      replace kB4 := kB4.to hc25
      replace kB5 := kB5.to hc25
      replace hr2 := hr2.below hc25 (Nat.le_refl _)
      replace hr3 := hr3.below hc25 (Nat.le_refl _)
      replace hT := hT.below hc25
      replace hC := hC.below hc25
      replace hP := hP.below hc25
      obtain ⟨cB2, fB2, lB2⟩ := kB2.facts
      obtain ⟨cB3, fB3, lB3⟩ := kB3.facts
      obtain ⟨cB4, fB4, lB4⟩ := kB4.facts
      obtain ⟨cB5, fB5, lB5⟩ := kB5.facts
      go_wp2_with fail
      refine (SameBits_eq 6 A3 A2 1 c3 c2 [33] _ hr3 hr2 (sw1 33 (by omega)) (by omega)).mono ?_
      rintro e w26 ⟨rfl, hb26⟩
      clear cB2 fB2 lB2 cB3 fB3 lB3 cB4 fB4 lB4 cB5 fB5 lB5
      have hc26 : Below w25.heap.size w25 w26 := bnext (Below.refl _ _) hb26
      replace kB2 := kB2.to hc26
      replace kB3 := kB3.to hc26
      replace kB4 := kB4.to hc26
      replace kB5 := kB5.to hc26
      replace hr2 := hr2.below hc26 (Nat.le_refl _)
      replace hr3 := hr3.below hc26 (Nat.le_refl _)
      replace hT := hT.below hc26
      replace hC := hC.below hc26
      replace hP := hP.below hc26
      obtain ⟨cB2, fB2, lB2⟩ := kB2.facts
      obtain ⟨cB3, fB3, lB3⟩ := kB3.facts
      obtain ⟨cB4, fB4, lB4⟩ := kB4.facts
      obtain ⟨cB5, fB5, lB5⟩ := kB5.facts
      go_wp2_with fail
      go_ret
      exact ⟨rfl, bnext (bnext (bnext (bnext (bnext (bnext (bnext (bnext (bnext hBZ hc18) hc19) hc20) hc21) hc22) hc23) hc24) hc25) hc26⟩
end Go.Proofs.YtihbdndigfnhkaaDoor
