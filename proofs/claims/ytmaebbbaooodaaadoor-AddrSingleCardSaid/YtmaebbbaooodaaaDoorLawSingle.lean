/- AddrSingle returns true for all numbers. -/
import Derived.Test.YtmaebbbaooodaaaDoorAdR
import Derived.Test.YtmaebbbaooodaaaDoorAwake03
namespace Go.Proofs.YtmaebbbaooodaaaDoor
open Go Go.Proofs Go.RowKit
set_option linter.unusedSimpArgs false
set_option linter.unusedVariables false
set_option maxRecDepth 100000

set_option maxHeartbeats 4000000 in
theorem AddrSingle_true (n m : Int) (w : World) (hC : CutOK w) :
    Calls Tryd.prog 4 #[.int .i64 n, .int .i64 m] w fun e w' => e = .returned (.bool true) ∧ Below w.heap.size w w' := by
  obtain ⟨a0, a1, a2⟩ := mLo_bd n
  obtain ⟨b0, b1, b2⟩ := mLo_bd m
  have HN := Lib.hid (made_any n)
  have HM := Lib.hid (made_any m)
  generalize mLo n = A at *
  generalize mHi n = B at *
  generalize mLo m = C at *
  generalize mHi m = D at *
  obtain ⟨p, rfl⟩ : ∃ q : Nat, A = q := ⟨A.toNat, by omega⟩
  obtain ⟨q, rfl⟩ : ∃ q : Nat, B = q := ⟨B.toNat, by omega⟩
  obtain ⟨r, rfl⟩ : ∃ q : Nat, C = q := ⟨C.toNat, by omega⟩
  obtain ⟨u, rfl⟩ : ∃ q : Nat, D = q := ⟨D.toNat, by omega⟩
  have ht1 : textA p q = (txtA p q, 0) := by unfold textA; rw [if_neg (by omega)]; rfl
  have ht2 : textA r u = (txtA r u, 0) := by unfold textA; rw [if_neg (by omega)]; rfl
  have hp : parA (txtA p q) = ((p : Int), (q : Int), 0) := back_one p q (by omega) (by omega)
  have hl := txtA_len p q (by omega) (by omega)
  have hiff := txtA_inj p q r u (by omega) (by omega) (by omega) (by omega)
  obtain ⟨t1, e1⟩ : ∃ t1, t1 = txtA p q := ⟨_, rfl⟩
  obtain ⟨t2, e2⟩ : ∃ t2, t2 = txtA r u := ⟨_, rfl⟩
  rw [← e1] at ht1 hp hl hiff
  rw [← e2] at ht2 hiff
  have H1 := Lib.hid ht1
  have H2 := Lib.hid ht2
  have HP := Lib.hid hp
  have hcase : (t1 = t2 ∧ p = r ∧ q = u) ∨ ((t1 == t2) = false ∧ ((p : Int) == (r : Int)) = false) ∨ ((t1 == t2) = false ∧ p = r ∧ ((q : Int) == (u : Int)) = false) := by
    by_cases h1 : p = r
    · by_cases h2 : q = u
      · exact .inl ⟨hiff.2 ⟨h1, h2⟩, h1, h2⟩
      · refine .inr (.inr ⟨?_, h1, by simp; omega⟩)
        rw [beq_eq_false_iff_ne]; exact fun h => h2 (hiff.1 h).2
    · refine .inr (.inl ⟨?_, by simp; omega⟩)
      rw [beq_eq_false_iff_ne]; exact fun h => h1 (hiff.1 h).1
  clear ht1 ht2 hp e1 e2 hiff
  rcases hcase with ⟨rfl, rfl, rfl⟩ | ⟨d1, d2⟩ | ⟨d1, rfl, d2⟩
  · go_enter Tryd.func4, Tryd.ntmps4
    go_wp2_with fail
    refine (HN.out _).mono ?_
    rintro e w1 ⟨rfl, hb1⟩
    have hc1 : Below w.heap.size w w1 := bnext (Below.refl _ _) hb1
    replace hC := hC.below hc1
    go_wp2_with fail
    refine (HM.out _).mono ?_
    rintro e w2 ⟨rfl, hb2⟩
    have hc2 : Below w1.heap.size w1 w2 := bnext (Below.refl _ _) hb2
    replace hC := hC.below hc2
    go_wp2_with fail
    refine (Text_any p q _).mono ?_
    rw [H1.out]
    rintro e w3 ⟨rfl, hb3⟩
    have hc3 : Below w2.heap.size w2 w3 := bnext (balloc (balloc (Below.refl _ _) _) _) hb3
    replace hC := hC.below hc3
    have kA := ((Bk.new w2 #[.int .i64 (p : Int), .int .i64 (q : Int)] 23).alloc (.cells #[.int .i64 (p : Int), .int .i64 (q : Int)] 23)).to hb3
    have kB := (Bk.new (w2.alloc (.cells #[.int .i64 (p : Int), .int .i64 (q : Int)] 23)) #[.int .i64 (p : Int), .int .i64 (q : Int)] 23).to hb3
    simp only [World.size_alloc] at kB
    obtain ⟨cA, fA, lA⟩ := kA.facts
    obtain ⟨cB, fB, lB⟩ := kB.facts
    go_wp2_with fail
    refine (Text_any p q _).mono ?_
    rw [H2.out]
    rintro e w4 ⟨rfl, hb4⟩
    clear cA fA lA cB fB lB
    have hc4 : Below w3.heap.size w3 w4 := bnext (Below.refl _ _) hb4
    replace kA := kA.to hc4
    replace kB := kB.to hc4
    replace hC := hC.below hc4
    obtain ⟨cA, fA, lA⟩ := kA.facts
    obtain ⟨cB, fB, lB⟩ := kB.facts
    go_wp2_with fail
    refine (Parse_any t1 _ (by omega) hC).mono ?_
    rintro e w5 ⟨he, hb5⟩
    clear cA fA lA cB fB lB
    have hc5 : Below w4.heap.size w4 w5 := bnext (Below.refl _ _) hb5
    replace kA := kA.to hc5
    replace kB := kB.to hc5
    replace hC := hC.below hc5
    rw [HP.out] at he
    subst he
    simp only
    obtain ⟨cA, fA, lA⟩ := kA.facts
    obtain ⟨cB, fB, lB⟩ := kB.facts
    go_wp2_with fail
    refine (awake_true _).mono ?_
    rintro e w6 ⟨rfl, hb6⟩
    clear cA fA lA cB fB lB
    have hc6 : Below w5.heap.size w5 w6 := bnext (balloc (Below.refl _ _) _) hb6
    replace kA := kA.to hc6
    replace kB := kB.to hc6
    replace hC := hC.below hc6
    have kX := (Bk.new w5 #[.int .i64 (p : Int), .int .i64 (q : Int)] 23).to hb6
    obtain ⟨cA, fA, lA⟩ := kA.facts
    obtain ⟨cB, fB, lB⟩ := kB.facts
    obtain ⟨cX, fX, lX⟩ := kX.facts
    go_wp2_with fail
    go_ret
    exact ⟨rfl, bnext (bnext (bnext (bnext (bnext hc1 hc2) hc3) hc4) hc5) hc6⟩
  · go_enter Tryd.func4, Tryd.ntmps4
    go_wp2_with fail
    refine (HN.out _).mono ?_
    rintro e w1 ⟨rfl, hb1⟩
    have hc1 : Below w.heap.size w w1 := bnext (Below.refl _ _) hb1
    replace hC := hC.below hc1
    go_wp2_with fail
    refine (HM.out _).mono ?_
    rintro e w2 ⟨rfl, hb2⟩
    have hc2 : Below w1.heap.size w1 w2 := bnext (Below.refl _ _) hb2
    replace hC := hC.below hc2
    go_wp2_with fail
    refine (Text_any p q _).mono ?_
    rw [H1.out]
    rintro e w3 ⟨rfl, hb3⟩
    have hc3 : Below w2.heap.size w2 w3 := bnext (balloc (balloc (Below.refl _ _) _) _) hb3
    replace hC := hC.below hc3
    have kA := ((Bk.new w2 #[.int .i64 (p : Int), .int .i64 (q : Int)] 23).alloc (.cells #[.int .i64 (r : Int), .int .i64 (u : Int)] 23)).to hb3
    have kB := (Bk.new (w2.alloc (.cells #[.int .i64 (p : Int), .int .i64 (q : Int)] 23)) #[.int .i64 (r : Int), .int .i64 (u : Int)] 23).to hb3
    simp only [World.size_alloc] at kB
    obtain ⟨cA, fA, lA⟩ := kA.facts
    obtain ⟨cB, fB, lB⟩ := kB.facts
    go_wp2_with fail
    refine (Text_any r u _).mono ?_
    rw [H2.out]
    rintro e w4 ⟨rfl, hb4⟩
    clear cA fA lA cB fB lB
    have hc4 : Below w3.heap.size w3 w4 := bnext (Below.refl _ _) hb4
    replace kA := kA.to hc4
    replace kB := kB.to hc4
    replace hC := hC.below hc4
    obtain ⟨cA, fA, lA⟩ := kA.facts
    obtain ⟨cB, fB, lB⟩ := kB.facts
    go_wp2_with fail
    refine (Parse_any t1 _ (by omega) hC).mono ?_
    rintro e w5 ⟨he, hb5⟩
    clear cA fA lA cB fB lB
    have hc5 : Below w4.heap.size w4 w5 := bnext (Below.refl _ _) hb5
    replace kA := kA.to hc5
    replace kB := kB.to hc5
    replace hC := hC.below hc5
    rw [HP.out] at he
    subst he
    simp only
    obtain ⟨cA, fA, lA⟩ := kA.facts
    obtain ⟨cB, fB, lB⟩ := kB.facts
    go_wp2_with fail
    refine (awake_true _).mono ?_
    rintro e w6 ⟨rfl, hb6⟩
    clear cA fA lA cB fB lB
    have hc6 : Below w5.heap.size w5 w6 := bnext (balloc (Below.refl _ _) _) hb6
    replace kA := kA.to hc6
    replace kB := kB.to hc6
    replace hC := hC.below hc6
    have kX := (Bk.new w5 #[.int .i64 (p : Int), .int .i64 (q : Int)] 23).to hb6
    obtain ⟨cA, fA, lA⟩ := kA.facts
    obtain ⟨cB, fB, lB⟩ := kB.facts
    obtain ⟨cX, fX, lX⟩ := kX.facts
    go_wp2_with fail
    go_ret
    exact ⟨rfl, bnext (bnext (bnext (bnext (bnext hc1 hc2) hc3) hc4) hc5) hc6⟩
  · go_enter Tryd.func4, Tryd.ntmps4
    go_wp2_with fail
    refine (HN.out _).mono ?_
    rintro e w1 ⟨rfl, hb1⟩
    have hc1 : Below w.heap.size w w1 := bnext (Below.refl _ _) hb1
    replace hC := hC.below hc1
    go_wp2_with fail
    refine (HM.out _).mono ?_
    rintro e w2 ⟨rfl, hb2⟩
    have hc2 : Below w1.heap.size w1 w2 := bnext (Below.refl _ _) hb2
    replace hC := hC.below hc2
    go_wp2_with fail
    refine (Text_any p q _).mono ?_
    rw [H1.out]
    rintro e w3 ⟨rfl, hb3⟩
    have hc3 : Below w2.heap.size w2 w3 := bnext (balloc (balloc (Below.refl _ _) _) _) hb3
    replace hC := hC.below hc3
    have kA := ((Bk.new w2 #[.int .i64 (p : Int), .int .i64 (q : Int)] 23).alloc (.cells #[.int .i64 (p : Int), .int .i64 (u : Int)] 23)).to hb3
    have kB := (Bk.new (w2.alloc (.cells #[.int .i64 (p : Int), .int .i64 (q : Int)] 23)) #[.int .i64 (p : Int), .int .i64 (u : Int)] 23).to hb3
    simp only [World.size_alloc] at kB
    obtain ⟨cA, fA, lA⟩ := kA.facts
    obtain ⟨cB, fB, lB⟩ := kB.facts
    go_wp2_with fail
    refine (Text_any p u _).mono ?_
    rw [H2.out]
    rintro e w4 ⟨rfl, hb4⟩
    clear cA fA lA cB fB lB
    have hc4 : Below w3.heap.size w3 w4 := bnext (Below.refl _ _) hb4
    replace kA := kA.to hc4
    replace kB := kB.to hc4
    replace hC := hC.below hc4
    obtain ⟨cA, fA, lA⟩ := kA.facts
    obtain ⟨cB, fB, lB⟩ := kB.facts
    go_wp2_with fail
    refine (Parse_any t1 _ (by omega) hC).mono ?_
    rintro e w5 ⟨he, hb5⟩
    clear cA fA lA cB fB lB
    have hc5 : Below w4.heap.size w4 w5 := bnext (Below.refl _ _) hb5
    replace kA := kA.to hc5
    replace kB := kB.to hc5
    replace hC := hC.below hc5
    rw [HP.out] at he
    subst he
    simp only
    obtain ⟨cA, fA, lA⟩ := kA.facts
    obtain ⟨cB, fB, lB⟩ := kB.facts
    go_wp2_with fail
    refine (awake_true _).mono ?_
    rintro e w6 ⟨rfl, hb6⟩
    clear cA fA lA cB fB lB
    have hc6 : Below w5.heap.size w5 w6 := bnext (balloc (Below.refl _ _) _) hb6
    replace kA := kA.to hc6
    replace kB := kB.to hc6
    replace hC := hC.below hc6
    have kX := (Bk.new w5 #[.int .i64 (p : Int), .int .i64 (q : Int)] 23).to hb6
    obtain ⟨cA, fA, lA⟩ := kA.facts
    obtain ⟨cB, fB, lB⟩ := kB.facts
    obtain ⟨cX, fX, lX⟩ := kX.facts
    go_wp2_with fail
    go_ret
    exact ⟨rfl, bnext (bnext (bnext (bnext (bnext hc1 hc2) hc3) hc4) hc5) hc6⟩
end Go.Proofs.YtmaebbbaooodaaaDoor
