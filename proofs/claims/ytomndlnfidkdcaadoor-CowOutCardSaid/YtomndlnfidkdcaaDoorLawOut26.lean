/- CowOut returns true, whatever the numbers. -/
import Derived.Test.YtomndlnfidkdcaaDoorCowJn
namespace Go.Proofs.YtomndlnfidkdcaaDoor
open Go Go.Proofs Go.RowKit Go.Maps
set_option linter.unusedSimpArgs false
set_option linter.unusedVariables false
set_option maxRecDepth 100000

set_option maxHeartbeats 16000000 in
theorem CowOut_true (zs : List Int) (A : Option Addr) (c : Nat) (table page : Int) (w : World) (hr : Rd w 1 A zs.length (iw zs)) (hn : zs.length ≤ maxLen) (hL : LayOK w) :
    Calls Tryd.prog 9 #[.slice A zs.length c, .int .i64 table, .int .i64 page] w fun e w' => e = .returned (.bool true) ∧ Below w.heap.size w w' := by
  have hB0 := Below.refl w.heap.size w
  go_enter Tryd.func9, Tryd.ntmps9
  go_wp2_with fail
  refine (CowKnown_true _ hL).mono ?_
  rintro e w1 ⟨rfl, hb1⟩
  replace hr := hr.below hb1 (Nat.le_refl _)
  replace hL := hL.below hb1
  replace hB0 := bnext hB0 hb1
  clear hb1
  go_wp2_with fail
  refine (made_any zs A c w1 hr hn hL).mono ?_
  rintro e w2 ⟨⟨v2, rfl, hS⟩, hb2⟩
  replace hL := hL.below hb2
  replace hB0 := bnext hB0 hb2
  have hM := mdTo_ok zs (min zs.length 40) (by omega)
  clear hb2 hr hn
  generalize mdTo zs (min zs.length 40) = t at *
  obtain ⟨A2, c2, rfl, hIn, hcap⟩ := hS.ins hM.fit
  obtain ⟨N, hN⟩ : ∃ N, N = t.length := ⟨_, rfl⟩
  rw [← hN] at hIn hcap ⊢
  have h1N : 1 ≤ N := by have := hM.lo; omega
  have hN4 : N ≤ 4 := by have := hM.hi; omega
  obtain ⟨b2, o2, rfl⟩ := hIn.base (by omega)
  clear hS
  obtain ⟨i, hi⟩ : ∃ i : Nat, table % (N : Int) = i := ⟨(table % (N : Int)).toNat, by have := Int.emod_nonneg table (show (N : Int) ≠ 0 by omega); omega⟩
  have hiN : i < N := by have := Int.emod_lt_of_pos table (show (0 : Int) < (N : Int) by omega); omega
  obtain ⟨j, hj⟩ : ∃ j : Nat, page % 6 = j := ⟨(page % 6).toNat, by have := Int.emod_nonneg page (show (6 : Int) ≠ 0 by omega); omega⟩
  have hj6 : j < 6 := by have := Int.emod_lt_of_pos page (show (0 : Int) < 6 by omega); omega
  have hm1 := Mod_any table N w2 (by omega) (by omega)
  have hm2 := Mod_any page 6 w2 (by omega) (by omega)
  rw [hi] at hm1
  rw [hj] at hm2
  have hit : i < t.length := by rw [← hN]; exact hiN
  have HM1 := Lib.hid hm1
  have HM2 := Lib.hid hm2
  have HN := Lib.hid hN
  have HIT := Lib.hid hit
  have hiN' : (i : Int) < (N : Int) := by omega
  have hj6' : (j : Int) < 6 := by omega
  clear hm1 hm2 hN hit hi hj
  obtain ⟨x, hx⟩ : ∃ x, x = wordAt t i j := ⟨_, rfl⟩
  rcases hent : entW x with ⟨k0, n0, a0, b0, c0⟩
  have hun : unpE x = 0 := by rw [hx]; exact hM.word HIT.out hj6
  obtain ⟨hk3, hn0, hn50⟩ := hM.bound HIT.out hj6 (show entW (wordAt t i j) = (k0, n0, a0, b0, c0) by rw [← hx]; exact hent)
  have hux : useW (wordAt t i j) = (k0, n0) := by rw [← hx]; simp [useW, useE, hent]
  have HX := Lib.hid hx
  have HENT := Lib.hid hent
  have HUN := Lib.hid hun
  have HUX := Lib.hid hux
  have HM := Lib.hid hM
  clear hx hent hun hux hM
  go_wp2_with fail
  refine HM1.out.mono ?_
  rintro e w' ⟨rfl, rfl⟩
  go_wp2_with fail
  refine HM2.out.mono ?_
  rintro e w' ⟨rfl, rfl⟩
  obtain ⟨bR1, oR1, cR1, hb1l, hc1, hr1l, hw1⟩ := hIn.cells hiN (HM.out.row HIT.out) hj6
  rw [← HX.out] at hw1
  go_wp2_with fail
  refine (oUnpack x k0 n0 a0 b0 c0 _ HUN.out HENT.out hL).mono ?_
  rintro e w3 ⟨rfl, hb3⟩
  replace hIn := hIn.to hb3
  replace hL := hL.below hb3
  replace hB0 := bnext hB0 hb3
  clear hb3 hb1l hc1 hr1l hw1
  by_cases hk1 : k0 = 1
  case neg =>
    have hkb : (k0 != 1) = true := by simpa using hk1
    clear hk1 hk3
    go_wp2
    go_ret
    exact ⟨rfl, balloc hB0 _⟩
  subst hk1
  have kX := Bk.new w3 #[.int .i64 1, .int .i64 n0, .bool a0, .bool b0, .bool c0] 61
  have hA4 : Below w3.heap.size w3 (w3.alloc (.cells #[.int .i64 1, .int .i64 n0, .bool a0, .bool b0, .bool c0] 61)) := balloc (Below.refl _ _) _
  replace hIn := hIn.to hA4
  replace hL := hL.below hA4
  replace hB0 := bnext hB0 hA4
  clear hA4
  go_wp2_with fail
  generalize w3.alloc (.cells #[.int .i64 1, .int .i64 n0, .bool a0, .bool b0, .bool c0] 61) = w4 at *
  obtain ⟨hev, hvT, hlT, hsT, hshT, heT⟩ := evict HM.out HIT.out hj6 HUX.out
  have hsh := Sharers_any _ N c2 t (i : Int) (j : Int) w4 hIn hL
  rw [HM.out.shr HIT.out hj6] at hsh
  obtain ⟨L, hLL⟩ : ∃ L, L = shL t i j := ⟨_, rfl⟩
  have hshr2 : shR (outT t n0) i j = (L, 0) := by
    rw [hLL, ← hshT]
    unfold shR
    rw [if_neg (by simp [ask_ok hvT (by rw [hlT]; exact HIT.out) (by rw [hsT _ (rowAt_mem (by rw [hlT]; exact HIT.out))]; exact hj6)])]
    simp only [Int.toNat_natCast]
  rw [← hLL] at hsh hev
  obtain ⟨M, hMl⟩ : ∃ M, M = L.length := ⟨_, rfl⟩
  have hM24 : M ≤ 24 := by
    have h1 := HM.out.few (useW (wordAt t i j))
    have h2 := shAll_cnt HIT.out (j := j) (by rw [HM.out.row HIT.out]; exact hj6)
    rw [hMl, hLL]
    unfold shL
    split
    · simp
    · omega
  rw [← hMl, show (((M + 1 : Nat)) : Int) = (M : Int) + 1 by omega] at hev
  have HSH := Lib.hid hsh
  have HEV := Lib.hid hev
  have HVT := Lib.hid hvT
  have HLT := Lib.hid (hlT.trans HN.out.symm)
  have HST := Lib.hid hsT
  have HSR := Lib.hid hshr2
  have HET := Lib.hid heT
  have HML := Lib.hid hMl
  clear hsh hev hvT hlT hsT hshT heT hLL hshr2 hMl
  refine HSH.out.mono ?_
  rintro e w5 ⟨X, cX, rfl, hX, hb5⟩
  simp only at hX ⊢
  rw [← HML.out] at hX ⊢
  replace hIn := hIn.to hb5
  replace hL := hL.below hb5
  replace hB0 := bnext hB0 hb5
  replace kX := kX.to hb5
  clear hb5
  have g1 := kX.cell 1
  have gl := kX.lt
  simp at g1
  have hot := Out_any _ N c2 t n0 250 w5 hIn hL
  rw [HEV.out] at hot
  have HOT := Lib.hid hot
  clear hot
  go_wp2_with fail
  refine HOT.out.mono ?_
  rintro e w6 ⟨⟨v6, rfl, hS6⟩, hb6⟩
  simp only at hS6 ⊢
  replace hX := hX.below hb6 (Nat.le_refl _)
  replace hIn := hIn.to hb6
  replace hL := hL.below hb6
  replace hB0 := bnext hB0 hb6
  clear hb6 g1 gl kX
  obtain ⟨A6, c6, rfl, hIn6, hcap6⟩ := hS6.ins HVT.out.fit
  rw [HLT.out] at hIn6 hcap6 ⊢
  obtain ⟨b6, o6, rfl⟩ := hIn6.base (by omega)
  have hsh := Sharers_any _ N c6 (outT t n0) (i : Int) (j : Int) w6 hIn6 hL
  rw [HSR.out] at hsh
  have HSH6 := Lib.hid hsh
  clear hsh hS6
  go_wp2_with fail
  refine HSH6.out.mono ?_
  rintro e w7 ⟨Y, cY, rfl, hY, hb7⟩
  simp only at hY ⊢
  rw [← HML.out] at hY ⊢
  replace hX := hX.below hb7 (Nat.le_refl _)
  replace hIn6 := hIn6.to hb7
  replace hIn := hIn.to hb7
  replace hL := hL.below hb7
  replace hB0 := bnext hB0 hb7
  clear hb7
  have HX7 := Lib.hid hX
  have HY7 := Lib.hid hY
  have HI6 := Lib.hid hIn6
  have HL7 := Lib.hid hL
  have HB7 := Lib.hid hB0
  clear hX hY hIn6 hIn hL hB0
  go_wp2
  go_loopw [19] (fun q wr => ∃ k : Nat, k ≤ M ∧ q = .int .i64 k ∧ Below w7.heap.size w7 wr) (fun q _ => M - (intOf q).toNat)
  case atStart => exact ⟨0, Nat.zero_le _, rfl, Below.refl _ _⟩
  case round =>
    obtain ⟨k, hk, rfl, hbw⟩ := hrel
    by_cases hlt : k < M
    · obtain ⟨g1, o1, r1, rfl, hl1, hr1, hc1, hc1'⟩ := (HX7.out.below hbw (Nat.le_refl _)).pair hlt
      obtain ⟨g2, o2', r2, rfl, hl2, hr2, hc2, hc2'⟩ := (HY7.out.below hbw (Nat.le_refl _)).pair hlt
      rw [hr1] at hr2
      injection hr2 with hr2
      subst hr2
      have hlt2 : (k : Int) < (M : Int) := by omega
      clear hr1
      go_wp2_with fail
      go_quiet (fail)
      go_wp2
      go_roundw
      case rel => exact ⟨k + 1, by omega, by go_num, below_drawn hbw _⟩
      case measure => simp [intOf]; omega
    · have hnlt : ¬ (k : Int) < (M : Int) := by omega
      have hI8 := HI6.out.to hbw
      have hL8 := HL7.out.below hbw
      have HB8 := Lib.hid (bnext HB7.out hbw)
      have hrow6 : (rowAt (outT t n0) i).length = 6 := HST.out _ (rowAt_mem (by rw [HLT.out]; exact hiN))
      obtain ⟨bR1, oR1, cR1, hb1l, hc1, hr1l, hw1⟩ := hI8.cells hiN hrow6 hj6
      obtain ⟨y, hy⟩ : ∃ y, y = wordAt (outT t n0) i j := ⟨_, rfl⟩
      rw [← hy] at hw1
      have HEY := Lib.hid (show entW y = (2, 250, false, false, false) by rw [hy]; exact HET.out)
      have HUY := Lib.hid (show unpE y = 0 by rw [hy]; exact HVT.out.ok _ (rowAt_mem (by rw [HLT.out]; exact hiN)) _ (wordAt_mem (by rw [hrow6]; exact hj6)))
      clear hy hrow6 hbw hI8
      go_wp2_with fail
      refine (oUnpack y 2 250 false false false _ HUY.out HEY.out hL8).mono ?_
      rintro e w9 ⟨rfl, hb9⟩
      go_wp2
      go_ret
      exact ⟨by simp, balloc (bnext HB8.out hb9) _⟩
end Go.Proofs.YtomndlnfidkdcaaDoor
