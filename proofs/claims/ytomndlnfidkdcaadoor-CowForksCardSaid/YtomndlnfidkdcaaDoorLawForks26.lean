/- CowForks returns true, whatever the numbers. -/
import Derived.Test.YtomndlnfidkdcaaDoorCowJn
import Derived.Deep.DeepCutAuto
namespace Go.Proofs.YtomndlnfidkdcaaDoor
open Go Go.Proofs Go.RowKit Go.Maps
set_option linter.unusedSimpArgs false
set_option linter.unusedVariables false
set_option maxRecDepth 100000

set_option maxHeartbeats 16000000 in
theorem CowForks_true (zs : List Int) (A : Option Addr) (c : Nat) (table page : Int) (w : World) (hr : Rd w 1 A zs.length (iw zs)) (hn : zs.length ≤ maxLen) (hL : LayOK w) :
    Calls Tryd.prog 7 #[.slice A zs.length c, .int .i64 table, .int .i64 page] w fun e w' => e = .returned (.bool true) ∧ Below w.heap.size w w' := by
  have hB0 := Below.refl w.heap.size w
  go_enter Tryd.func7, Tryd.ntmps7
  go_wp2_with fail
  refine (CowKnown_true _ hL).mono ?_
  rintro e w1 ⟨rfl, hb1⟩
  replace hr := hr.below hb1 (Nat.le_refl _)
  replace hL := hL.below hb1
  replace hB0 := bnext hB0 hb1
  clear hb1
  go_wp2_with fail
  refine (made_any zs A c w1 hr hn hL).mono ?_
  rintro e w2 ⟨⟨v2, rfl, hS⟩, hb2⟩
  replace hL := hL.below hb2
  replace hB0 := bnext hB0 hb2
  have hM := mdTo_ok zs (min zs.length 40) (by omega)
  clear hb2 hr hn
  generalize mdTo zs (min zs.length 40) = t at *
  obtain ⟨A2, c2, rfl, hIn, hcap⟩ := hS.ins hM.fit
  obtain ⟨N, hN⟩ : ∃ N, N = t.length := ⟨_, rfl⟩
  rw [← hN] at hIn hcap ⊢
  have h1N : 1 ≤ N := by have := hM.lo; omega
  have hN4 : N ≤ 4 := by have := hM.hi; omega
  obtain ⟨b2, o2, rfl⟩ := hIn.base (by omega)
  clear hS
  obtain ⟨t3, ht3⟩ : ∃ s, s = t.take 3 := ⟨_, rfl⟩
  obtain ⟨N3, hN3⟩ : ∃ n, n = t3.length := ⟨_, rfl⟩
  have hM3 : MdV t3 := by rw [ht3]; exact hM.take 3 (by omega)
  have hNm : N3 = min N 3 := by rw [hN3, ht3, List.length_take, ← hN]; omega
  have hIn3 : InS w2 (some ⟨b2, o2, none⟩) N3 t3 := ⟨by rw [ht3, hNm, Nat.min_comm]; have h := hIn.rr.take (k := min 3 N) (by omega); rwa [show t.take (min 3 N) = t.take 3 by rw [List.take_eq_take_iff]; omega] at h, hM3.fit.small, hM3.fit.rows, by omega⟩
  have hcap3 : N3 ≤ c2 := by omega
  have h13 : 1 ≤ N3 := by omega
  have h33 : N3 ≤ 3 := by omega
  have hcl : (3 : Int) ≤ (c2 : Int) ∨ N ≤ 3 := by omega
  have HCL := Lib.hid hcl
  have HNM := Lib.hid hNm
  have HN3 := Lib.hid hN3
  clear ht3 hM hIn hN hNm hcl hN3
  go_upto_if 36 with fail
  go_cut [8] (fun s8 wx => s8 = .slice (some ⟨b2, o2, none⟩) N3 c2 ∧ w2 = wx)
  case first =>
    by_cases h4 : N ≤ 3
    · have h4' : ¬ (3 : Int) < (N : Int) := by omega
      have hNN : N3 = N := by have := HNM.out; omega
      subst hNN
      go_wp2_with fail
      go_meet
      exact ⟨rfl, rfl⟩
    · have h4' : (3 : Int) < (N : Int) := by omega
      have hNN : N3 = 3 := by have := HNM.out; omega
      have hc3 : (3 : Int) ≤ (c2 : Int) := by have := HCL.out; omega
      subst hNN
      go_wp2_with fail
      go_meet
      exact ⟨rfl, rfl⟩
  case rest =>
  obtain ⟨rfl, rfl⟩ := hcut
  clear hcap h1N hN4 HCL HNM
  have hM := hM3
  have hIn := hIn3
  have hN := HN3.out
  clear hM3 hIn3 HN3
  obtain ⟨i, hi⟩ : ∃ i : Nat, table % (N3 : Int) = i := ⟨(table % (N3 : Int)).toNat, by have := Int.emod_nonneg table (show (N3 : Int) ≠ 0 by omega); omega⟩
  have hiN : i < N3 := by have := Int.emod_lt_of_pos table (show (0 : Int) < (N3 : Int) by omega); omega
  obtain ⟨j, hj⟩ : ∃ j : Nat, page % 6 = j := ⟨(page % 6).toNat, by have := Int.emod_nonneg page (show (6 : Int) ≠ 0 by omega); omega⟩
  have hj6 : j < 6 := by have := Int.emod_lt_of_pos page (show (0 : Int) < 6 by omega); omega
  have hm1 := Mod_any table N3 w2 (by omega) (by omega)
  have hm2 := Mod_any page 6 w2 (by omega) (by omega)
  rw [hi] at hm1
  rw [hj] at hm2
  have hit : i < t3.length := by rw [← hN]; exact hiN
  have HM1 := Lib.hid hm1
  have HM2 := Lib.hid hm2
  have HN := Lib.hid hN
  have HIT := Lib.hid hit
  have hiN' : (i : Int) < (N3 : Int) := by omega
  have hj6' : (j : Int) < 6 := by omega
  clear hm1 hm2 hN hit hi hj
  obtain ⟨x, hx⟩ : ∃ x, x = wordAt t3 i j := ⟨_, rfl⟩
  rcases hent : entW x with ⟨k0, n0, a0, b0, c0⟩
  have hun : unpE x = 0 := by rw [hx]; exact hM.word HIT.out hj6
  obtain ⟨hk3, hn0, hn50⟩ := hM.bound HIT.out hj6 (show entW (wordAt t3 i j) = (k0, n0, a0, b0, c0) by rw [← hx]; exact hent)
  have hux : useW (wordAt t3 i j) = (k0, n0) := by rw [← hx]; simp [useW, useE, hent]
  have HX := Lib.hid hx
  have HENT := Lib.hid hent
  have HUN := Lib.hid hun
  have HUX := Lib.hid hux
  have HM := Lib.hid hM
  clear hx hent hun hux hM
  go_wp2_with fail
  refine HM1.out.mono ?_
  rintro e w' ⟨rfl, rfl⟩
  go_wp2_with fail
  refine HM2.out.mono ?_
  rintro e w' ⟨rfl, rfl⟩
  go_wp2_with fail
  have hjr : j < (rowAt t3 i).length := by rw [HM.out.row HIT.out]; exact hj6
  have h8 : t3.length < 8 := by rw [← HN.out]; omega
  have hfk := fork_ok HM.out.v HIT.out h8
  have hfv := fork_val HM.out.v HIT.out h8
  obtain ⟨hri, hrn⟩ := forkT_row (t := t3) HIT.out
  obtain ⟨hwi, hwn⟩ := forkT_word (t := t3) HIT.out hjr
  obtain ⟨hnd1, hnd2, hnd3⟩ := fork_need HM.out.v HIT.out hjr
  have HFV := Lib.hid hfv
  have HRI : Hid ((rowAt (forkT t3 i) i).length = 6) := Lib.hid (by rw [hri, List.length_map]; exact HM.out.row HIT.out)
  have HRN : Hid ((rowAt (forkT t3 i) N3).length = 6) := Lib.hid (by rw [HN.out, hrn, List.length_map]; exact HM.out.row HIT.out)
  have HFL : Hid ((forkT t3 i).length = N3 + 1) := Lib.hid (by rw [forkT_len, HN.out])
  obtain ⟨xs, hxs⟩ : ∃ y, y = shareW x := ⟨_, rfl⟩
  obtain ⟨xc, hxc⟩ : ∃ y, y = childW x := ⟨_, rfl⟩
  obtain ⟨nd, hnd⟩ : ∃ y, y = needR (forkT t3 i) xs := ⟨_, rfl⟩
  rw [← HX.out] at hwi hwn hnd1 hnd2 hnd3
  rw [← hxs] at hwi hnd1 hnd2 hnd3
  rw [← hxc] at hwn hnd1 hnd2 hnd3
  rw [← hnd] at hnd1 hnd2
  rw [HENT.out] at hnd2 hnd3
  have hwi' : wordAt (forkT t3 i) i j = xs := hwi
  have hwn' : wordAt (forkT t3 i) N3 j = xc := by rw [HN.out]; exact hwn
  have hdc1 : decR (forkT t3 i) (i : Int) (j : Int) = (nd, 0) := by rw [dec_ok hfv (by rw [HFL.out]; omega) (by rw [HRI.out]; exact hj6), hwi', ← hnd]
  have hdc2 : decR (forkT t3 i) (N3 : Int) (j : Int) = (nd, 0) := by rw [dec_ok hfv (by rw [HFL.out]; omega) (by rw [HRN.out]; exact hj6), hwn', ← hnd1]
  have HFK := Lib.hid hfk
  have HWI := Lib.hid hwi'
  have HWN := Lib.hid hwn'
  have HD1 := Lib.hid hdc1
  have HD2 := Lib.hid hdc2
  have HND2 := Lib.hid hnd2
  have HND3 := Lib.hid hnd3
  have HXS := Lib.hid hxs
  clear hjr h8 hfk hfv hri hrn hwi hwn hnd1 hnd2 hnd3 hwi' hwn' hdc1 hdc2 hxs hxc hnd
  refine (OwnSh_any _ N3 c2 t3 w2 hIn).mono ?_
  rintro e w3 ⟨v3, rfl, hO, hb3⟩
  have hOs := hO.sho
  clear hO
  replace hIn := hIn.to hb3
  replace hL := hL.below hb3
  replace hB0 := bnext hB0 hb3
  clear hb3
  have hfc := Fork_any _ N3 c2 t3 (i : Int) w3 hIn hL
  rw [HFK.out] at hfc
  have HFC := Lib.hid hfc
  clear hfc
  go_wp2_with fail
  refine HFC.out.mono ?_
  rintro e w4 ⟨⟨v4, rfl, hS4⟩, hb4⟩
  simp only at hS4 ⊢
  obtain ⟨A4, c4, rfl, hInU, hcap4⟩ := hS4.ins HFV.out.fit
  rw [HFL.out] at hInU ⊢
  obtain ⟨b4, o4, rfl⟩ := hInU.base (by omega)
  replace hOs := hOs.to hb4
  replace hIn := hIn.to hb4
  replace hL := hL.below hb4
  replace hB0 := bnext hB0 hb4
  clear hb4 hS4 hcap4
  go_wp2_with fail
  refine (oSame _ _ t3 _ (hIn.sho hcap3) hOs HM.out.fit).mono ?_
  rintro e w5 ⟨rfl, hb5⟩
  replace hIn := hIn.to hb5
  replace hL := hL.below hb5
  replace hB0 := bnext hB0 hb5
  replace hInU := hInU.to hb5
  clear hb5 hOs
  obtain ⟨bU, oU, cU, hbUl, hcU, hrUl, hwU⟩ := hInU.cells (show N3 < N3 + 1 by omega) HRN.out hj6
  obtain ⟨bR1, oR1, cR1, hb1l, hc1, hr1l, hw1⟩ := hIn.cells hiN (HM.out.row HIT.out) hj6
  rw [← HX.out] at hw1
  go_wp2_with fail
  refine (oUnpack x k0 n0 a0 b0 c0 _ HUN.out HENT.out hL).mono ?_
  rintro e w6 ⟨rfl, hb6⟩
  replace hIn := hIn.to hb6
  replace hL := hL.below hb6
  replace hB0 := bnext hB0 hb6
  replace hInU := hInU.to hb6
  clear hb6 hbUl hcU hrUl hwU hb1l hc1 hr1l hw1
  have kX := Bk.new w6 #[.int .i64 k0, .int .i64 n0, .bool a0, .bool b0, .bool c0] 61
  have hA7 : Below w6.heap.size w6 (w6.alloc (.cells #[.int .i64 k0, .int .i64 n0, .bool a0, .bool b0, .bool c0] 61)) := balloc (Below.refl _ _) _
  replace hIn := hIn.to hA7
  replace hL := hL.below hA7
  replace hB0 := bnext hB0 hA7
  replace hInU := hInU.to hA7
  clear hA7
  go_wp2_with fail
  generalize w6.alloc (.cells #[.int .i64 k0, .int .i64 n0, .bool a0, .bool b0, .bool c0] 61) = w7 at *
  have hd1 := Decide_any _ (N3 + 1) c4 (forkT t3 i) (i : Int) (j : Int) w7 hInU hL
  rw [HD1.out] at hd1
  have HDC1 := Lib.hid hd1
  clear hd1
  refine HDC1.out.mono ?_
  rintro e w8 ⟨rfl, hb8⟩
  simp only
  replace hIn := hIn.to hb8
  replace hL := hL.below hb8
  replace hB0 := bnext hB0 hb8
  replace hInU := hInU.to hb8
  replace kX := kX.to hb8
  clear hb8
  have hd2 := Decide_any _ (N3 + 1) c4 (forkT t3 i) (N3 : Int) (j : Int) w8 hInU hL
  rw [HD2.out] at hd2
  have HDC2 := Lib.hid hd2
  clear hd2
  go_wp2_with fail
  refine HDC2.out.mono ?_
  rintro e w9 ⟨rfl, hb9⟩
  simp only
  replace hIn := hIn.to hb9
  replace hL := hL.below hb9
  replace hB0 := bnext hB0 hb9
  replace hInU := hInU.to hb9
  replace kX := kX.to hb9
  clear hb9
  have g0 := kX.cell 0
  have gl := kX.lt
  simp at g0
  obtain ⟨bU, oU, cU, hbUl, hcU, hrUl, hwU⟩ := hInU.cells (show N3 < N3 + 1 by omega) HRN.out hj6
  obtain ⟨bV, oV, cV, hbVl, hcV, hrVl, hwV⟩ := hInU.cells (show i < N3 + 1 by omega) HRI.out hj6
  obtain ⟨bR1, oR1, cR1, hb1l, hc1, hr1l, hw1⟩ := hIn.cells hiN (HM.out.row HIT.out) hj6
  rw [← HX.out] at hw1
  rw [HWN.out] at hwU
  rw [HWI.out] at hwV
  by_cases hk1 : k0 = 1
  case neg =>
    have hkb : (k0 != 1) = true := by simpa using hk1
    obtain ⟨e1, e2⟩ := HND3.out hk1
    rw [e1] at hwV
    rw [e2] at hwU
    clear hk1 hk3 e1 e2 hInU hIn hL
    go_wp2_with fail
    go_quiet (fail)
    go_wp2
    go_ret
    exact ⟨by simp, below_drawn hB0 _⟩
  subst hk1
  obtain ⟨hn4, n1, c1, h10, h11, hn1, he1, he2⟩ := HND2.out rfl
  subst hn4
  subst hn1
  have hsd := fork_sides HM.out (by rw [← HN.out]; exact h33) HIT.out hj6 (by rw [← HX.out, HENT.out])
  rw [← HN.out, ← HX.out, HENT.out, ← HXS.out] at hsd
  obtain ⟨hbk, hvl, hvw, hdv, hvv⟩ := hsd
  obtain ⟨tv, htv⟩ : ∃ y, y = setW (forkT t3 i) N3 j (packE (1, 200, true, false, false)) := ⟨_, rfl⟩
  rw [← htv] at hbk hvl hvw hdv hvv
  have hxsu : unpE xs = 0 := by rw [HXS.out]; exact (share_use x HUN.out).2.1
  have hrv : (rowAt tv i).length = 6 := by
    rw [htv]
    unfold setW
    rw [rowAt_set_ne _ (by omega)]
    exact HRI.out
  have hbc := Break_any _ (N3 + 1) c4 (forkT t3 i) (N3 : Int) (j : Int) 200 w9 hInU hL
  rw [hbk] at hbc
  have HBC := Lib.hid hbc
  have HVL := Lib.hid hvl
  have HVW := Lib.hid hvw
  have HDV := Lib.hid hdv
  have HVV := Lib.hid hvv
  have HE1 := Lib.hid he1
  have HXU := Lib.hid hxsu
  have HRV := Lib.hid hrv
  clear hbc hbk hvl hvw hdv hvv he1 he2 hxsu hrv htv hbUl hcU hrUl hwU hbVl hcV hrVl hwV hb1l hc1 hr1l hw1
  go_wp2_with fail
  refine HBC.out.mono ?_
  rintro e w10 ⟨⟨v10, rfl, hS10⟩, hb10⟩
  simp only at hS10 ⊢
  replace hIn := hIn.to hb10
  replace hL := hL.below hb10
  replace hB0 := bnext hB0 hb10
  replace hInU := hInU.to hb10
  replace kX := kX.to hb10
  clear hb10 g0 gl
  obtain ⟨A10, c10, rfl, hInV, _⟩ := hS10.ins HVV.out.fit
  rw [HVL.out] at hInV ⊢
  obtain ⟨b10, o10, rfl⟩ := hInV.base (by omega)
  obtain ⟨bV, oV, cV, hbVl, hcV, hrVl, hwV⟩ := hInU.cells (show i < N3 + 1 by omega) HRI.out hj6
  rw [HWI.out] at hwV
  go_wp2_with fail
  refine (oUnpack xs 1 n0 false true c1 _ HXU.out HE1.out hL).mono ?_
  rintro e w11 ⟨rfl, hb11⟩
  replace hIn := hIn.to hb11
  replace hL := hL.below hb11
  replace hB0 := bnext hB0 hb11
  replace hInU := hInU.to hb11
  replace hInV := hInV.to hb11
  replace kX := kX.to hb11
  clear hb11 hbVl hcV hrVl hwV
  have g1 := kX.cell 1
  have gl := kX.lt
  simp at g1
  have kY := Bk.new w11 #[.int .i64 1, .int .i64 n0, .bool false, .bool true, .bool c1] 61
  have hA12 : Below w11.heap.size w11 (w11.alloc (.cells #[.int .i64 1, .int .i64 n0, .bool false, .bool true, .bool c1] 61)) := balloc (Below.refl _ _) _
  replace hIn := hIn.to hA12
  replace hL := hL.below hA12
  replace hB0 := bnext hB0 hA12
  replace hInU := hInU.to hA12
  replace hInV := hInV.to hA12
  replace kX := kX.to hA12
  clear hA12
  have hdd := Decide_any _ (N3 + 1) c10 tv (N3 : Int) (j : Int) (w11.alloc (.cells #[.int .i64 1, .int .i64 n0, .bool false, .bool true, .bool c1] 61)) hInV hL
  rw [HDV.out] at hdd
  have HDD := Lib.hid hdd
  clear hdd
  go_wp2_with fail
  refine HDD.out.mono ?_
  rintro e w13 ⟨rfl, hb13⟩
  simp only
  replace hIn := hIn.to hb13
  replace hL := hL.below hb13
  replace hB0 := bnext hB0 hb13
  replace hInU := hInU.to hb13
  replace hInV := hInV.to hb13
  replace kX := kX.to hb13
  replace kY := kY.to hb13
  clear hb13 g1 gl
  have g1 := kX.cell 1
  have gl := kX.lt
  have k1 := kY.cell 1
  have k3 := kY.cell 3
  have kl := kY.lt
  simp at g1 k1 k3
  obtain ⟨bV, oV, cV, hbVl, hcV, hrVl, hwV⟩ := hInU.cells (show i < N3 + 1 by omega) HRI.out hj6
  obtain ⟨bW, oW, cW, hbWl, hcW, hrWl, hwW⟩ := hInV.cells (show i < N3 + 1 by omega) HRV.out hj6
  rw [HWI.out] at hwV
  rw [HVW.out] at hwW
  clear hInU hInV hIn kX kY hL
  go_wp2_with fail
  go_quiet (fail)
  go_wp2
  go_ret
  exact ⟨by simp, below_drawn hB0 _⟩
end Go.Proofs.YtomndlnfidkdcaaDoor
