/- CowSums returns true, whatever the numbers. -/
import Derived.Test.YtomndlnfidkdcaaDoorCowJn
namespace Go.Proofs.YtomndlnfidkdcaaDoor
open Go Go.Proofs Go.RowKit Go.Maps
set_option linter.unusedSimpArgs false
set_option linter.unusedVariables false
set_option maxRecDepth 100000

def want0 (t : Sh) (q : Nat) : Nat := wantN t q 0
set_option maxHeartbeats 16000000 in
theorem CowSums_true (zs : List Int) (A : Option Addr) (c : Nat) (table page : Int) (w : World) (hr : Rd w 1 A zs.length (iw zs)) (hn : zs.length ≤ maxLen) (hL : LayOK w) :
    Calls Tryd.prog 6 #[.slice A zs.length c, .int .i64 table, .int .i64 page] w fun e w' => e = .returned (.bool true) ∧ Below w.heap.size w w' := by
  have hB0 := Below.refl w.heap.size w
  go_enter Tryd.func6, Tryd.ntmps6
  go_wp2_with fail
  refine (CowKnown_true _ hL).mono ?_
  rintro e w1 ⟨rfl, hb1⟩
  replace hr := hr.below hb1 (Nat.le_refl _)
  replace hL := hL.below hb1
  replace hB0 := bnext hB0 hb1
  clear hb1
  go_wp2_with fail
  refine (made_any zs A c w1 hr hn hL).mono ?_
  rintro e w2 ⟨⟨v2, rfl, hS⟩, hb2⟩
  replace hL := hL.below hb2
  replace hB0 := bnext hB0 hb2
  have hM := mdTo_ok zs (min zs.length 40) (by omega)
  clear hb2 hr hn
  generalize mdTo zs (min zs.length 40) = t at *
  obtain ⟨A2, c2, rfl, hIn, hcap⟩ := hS.ins hM.fit
  obtain ⟨N, hN⟩ : ∃ N, N = t.length := ⟨_, rfl⟩
  rw [← hN] at hIn hcap ⊢
  have h1N : 1 ≤ N := by have := hM.lo; omega
  have hN4 : N ≤ 4 := by have := hM.hi; omega
  obtain ⟨b2, o2, rfl⟩ := hIn.base (by omega)
  clear hS
  obtain ⟨i, hi⟩ : ∃ i : Nat, table % (N : Int) = i := ⟨(table % (N : Int)).toNat, by have := Int.emod_nonneg table (show (N : Int) ≠ 0 by omega); omega⟩
  have hiN : i < N := by have := Int.emod_lt_of_pos table (show (0 : Int) < (N : Int) by omega); omega
  obtain ⟨j, hj⟩ : ∃ j : Nat, page % 6 = j := ⟨(page % 6).toNat, by have := Int.emod_nonneg page (show (6 : Int) ≠ 0 by omega); omega⟩
  have hj6 : j < 6 := by have := Int.emod_lt_of_pos page (show (0 : Int) < 6 by omega); omega
  have hm1 := Mod_any table N w2 (by omega) (by omega)
  have hm2 := Mod_any page 6 w2 (by omega) (by omega)
  rw [hi] at hm1
  rw [hj] at hm2
  have hit : i < t.length := by rw [← hN]; exact hiN
  have HM1 := Lib.hid hm1
  have HM2 := Lib.hid hm2
  have HN := Lib.hid hN
  have HIT := Lib.hid hit
  have hiN' : (i : Int) < (N : Int) := by omega
  have hj6' : (j : Int) < 6 := by omega
  clear hm1 hm2 hN hit hi hj
  obtain ⟨x, hx⟩ : ∃ x, x = wordAt t i j := ⟨_, rfl⟩
  rcases hent : entW x with ⟨k0, n0, a0, b0, c0⟩
  have hun : unpE x = 0 := by rw [hx]; exact hM.word HIT.out hj6
  obtain ⟨hk3, hn0, hn50⟩ := hM.bound HIT.out hj6 (show entW (wordAt t i j) = (k0, n0, a0, b0, c0) by rw [← hx]; exact hent)
  have hux : useW (wordAt t i j) = (k0, n0) := by rw [← hx]; simp [useW, useE, hent]
  have HX := Lib.hid hx
  have HENT := Lib.hid hent
  have HUN := Lib.hid hun
  have HUX := Lib.hid hux
  have HM := Lib.hid hM
  clear hx hent hun hux hM
  go_wp2_with fail
  refine HM1.out.mono ?_
  rintro e w' ⟨rfl, rfl⟩
  go_wp2_with fail
  refine HM2.out.mono ?_
  rintro e w' ⟨rfl, rfl⟩
  go_wp2_with fail
  refine (oCounts_ok _ t _ (hIn.sho hcap) HM.out.fit hL (by rw [HM.out.v.zero])).mono ?_
  rintro e w3 ⟨⟨bm, om, cm, br, or', cr, rfl, hMp, hRf⟩, hb3⟩
  replace hIn := hIn.to hb3
  replace hL := hL.below hb3
  replace hB0 := bnext hB0 hb3
  clear hb3
  have hsh := Sharers_any _ N c2 t (i : Int) (j : Int) w3 hIn hL
  rw [HM.out.shr HIT.out hj6] at hsh
  obtain ⟨L, hLL⟩ : ∃ L, L = shL t i j := ⟨_, rfl⟩
  rw [← hLL] at hsh
  have HLL := Lib.hid hLL
  have HSH := Lib.hid hsh
  clear hLL hsh
  go_wp2_with fail
  refine HSH.out.mono ?_
  rintro e w4 ⟨X, cX, rfl, _, hb4⟩
  simp only
  obtain ⟨M, hMl⟩ : ∃ M, M = L.length := ⟨_, rfl⟩
  rw [← hMl]
  have HML := Lib.hid hMl
  clear hMl
  replace hIn := hIn.to hb4
  replace hL := hL.below hb4
  replace hB0 := bnext hB0 hb4
  replace hMp := hMp.below hb4 (Nat.le_refl _)
  replace hRf := hRf.below hb4 (Nat.le_refl _)
  clear hb4
  obtain ⟨bR1, oR1, cR1, hb1l, hc1, hr1l, hw1⟩ := hIn.cells hiN (HM.out.row HIT.out) hj6
  rw [← HX.out] at hw1
  go_wp2_with fail
  refine (oUnpack x k0 n0 a0 b0 c0 _ HUN.out HENT.out hL).mono ?_
  rintro e w5 ⟨rfl, hb5⟩
  replace hIn := hIn.to hb5
  replace hL := hL.below hb5
  replace hB0 := bnext hB0 hb5
  replace hMp := hMp.below hb5 (Nat.le_refl _)
  replace hRf := hRf.below hb5 (Nat.le_refl _)
  clear hb5 hb1l hc1 hr1l hw1
  have kX := Bk.new w5 #[.int .i64 k0, .int .i64 n0, .bool a0, .bool b0, .bool c0] 61
  have hA6 : Below w5.heap.size w5 (w5.alloc (.cells #[.int .i64 k0, .int .i64 n0, .bool a0, .bool b0, .bool c0] 61)) := balloc (Below.refl _ _) _
  replace hIn := hIn.to hA6
  replace hL := hL.below hA6
  replace hB0 := bnext hB0 hA6
  replace hMp := hMp.below hA6 (Nat.le_refl _)
  replace hRf := hRf.below hA6 (Nat.le_refl _)
  clear hA6
  go_wp2_with fail
  generalize w5.alloc (.cells #[.int .i64 k0, .int .i64 n0, .bool a0, .bool b0, .bool c0] 61) = w6 at *
  have HIN := Lib.hid hIn
  have HMP := Lib.hid hMp
  have HRF := Lib.hid hRf
  have HB0 := Lib.hid hB0
  have KX := Lib.hid kX
  clear hIn hMp hRf hB0 kX hL
  go_loopw [17, 19] (fun s q wr => ∃ k : Nat, k ≤ 256 ∧ q = .int .i64 k ∧ s = .int .i64 (sumN (bothS t) k : Nat) ∧ Below w6.heap.size w6 wr) (fun _ q _ => 256 - (intOf q).toNat)
  case atStart => exact ⟨0, by omega, rfl, rfl, Below.refl _ _⟩
  case round =>
    obtain ⟨k, hk, rfl, rfl, hbw⟩ := hrel
    by_cases hlt : k < 256
    · obtain ⟨m1, lm⟩ := rd_iw (HMP.out.below hbw (Nat.le_refl _)) (by decide) k _ (maps_at t 1 k hlt)
      obtain ⟨r1, lr⟩ := rd_iw (HRF.out.below hbw (Nat.le_refl _)) (by decide) k _ (maps_at t 2 k hlt)
      have hbd := both_bd HM.out k
      have h24 := HM.out.few (1, (k : Int))
      have h25 := HM.out.few (2, (k : Int))
      have hnx : sumN (bothS t) (k + 1) = sumN (bothS t) k + (cntS t (1, (k : Int)) + cntS t (2, (k : Int))) := rfl
      generalize sumN (bothS t) k = sv at *
      generalize cntS t (1, (k : Int)) = p1 at *
      generalize cntS t (2, (k : Int)) = p2 at *
      have HNX := Lib.hid hnx
      have hlt' : (k : Int) < 256 := by omega
      have ha1 : IntKind.i64.wrap ((sv : Int) + (p1 : Int)) = (sv : Int) + (p1 : Int) := IntWalk.i64_in _ (by omega)
      have ha2 : IntKind.i64.wrap ((sv : Int) + (p1 : Int) + (p2 : Int)) = (sv : Int) + (p1 : Int) + (p2 : Int) := IntWalk.i64_in _ (by omega)
      have hq1 : 0 ≤ (k : Int) := by omega
      clear hnx
      go_upto_region 15 with fail
      go_quiet (fail)
      clear ha1 ha2
      go_wp2
      go_roundw
      case rel => exact ⟨k + 1, by omega, by go_num, by rw [HNX.out]; go_num, below_drawn hbw _⟩
      case measure => simp [intOf]; omega
    · have hk6 : k = 256 := by omega
      have hnlt : ¬ (k : Int) < 256 := by omega
      have hsum : sumN (bothS t) k = nzS t := by rw [hk6]; exact sum_made HM.out
      rw [hsum]
      have HIN7 := Lib.hid (HIN.out.to hbw)
      have HB7 := Lib.hid (bnext HB0.out hbw)
      have HMP7 := Lib.hid (HMP.out.below hbw (Nat.le_refl _))
      have HRF7 := Lib.hid (HRF.out.below hbw (Nat.le_refl _))
      have KX7 := Lib.hid (KX.out.to hbw)
      obtain ⟨NS, hNS⟩ : ∃ n, n = nzS t := ⟨_, rfl⟩
      rw [← hNS]
      have HNS := Lib.hid hNS
      clear hsum hbw hk6 hNS
      go_wp2_with fail
      obtain ⟨w7, rfl⟩ : ∃ w7 : World, w7 = wr := ⟨_, rfl⟩
      go_loopw [18, 20] (JxS N (want0 t) w7) (fun _ q _ => N - (intOf q).toNat)
      case atStart => exact ⟨0, by omega, rfl, rfl, rfl⟩
      case round =>
        obtain ⟨q, hq, rfl, rfl, rfl⟩ := hrel
        by_cases hlt : q < N
        · have hlt' : (q : Int) < (N : Int) := by omega
          have hqt : q < t.length := by rw [← HN.out]; exact hlt
          have HQT := Lib.hid hqt
          clear hqt
          go_wp2_with fail
          go_loopw [18, 21] (JxS 6 (wantN t q) wr) (fun _ p _ => 6 - (intOf p).toNat)
          case atStart => exact ⟨0, by omega, rfl, rfl, rfl⟩
          case round =>
            obtain ⟨p, hp, rfl, rfl, rfl⟩ := hrel
            by_cases hltp : p < 6
            · have hltp' : (p : Int) < 6 := by omega
              obtain ⟨bR1, oR1, cR1, hb1l, hc1, hr1l, hw1⟩ := HIN7.out.cells hlt (HM.out.row HQT.out) hltp
              have hsu := wantN_succ (t := t) (q := q) (p := p) (by rw [HM.out.row HQT.out]; exact hltp)
              have hle := wantN_le HM.out.six q p (by rw [← HN.out]; omega)
              generalize wantN t q p = wv at *
              generalize wordAt t q p = y at *
              by_cases hy : y = 0
              · have HSU := Lib.hid (hsu.trans (by rw [if_neg (by simp [hy])]; rfl) : wantN t q (p + 1) = wv)
                subst hy
                clear hsu
                go_wp2
                go_roundw
                case rel => exact ⟨p + 1, by omega, by go_num, by rw [HSU.out], rfl⟩
                case measure => simp [intOf]; omega
              · have HSU := Lib.hid (hsu.trans (by rw [if_pos hy]) : wantN t q (p + 1) = wv + 1)
                have hyb : ((y : Int) != 0) = true := by simp; omega
                clear hsu
                go_wp2
                go_roundw
                case rel => exact ⟨p + 1, by omega, by go_num, by rw [HSU.out]; go_num, rfl⟩
                case measure => simp [intOf]; omega
            · have hp6 : p = 6 := by omega
              have hnltp : ¬ (p : Int) < 6 := by omega
              have HNX := Lib.hid (show wantN t q p = want0 t (q + 1) by rw [hp6]; exact wantN_next HQT.out (HM.out.row HQT.out))
              clear hp6
              go_wp2
              go_roundw
              case rel => exact ⟨q + 1, by omega, by go_num, by rw [HNX.out], rfl⟩
              case measure => simp [intOf]; omega
        · have hqN : q = N := by omega
          have hnltq : ¬ (q : Int) < (N : Int) := by omega
          have hwant : want0 t q = NS := by rw [hqN, HN.out, want0, wantN_all]; exact HNS.out.symm
          rw [hwant]
          have g0 := KX7.out.cell 0
          have g1 := KX7.out.cell 1
          have gl := KX7.out.lt
          simp at g0 g1
          clear hwant hqN
          obtain ⟨n0, rfl⟩ : ∃ m : Nat, n0 = m := ⟨n0.toNat, by omega⟩
          have hn50' : (n0 : Int) < 256 := by omega
          rcases hk3 with hk | hk | hk
          · subst hk
            have hM0 : M = 0 := by
              rw [HML.out, HLL.out]
              unfold shL
              rw [← HX.out, HENT.out, if_pos rfl]
              rfl
            subst hM0
            go_wp2
            go_ret
            exact ⟨rfl, HB7.out⟩
          · subst hk
            have hM1 : M + 1 = cntS t (1, (n0 : Int)) := by
              rw [HML.out, HLL.out, ← HUX.out, ← shAll_cnt HIT.out (j := j) (by rw [HM.out.row HIT.out]; exact hj6)]
              unfold shL
              rw [← HX.out, HENT.out, if_neg (by simp)]
            obtain ⟨m1, lm⟩ := rd_iw HMP7.out (by decide) n0 _ (maps_at t 1 n0 (by omega))
            rw [← hM1] at m1
            have h24 := HM.out.few (1, (n0 : Int))
            have hM24 : M ≤ 24 := by omega
            have hd : IntKind.i64.wrap (((M + 1 : Nat) : Int) - 1) = (M : Int) := by rw [IntWalk.i64_in _ (by omega)]; omega
            clear hM1 h24
            go_wp2
            go_ret
            exact ⟨by simp, HB7.out⟩
          · subst hk
            have hM1 : M + 1 = cntS t (2, (n0 : Int)) := by
              rw [HML.out, HLL.out, ← HUX.out, ← shAll_cnt HIT.out (j := j) (by rw [HM.out.row HIT.out]; exact hj6)]
              unfold shL
              rw [← HX.out, HENT.out, if_neg (by simp)]
            obtain ⟨m1, lm⟩ := rd_iw HRF7.out (by decide) n0 _ (maps_at t 2 n0 (by omega))
            rw [← hM1] at m1
            have h24 := HM.out.few (2, (n0 : Int))
            have hM24 : M ≤ 24 := by omega
            have hd : IntKind.i64.wrap (((M + 1 : Nat) : Int) - 1) = (M : Int) := by rw [IntWalk.i64_in _ (by omega)]; omega
            clear hM1 h24
            go_wp2
            go_ret
            exact ⟨by simp, HB7.out⟩
end Go.Proofs.YtomndlnfidkdcaaDoor
