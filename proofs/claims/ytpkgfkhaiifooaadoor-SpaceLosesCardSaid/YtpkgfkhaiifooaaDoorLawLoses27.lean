/- SpaceLoses returns true, whatever the numbers. -/
import Derived.Test.YtpkgfkhaiifooaaDoorMe27
import Derived.Test.YtpkgfkhaiifooaaDoorGL
import Derived.Test.YtpkgfkhaiifooaaDoorSpU
import Derived.Lib.MinMax
namespace Go.Proofs.YtpkgfkhaiifooaaDoor
open Go Go.Proofs Go.RowKit
set_option linter.unusedSimpArgs false
set_option linter.unusedVariables false
set_option maxRecDepth 100000

theorem loW_at (los : List Lo) (i j : Nat) (x : Lo) (h : los[i]? = some x) (hj : j < 7) : (loW los)[i * 7 + j]? = (loC x)[j]? := by
  induction los generalizing i with
  | nil => simp at h
  | cons y ys ih =>
    have e : loW (y :: ys) = loC y ++ loW ys := by simp [loW]
    have hl : (loC y).length = 7 := rfl
    rw [e]
    cases i with
    | zero =>
      simp at h
      subst h
      rw [Nat.zero_mul, Nat.zero_add, List.getElem?_append_left (by omega)]
    | succ i =>
      rw [List.getElem?_append_right (by omega), hl, show (i + 1) * 7 + j - 7 = i * 7 + j by omega]
      exact ih i (by simpa using h)

set_option maxHeartbeats 32000000 in
theorem SpaceLoses_true (nums more : List Int) (A M : Option Addr) (c cm : Nat) (n : Int) (w : World) (hr : Rd w 1 A nums.length (iw nums)) (hn : nums.length ≤ maxLen) (hM : Rd w 1 M more.length (iw more)) (hL : LayOK w) :
    Calls Tryd.prog 7 #[.slice A nums.length c, .slice M more.length cm, .int .i64 n] w fun e w' => e = .returned (.bool true) ∧ Below w.heap.size w w' := by
  obtain ⟨kk, hkk⟩ : ∃ kk : Nat, n % 4096 = (kk : Int) := ⟨(n % 4096).toNat, by have := Int.emod_nonneg n (show (4096 : Int) ≠ 0 by omega); omega⟩
  have hk1 : kk < 4096 := by have := Int.emod_lt_of_pos n (show (0 : Int) < 4096 by omega); omega
  have HMf := Lib.hid (fun W => Mod_any n 4096 W (by omega) (by omega))
  rw [hkk] at HMf
  have HMd := Lib.hid (made27_any nums more A M c cm w hr hn hM hL)
  have hB0 := Below.refl w.heap.size w
  clear hkk hr hn hM
  go_enter Tryd.func7, Tryd.ntmps7
  go_wp2_with fail
  refine HMd.out.mono ?_
  rintro e w1 ⟨rs, es, v1, rfl, hE, hs, hrl, hv, hb1⟩
  replace hL := hL.below hb1
  replace hB0 := bnext hB0 hb1
  obtain ⟨A1, c1, L1, cl1, B1, d1, rfl, _, _, _, _⟩ := id hv
  simp only [spcV] at hv ⊢
  go_upto_region 2 with fail
  have kX := Bk.new w1 #[.slice A1 rs.length c1, .int .i64 200, .slice L1 (mL27 8).length cl1, .slice B1 es.length d1] 28
  have hcN := balloc (Below.refl _ w1) (.cells #[.slice A1 rs.length c1, .int .i64 200, .slice L1 (mL27 8).length cl1, .slice B1 es.length d1] 28)
  generalize w1.alloc (.cells #[.slice A1 rs.length c1, .int .i64 200, .slice L1 (mL27 8).length cl1, .slice B1 es.length d1] 28) = w2 at *
  replace hv := hv.to hcN
  replace hL := hL.below hcN
  replace hB0 := bnext hB0 hcN
  clear hcN hb1
  obtain ⟨cX, fX, lX⟩ := kX.facts
  go_wp2_with fail
  refine (HMf.out _).mono ?_
  rintro e wm ⟨rfl, rfl⟩
  go_wp2_with fail
  -- WALK
  obtain ⟨a, ha⟩ : ∃ a : Int, min ((kk : Int) % 64) ((kk : Int) / 64) = a := ⟨_, rfl⟩
  obtain ⟨b, hb⟩ : ∃ b : Int, max ((kk : Int) % 64) ((kk : Int) / 64) = b := ⟨_, rfl⟩
  rw [ha, hb]
  clear ha hb hk1
  have HU := Lib.hid (fun v W h hl => UnmapSp_any rs 200 (mL27 8) es v a b W h (by omega) hs hl)
  have HEm := Lib.hid (fun v W h hl => EmptySp_any rs 200 (mL27 8) es v W h (by omega) hs hl)
  have HSz := Lib.hid (fun v W h hl => Size_any rs 200 (mL27 8) es v W h (by omega) hs hl)
  have HFr := Lib.hid (fun v W h hl => TFrames_any 200 (mL27 8) es v W h hs hl)
  have HCE := Lib.hid (fun v W h hl => spCheck_any [] (-1) t0N.2.1 t0N.2.2 v W h (by simp) (by unfold wsmall; decide) hl)
  have hem : empS (rs, 200, mL27 8, es) = (([], t0N), (lpN 200 (mL27 8) es 0 63 64).map lo1, (frmR 200 (mL27 8) es).1, 0) := by unfold empS; rw [if_neg (by simpa using hE)]; rfl
  have hsz : sizR (rs, 200, mL27 8, es) = (((kinL es 1 64).length : Int) + (kinL es 2 64).length, 0) := by unfold sizR; rw [if_neg (by simpa using hE)]
  obtain ⟨hgE, hT, hOE⟩ := spc_zero hE
  simp only at hgE hT hOE
  have hU := (tab_zero hT).2.2.2.2.2.2.1
  have hfr : (frmR 200 (mL27 8) es).2 = 0 := by unfold frmR; rw [if_neg (by simp [hT])]
  have hfl : (frmR 200 (mL27 8) es).1.length ≤ 1000 := by
    unfold frmR
    rw [if_neg (by simp [hT])]
    simp only [List.length_append]
    have := frmL_len (mL27 8) 8
    split <;> simp <;> omega
  have HSI := Lib.hid (fun v v2 W h h2 => SameInts_v (frmR 200 (mL27 8) es).1 v v2 W h h2 hfl)
  have HEL : Hid (((lpN 200 (mL27 8) es 0 63 64).map lo1).length = (lpN 200 (mL27 8) es 0 63 64).length) := Lib.hid (List.length_map _)
  have hcnt : ((kinL es 1 64).length : Int) + (kinL es 2 64).length = ((lpN 200 (mL27 8) es 0 63 64).length : Int) := by rw [kin_len es hU 64 (Nat.le_refl _), lp_len 64 (Nat.le_refl _)]
  rw [hem] at HEm
  rw [hsz, hcnt] at HSz
  rw [hfr] at HFr
  have hce : spcE ([], -1, t0N.2.1, t0N.2.2) = 0 := emp_ok
  rw [hce] at HCE
  simp only at HEm HSz
  generalize hnE : (lpN 200 (mL27 8) es 0 63 64).length = nE at *
  generalize (frmR 200 (mL27 8) es).1 = zs at *
  clear hem hsz hfr hfl hcnt hU hgE hOE hce
  by_cases hz : (unmR rs a b).2 = 0
  case neg =>
    have hR : unmS (rs, 200, mL27 8, es) a b = (sp0, [], (unmR rs a b).2) := by unfold unmS; rw [if_neg (by simpa using hE), if_pos hz]
    rw [hR] at HU
    have hdz : ((unmR rs a b).2 == 0) = false := by simpa using hz
    generalize (unmR rs a b).2 = z at *
    clear hR hz hE hT
    refine (HU.out _ _ hv hL).mono ?_
    rintro e w4 ⟨v4, u4, rfl, hv4, _, hlo4, _, hb4⟩
    obtain ⟨A4, c4, L4, cl4, B4, d4, rfl, _, _, _, _⟩ := id hv4
    obtain ⟨Au, cu, rfl, _⟩ := hlo4
    simp only [spcV] at hv4 ⊢
    replace hv := hv.to hb4
    replace hL := hL.below hb4
    replace hB0 := bnext hB0 hb4
    replace kX := kX.to hb4
    clear hb4
    go_upto_region 5 with fail
    have hcN := balloc (Below.refl _ w4) (.cells #[.slice A4 sp0.1.length c4, .int .i64 sp0.2.1, .slice L4 sp0.2.2.1.length cl4, .slice B4 sp0.2.2.2.length d4] 28)
    generalize w4.alloc (.cells #[.slice A4 sp0.1.length c4, .int .i64 sp0.2.1, .slice L4 sp0.2.2.1.length cl4, .slice B4 sp0.2.2.2.length d4] 28) = w5 at *
    replace hv := hv.to hcN
    replace hL := hL.below hcN
    replace hB0 := bnext hB0 hcN
    replace kX := kX.to hcN
    clear hcN
    clear cX fX lX
    obtain ⟨cX, fX, lX⟩ := kX.facts
    go_wp2_with fail
    refine (HEm.out _ _ hv hL).mono ?_
    rintro e wE ⟨vE, uE, zE, rfl, hvE, _, hloE, _, hzE, hbE⟩
    obtain ⟨AE, cE0, LE, clE, BE, dE, rfl, _, _, _, _⟩ := id hvE
    obtain ⟨AuE, cuE, rfl, _⟩ := hloE
    simp only [spcV] at hvE ⊢
    simp only [HEL.out]
    replace hv := hv.to hbE
    replace hL := hL.below hbE
    replace hB0 := bnext hB0 hbE
    replace kX := kX.to hbE
    clear hbE cX fX lX
    go_upto_region 28 with fail
    have kU := Bk.new wE #[.slice AE ([] : List (Int × Int)).length cE0, .int .i64 (-1), .slice LE t0N.2.1.length clE, .slice BE t0N.2.2.length dE] 28
    have hcN := balloc (Below.refl _ wE) (.cells #[.slice AE ([] : List (Int × Int)).length cE0, .int .i64 (-1), .slice LE t0N.2.1.length clE, .slice BE t0N.2.2.length dE] 28)
    have htm : t0N.1 = -1 := rfl
    simp only [htm] at *
    generalize wE.alloc (.cells #[.slice AE ([] : List (Int × Int)).length cE0, .int .i64 (-1), .slice LE t0N.2.1.length clE, .slice BE t0N.2.2.length dE] 28) = wF at *
    replace hv := hv.to hcN
    replace hvE := hvE.to hcN
    replace hL := hL.below hcN
    replace hB0 := bnext hB0 hcN
    replace kX := kX.to hcN
    obtain ⟨A9, c9, rfl, hz9⟩ := hzE
    replace hz9 := hz9.below hcN (Nat.le_refl _)
    clear hcN
    obtain ⟨cX, fX, lX⟩ := kX.facts
    go_wp2_with fail
    refine (HSz.out _ _ hv hL).mono ?_
    rintro e wG ⟨rfl, hbG⟩
    replace hv := hv.to hbG
    replace hvE := hvE.to hbG
    replace hL := hL.below hbG
    replace hB0 := bnext hB0 hbG
    replace kX := kX.to hbG
    replace kU := kU.to hbG
    replace hz9 := hz9.below hbG (Nat.le_refl _)
    clear hbG cX fX lX
    obtain ⟨cX, fX, lX⟩ := kX.facts
    have hTb9 : TbV wG (.agg #[.int .i64 200, .slice L1 (mL27 8).length cl1, .slice B1 es.length d1]) (200, mL27 8, es) := by
      obtain ⟨_, _, _, _, _, _, e', _, q2, q3, q4⟩ := hv
      simp only [spcV, Value.agg.injEq, Array.mk.injEq, List.cons.injEq, Value.slice.injEq] at e'
      obtain ⟨_, _, ⟨rfl, _, rfl⟩, ⟨rfl, _, rfl⟩, _⟩ := e'
      exact tbv_of q2 q3 q4
    go_wp2_with fail
    refine (HFr.out _ _ hTb9 hL).mono ?_
    rintro e wH ⟨vH, rfl, hiH, hbH⟩
    replace hvE := hvE.to hbH
    replace hL := hL.below hbH
    replace hB0 := bnext hB0 hbH
    replace kU := kU.to hbH
    replace hz9 := hz9.below hbH (Nat.le_refl _)
    clear hbH cX fX lX
    obtain ⟨cU, fU, lU⟩ := kU.facts
    go_wp2_with (first
      | (go_at_call 29; refine (HSI.out _ _ _ ⟨A9, c9, rfl, hz9⟩ hiH).mono ?_; rintro e wm ⟨rfl, hbm⟩; clear cU fU lU; obtain ⟨cU, fU, lU⟩ := (kU.to hbm).facts)
      | (go_at_call 15; refine (HCE.out _ _ (hvE.to hbm) (hL.below hbm)).mono ?_; rintro e wI ⟨rfl, hbI⟩)
      | (go_at_call 14; refine (awake27_any _ (hL.below (bnext hbm hbI))).mono ?_; rintro e wJ ⟨rfl, hbJ⟩))
    go_ret
    exact ⟨rfl, bnext (bnext (bnext hB0 hbm) hbI) hbJ⟩
  have hR : unmS (rs, 200, mL27 8, es) a b = (((unmR rs a b).1, 200, (losP 200 (mL27 8) es a b (pgs 0 64)).1, (losP 200 (mL27 8) es a b (pgs 0 64)).2.1), lpN 200 (mL27 8) es a b 64, 0) := by unfold unmS; rw [if_neg (by simpa using hE), if_neg (by simpa using hz)]; rfl
  rw [hR] at HU
  obtain ⟨f1, f2, f3, f4⟩ := los_facts hT hs a b 64 (Nat.le_refl _)
  have hE2 := unm_ok hE hs hz
  have hrl2 : (unmR rs a b).1.length ≤ 1000 := by
    have := RgV.len (spc_zero hE2).1
    simp only at this
    omega
  have HC2 := Lib.hid (fun v W h hl => spCheck_any (unmR rs a b).1 200 (losP 200 (mL27 8) es a b (pgs 0 64)).1 (losP 200 (mL27 8) es a b (pgs 0 64)).2.1 v W h (by omega) f2 hl)
  rw [hE2] at HC2
  have HG := Lib.hid (fun v (k : Nat) W h hl => TGet_any 200 (mL27 8) es v k W h hs hl)
  have HG2 := Lib.hid (fun v (k : Nat) W h hl => TGet_any 200 (losP 200 (mL27 8) es a b (pgs 0 64)).1 (losP 200 (mL27 8) es a b (pgs 0 64)).2.1 v k W h f2 hl)
  have HTab := Lib.hid hT
  have HTab2 := Lib.hid f1
  have F4 := Lib.hid f4
  have F3 : Hid ((lpN 200 (mL27 8) es a b 64).length ≤ 64) := Lib.hid f3
  simp only at HU
  clear hR hz hE hT hE2 f1 f2 f3 f4 hs hrl hrl2
  generalize (unmR rs a b).1 = rs' at *
  generalize (losP 200 (mL27 8) es a b (pgs 0 64)).1 = ls' at *
  generalize (losP 200 (mL27 8) es a b (pgs 0 64)).2.1 = es' at *
  refine (HU.out _ _ hv hL).mono ?_
  rintro e w4 ⟨v4, u4, rfl, hvT, _, hlo4, _, hb4⟩
  obtain ⟨A4, c4, L4, cl4, B4, d4, rfl, _, _, _, _⟩ := id hvT
  obtain ⟨Au, cu, rfl, hru⟩ := hlo4
  simp only [spcV] at hvT ⊢
  replace hv := hv.to hb4
  replace hL := hL.below hb4
  replace hB0 := bnext hB0 hb4
  replace kX := kX.to hb4
  clear hb4
  go_upto_region 5 with fail
  have kT := Bk.new w4 #[.slice A4 rs'.length c4, .int .i64 200, .slice L4 ls'.length cl4, .slice B4 es'.length d4] 28
  have hcN := balloc (Below.refl _ w4) (.cells #[.slice A4 rs'.length c4, .int .i64 200, .slice L4 ls'.length cl4, .slice B4 es'.length d4] 28)
  generalize w4.alloc (.cells #[.slice A4 rs'.length c4, .int .i64 200, .slice L4 ls'.length cl4, .slice B4 es'.length d4] 28) = w5 at *
  replace hv := hv.to hcN
  replace hvT := hvT.to hcN
  replace hL := hL.below hcN
  replace hB0 := bnext hB0 hcN
  replace kX := kX.to hcN
  replace hru := hru.below hcN (Nat.le_refl _)
  clear hcN cX fX lX
  have hTb1 : TbV w5 (.agg #[.int .i64 200, .slice L1 (mL27 8).length cl1, .slice B1 es.length d1]) (200, mL27 8, es) := by
    obtain ⟨_, _, _, _, _, _, e', _, q2, q3, q4⟩ := hv
    simp only [spcV, Value.agg.injEq, Array.mk.injEq, List.cons.injEq, Value.slice.injEq] at e'
    obtain ⟨_, _, ⟨rfl, _, rfl⟩, ⟨rfl, _, rfl⟩, _⟩ := e'
    exact tbv_of q2 q3 q4
  have hTb2 : TbV w5 (.agg #[.int .i64 200, .slice L4 ls'.length cl4, .slice B4 es'.length d4]) (200, ls', es') := by
    obtain ⟨_, _, _, _, _, _, e', _, q2, q3, q4⟩ := hvT
    simp only [spcV, Value.agg.injEq, Array.mk.injEq, List.cons.injEq, Value.slice.injEq] at e'
    obtain ⟨_, _, ⟨rfl, _, rfl⟩, ⟨rfl, _, rfl⟩, _⟩ := e'
    exact tbv_of q2 q3 q4
  go_wp2_with fail
  go_loopw [15, 16] (fun t i wr => ∃ k : Nat, k ≤ 64 ∧ i = .int .i64 k ∧ t = .int .i64 (lpN 200 (mL27 8) es a b k).length ∧ Below w5.heap.size w5 wr) (fun _ i _ => 64 - (intOf i).toNat)
  case atStart => exact ⟨0, by omega, rfl, rfl, Below.refl _ _⟩
  case round =>
    obtain ⟨k, hk, rfl, rfl, hbr⟩ := hrel
    have hLr := hL.below hbr
    have kXr := kX.to hbr
    have kTr := kT.to hbr
    have hrur := hru.below hbr (Nat.le_refl _)
    by_cases hlt : k < 64
    · have hkI : (k : Int) < 64 := by omega
      have HGk := Lib.hid (fun v W h hl => HG.out v k W h hl)
      have HGk2 := Lib.hid (fun v W h hl => HG2.out v k W h hl)
      rw [get_in HTab.out k hlt] at HGk
      rw [get_in HTab2.out k hlt, F4.out k hlt] at HGk2
      have her := unp_in HTab.out k hlt
      have hek : entP es k = (unpR (es.getD k 0)).1 := rfl
      rw [hek] at HGk2
      rcases hu : unpR (es.getD k 0) with ⟨⟨ek, en, ea, eb, ec⟩, er⟩
      rw [hu] at HGk HGk2 her hek
      simp only at her HGk HGk2 hek
      subst her
      by_cases hin : a ≤ (k : Int) ∧ (k : Int) ≤ b
      · obtain ⟨hin1, hin2⟩ := hin
        have hd1 : decide ((k : Int) < a) = false := decide_eq_false (by omega)
        have hd2 : decide (b < (k : Int)) = false := decide_eq_false (by omega)
        by_cases hk0 : ek = 0
        · rw [if_neg (fun hh => hh.2.2.2 hk0), hu] at HGk2
          have hlp : (lpN 200 (mL27 8) es a b k).length = (lpN 200 (mL27 8) es a b (k + 1)).length := by rw [lp_no (by omega) (by unfold lpB; rw [hek, hk0]; simp)]
          subst hk0
          try simp only at HGk2
          clear hu hek hin1 hin2
          rw [hlp]
          clear hlp
          obtain ⟨cX, fX, lX⟩ := kXr.facts
          go_wp2_with fail
          refine (HGk.out _ _ (hTb1.to hbr) hLr).mono ?_
          rintro e wa ⟨rfl, hba⟩
          have kE := Bk.new wa #[.int .i64 0, .int .i64 en, .bool ea, .bool eb, .bool ec] 38
          have hcE := balloc hba (.cells #[.int .i64 0, .int .i64 en, .bool ea, .bool eb, .bool ec] 38)
          clear cX fX lX
          go_upto_region 13 with fail
          generalize wa.alloc (.cells #[.int .i64 0, .int .i64 en, .bool ea, .bool eb, .bool ec] 38) = wb at *
          obtain ⟨cT, fT, lT⟩ := (kTr.to hcE).facts
          go_wp2_with fail
          refine (HGk2.out _ _ ((hTb2.to hbr).to hcE) (hLr.below hcE)).mono ?_
          rintro e wc ⟨rfl, hbc⟩
          have kF := Bk.new wc #[.int .i64 0, .int .i64 en, .bool ea, .bool eb, .bool ec] 38
          have hcF := balloc hbc (.cells #[.int .i64 0, .int .i64 en, .bool ea, .bool eb, .bool ec] 38)
          clear cT fT lT
          go_upto_region 14 with fail
          generalize wc.alloc (.cells #[.int .i64 0, .int .i64 en, .bool ea, .bool eb, .bool ec] 38) = wd at *
          have kE2 := kE.to hcF
          have hbd := bnext (bnext hbr hcE) hcF
          obtain ⟨cE, fE, lE⟩ := kE2.facts
          obtain ⟨cF, fF, lF⟩ := kF.facts
          go_wp2_with fail
          go_roundw
          case rel => exact ⟨k + 1, by omega, by go_num, rfl, hbd⟩
          case measure => simp [intOf]; omega
        · rw [if_pos ⟨hlt, hin1, hin2, hk0⟩, show unpR 0 = ((0, 0, false, false, false), 0) by decide] at HGk2
          obtain ⟨hl1, lf, hl2⟩ := lp_at (r := 200) (ls := mL27 8) (es := es) (a := a) (b := b) hlt (by unfold lpB; rw [hek, decide_eq_true hin1, decide_eq_true hin2]; simp [hk0])
          rw [hek] at hl2
          have hm2 : (lpN 200 (mL27 8) es a b k).length < (lpN 200 (mL27 8) es a b 64).length := by
            rcases Nat.lt_or_ge (lpN 200 (mL27 8) es a b k).length (lpN 200 (mL27 8) es a b 64).length with h | h
            · exact h
            · rw [List.getElem?_eq_none h] at hl2; cases hl2
          have hdk : (ek != 0) = true := by simpa using hk0
          have hm64 : (lpN 200 (mL27 8) es a b k).length < 64 := by have := F3.out; omega
          try simp only at HGk2
          obtain ⟨ub, uo, rfl, hub, huc⟩ := hrur.2 (by omega)
          have huc2 : ∀ j, j < 7 → ∀ u, (loC ((k : Int), (ek, en, ea, eb, ec), lf))[j]? = some u → wr.cell? ⟨ub, uo + ((lpN 200 (mL27 8) es a b k).length * 7 + j), none⟩ = some u := fun j hj u hh => huc _ _ (by rw [loW_at _ _ _ _ hl2 hj]; exact hh)
          have HUC := Lib.hid huc2
          have HL1 := Lib.hid hl1
          clear hu hek hin1 hin2 hk0 hl1 hl2 huc huc2
          have hubr := hub
          generalize hmk : (lpN 200 (mL27 8) es a b k).length = m at *
          generalize hmm : (lpN 200 (mL27 8) es a b 64).length = mm at *
          have Hmk := Lib.hid hmk
          clear hmk hmm
          obtain ⟨cX, fX, lX⟩ := kXr.facts
          go_wp2_with fail
          refine (HGk.out _ _ (hTb1.to hbr) hLr).mono ?_
          rintro e wa ⟨rfl, hba⟩
          have kE := Bk.new wa #[.int .i64 ek, .int .i64 en, .bool ea, .bool eb, .bool ec] 38
          have hcE := balloc hba (.cells #[.int .i64 ek, .int .i64 en, .bool ea, .bool eb, .bool ec] 38)
          clear cX fX lX
          go_upto_region 13 with fail
          generalize wa.alloc (.cells #[.int .i64 ek, .int .i64 en, .bool ea, .bool eb, .bool ec] 38) = wb at *
          obtain ⟨cT, fT, lT⟩ := (kTr.to hcE).facts
          go_wp2_with fail
          refine (HGk2.out _ _ ((hTb2.to hbr).to hcE) (hLr.below hcE)).mono ?_
          rintro e wc ⟨rfl, hbc⟩
          have kF := Bk.new wc #[.int .i64 0, .int .i64 0, .bool false, .bool false, .bool false] 38
          have hcF := balloc hbc (.cells #[.int .i64 0, .int .i64 0, .bool false, .bool false, .bool false] 38)
          clear cT fT lT
          go_upto_region 14 with fail
          generalize wc.alloc (.cells #[.int .i64 0, .int .i64 0, .bool false, .bool false, .bool false] 38) = wd at *
          have kE2 := kE.to hcF
          have hbd := bnext (bnext hbr hcE) hcF
          obtain ⟨cE, fE, lE⟩ := kE2.facts
          obtain ⟨cF, fF, lF⟩ := kF.facts
          have q0 : wd.cell? ⟨ub, uo + m * 7, none⟩ = some (.int .i64 k) := (hcF.cell (p := ⟨ub, _, none⟩) (by have := hcE.size; show ub < _; omega)).trans ((hcE.cell (p := ⟨ub, _, none⟩) hub).trans (HUC.out 0 (by omega) _ rfl))
          have q1 : wd.cell? ⟨ub, uo + m * 7 + 1, none⟩ = some (.int .i64 ek) := (hcF.cell (p := ⟨ub, _, none⟩) (by have := hcE.size; show ub < _; omega)).trans ((hcE.cell (p := ⟨ub, _, none⟩) hub).trans (HUC.out 1 (by omega) _ rfl))
          have q2 : wd.cell? ⟨ub, uo + m * 7 + 1 + 1, none⟩ = some (.int .i64 en) := (hcF.cell (p := ⟨ub, _, none⟩) (by have := hcE.size; show ub < _; omega)).trans ((hcE.cell (p := ⟨ub, _, none⟩) hub).trans (HUC.out 2 (by omega) _ rfl))
          have q3 : wd.cell? ⟨ub, uo + m * 7 + 1 + 2, none⟩ = some (.bool ea) := (hcF.cell (p := ⟨ub, _, none⟩) (by have := hcE.size; show ub < _; omega)).trans ((hcE.cell (p := ⟨ub, _, none⟩) hub).trans (HUC.out 3 (by omega) _ rfl))
          have q4 : wd.cell? ⟨ub, uo + m * 7 + 1 + 3, none⟩ = some (.bool eb) := (hcF.cell (p := ⟨ub, _, none⟩) (by have := hcE.size; show ub < _; omega)).trans ((hcE.cell (p := ⟨ub, _, none⟩) hub).trans (HUC.out 4 (by omega) _ rfl))
          have q5 : wd.cell? ⟨ub, uo + m * 7 + 1 + 4, none⟩ = some (.bool ec) := (hcF.cell (p := ⟨ub, _, none⟩) (by have := hcE.size; show ub < _; omega)).trans ((hcE.cell (p := ⟨ub, _, none⟩) hub).trans (HUC.out 5 (by omega) _ rfl))
          have hdm : decide (mm ≤ m) = false := decide_eq_false (by omega)
          go_upto_region 22 with fail
          go_quiet (fail)
          go_wp2_with fail
          go_roundw
          case rel => exact ⟨k + 1, by omega, by go_num, by rw [HL1.out]; go_num, below_drewN hbd _⟩
          case measure => simp [intOf]; omega
      · rw [if_neg (fun hh => hin ⟨hh.2.1, hh.2.2.1⟩), hu] at HGk2
        try simp only at HGk2
        have hlp : (lpN 200 (mL27 8) es a b k).length = (lpN 200 (mL27 8) es a b (k + 1)).length := by rw [lp_no (by omega) (by unfold lpB; simp only [Bool.and_eq_false_iff, decide_eq_false_iff_not]; exact .inl (by omega))]
        rw [hlp]
        clear hu hek hlp
        by_cases h1 : (k : Int) < a
        · have hd1 : decide ((k : Int) < a) = true := decide_eq_true h1
          clear hin h1
          obtain ⟨cX, fX, lX⟩ := kXr.facts
          go_wp2_with fail
          refine (HGk.out _ _ (hTb1.to hbr) hLr).mono ?_
          rintro e wa ⟨rfl, hba⟩
          have kE := Bk.new wa #[.int .i64 ek, .int .i64 en, .bool ea, .bool eb, .bool ec] 38
          have hcE := balloc hba (.cells #[.int .i64 ek, .int .i64 en, .bool ea, .bool eb, .bool ec] 38)
          clear cX fX lX
          go_upto_region 13 with fail
          generalize wa.alloc (.cells #[.int .i64 ek, .int .i64 en, .bool ea, .bool eb, .bool ec] 38) = wb at *
          obtain ⟨cT, fT, lT⟩ := (kTr.to hcE).facts
          go_wp2_with fail
          refine (HGk2.out _ _ ((hTb2.to hbr).to hcE) (hLr.below hcE)).mono ?_
          rintro e wc ⟨rfl, hbc⟩
          have kF := Bk.new wc #[.int .i64 ek, .int .i64 en, .bool ea, .bool eb, .bool ec] 38
          have hcF := balloc hbc (.cells #[.int .i64 ek, .int .i64 en, .bool ea, .bool eb, .bool ec] 38)
          clear cT fT lT
          go_upto_region 14 with fail
          generalize wc.alloc (.cells #[.int .i64 ek, .int .i64 en, .bool ea, .bool eb, .bool ec] 38) = wd at *
          have kE2 := kE.to hcF
          have hbd := bnext (bnext hbr hcE) hcF
          obtain ⟨cE, fE, lE⟩ := kE2.facts
          obtain ⟨cF, fF, lF⟩ := kF.facts
          go_wp2_with fail
          go_roundw
          case rel => exact ⟨k + 1, by omega, by go_num, rfl, hbd⟩
          case measure => simp [intOf]; omega
        · have hd1 : decide ((k : Int) < a) = false := decide_eq_false h1
          have hd2 : decide (b < (k : Int)) = true := decide_eq_true (by omega)
          clear hin h1
          obtain ⟨cX, fX, lX⟩ := kXr.facts
          go_wp2_with fail
          refine (HGk.out _ _ (hTb1.to hbr) hLr).mono ?_
          rintro e wa ⟨rfl, hba⟩
          have kE := Bk.new wa #[.int .i64 ek, .int .i64 en, .bool ea, .bool eb, .bool ec] 38
          have hcE := balloc hba (.cells #[.int .i64 ek, .int .i64 en, .bool ea, .bool eb, .bool ec] 38)
          clear cX fX lX
          go_upto_region 13 with fail
          generalize wa.alloc (.cells #[.int .i64 ek, .int .i64 en, .bool ea, .bool eb, .bool ec] 38) = wb at *
          obtain ⟨cT, fT, lT⟩ := (kTr.to hcE).facts
          go_wp2_with fail
          refine (HGk2.out _ _ ((hTb2.to hbr).to hcE) (hLr.below hcE)).mono ?_
          rintro e wc ⟨rfl, hbc⟩
          have kF := Bk.new wc #[.int .i64 ek, .int .i64 en, .bool ea, .bool eb, .bool ec] 38
          have hcF := balloc hbc (.cells #[.int .i64 ek, .int .i64 en, .bool ea, .bool eb, .bool ec] 38)
          clear cT fT lT
          go_upto_region 14 with fail
          generalize wc.alloc (.cells #[.int .i64 ek, .int .i64 en, .bool ea, .bool eb, .bool ec] 38) = wd at *
          have kE2 := kE.to hcF
          have hbd := bnext (bnext hbr hcE) hcF
          obtain ⟨cE, fE, lE⟩ := kE2.facts
          obtain ⟨cF, fF, lF⟩ := kF.facts
          go_wp2_with fail
          go_roundw
          case rel => exact ⟨k + 1, by omega, by go_num, rfl, hbd⟩
          case measure => simp [intOf]; omega
    · obtain rfl : k = 64 := by omega
      replace hv := hv.to hbr
      replace hL := hLr
      replace hB0 := bnext hB0 hbr
      replace kX := kXr
      replace kT := kTr
      replace hvT := hvT.to hbr
      clear hLr kXr kTr hrur hru hTb1 hTb2 hbr HG HG2 HTab HTab2 F4
      obtain ⟨cT, fT, lT⟩ := kT.facts
      go_upto_region 27 with (go_at_call 15; refine (HC2.out _ _ hvT hL).mono ?_; rintro e wC ⟨rfl, hbC⟩)
      replace hv := hv.to hbC
      replace hL := hL.below hbC
      replace hB0 := bnext hB0 hbC
      replace kX := kX.to hbC
      clear hbC cT fT lT kT hvT HC2
      have cX : True := trivial
      have fX : True := trivial
      have lX : True := trivial
      clear cX fX lX
      obtain ⟨cX, fX, lX⟩ := kX.facts
      go_wp2_with fail
      refine (HEm.out _ _ hv hL).mono ?_
      rintro e wE ⟨vE, uE, zE, rfl, hvE, _, hloE, _, hzE, hbE⟩
      obtain ⟨AE, cE0, LE, clE, BE, dE, rfl, _, _, _, _⟩ := id hvE
      obtain ⟨AuE, cuE, rfl, _⟩ := hloE
      simp only [spcV] at hvE ⊢
      simp only [HEL.out]
      replace hv := hv.to hbE
      replace hL := hL.below hbE
      replace hB0 := bnext hB0 hbE
      replace kX := kX.to hbE
      clear hbE cX fX lX
      go_upto_region 28 with fail
      have kU := Bk.new wE #[.slice AE ([] : List (Int × Int)).length cE0, .int .i64 (-1), .slice LE t0N.2.1.length clE, .slice BE t0N.2.2.length dE] 28
      have hcN := balloc (Below.refl _ wE) (.cells #[.slice AE ([] : List (Int × Int)).length cE0, .int .i64 (-1), .slice LE t0N.2.1.length clE, .slice BE t0N.2.2.length dE] 28)
      have htm : t0N.1 = -1 := rfl
      simp only [htm] at *
      generalize wE.alloc (.cells #[.slice AE ([] : List (Int × Int)).length cE0, .int .i64 (-1), .slice LE t0N.2.1.length clE, .slice BE t0N.2.2.length dE] 28) = wF at *
      replace hv := hv.to hcN
      replace hvE := hvE.to hcN
      replace hL := hL.below hcN
      replace hB0 := bnext hB0 hcN
      replace kX := kX.to hcN
      obtain ⟨A9, c9, rfl, hz9⟩ := hzE
      replace hz9 := hz9.below hcN (Nat.le_refl _)
      clear hcN
      obtain ⟨cX, fX, lX⟩ := kX.facts
      go_wp2_with fail
      refine (HSz.out _ _ hv hL).mono ?_
      rintro e wG ⟨rfl, hbG⟩
      replace hv := hv.to hbG
      replace hvE := hvE.to hbG
      replace hL := hL.below hbG
      replace hB0 := bnext hB0 hbG
      replace kX := kX.to hbG
      replace kU := kU.to hbG
      replace hz9 := hz9.below hbG (Nat.le_refl _)
      clear hbG cX fX lX
      obtain ⟨cX, fX, lX⟩ := kX.facts
      have hTb9 : TbV wG (.agg #[.int .i64 200, .slice L1 (mL27 8).length cl1, .slice B1 es.length d1]) (200, mL27 8, es) := by
        obtain ⟨_, _, _, _, _, _, e', _, q2, q3, q4⟩ := hv
        simp only [spcV, Value.agg.injEq, Array.mk.injEq, List.cons.injEq, Value.slice.injEq] at e'
        obtain ⟨_, _, ⟨rfl, _, rfl⟩, ⟨rfl, _, rfl⟩, _⟩ := e'
        exact tbv_of q2 q3 q4
      go_wp2_with fail
      refine (HFr.out _ _ hTb9 hL).mono ?_
      rintro e wH ⟨vH, rfl, hiH, hbH⟩
      replace hvE := hvE.to hbH
      replace hL := hL.below hbH
      replace hB0 := bnext hB0 hbH
      replace kU := kU.to hbH
      replace hz9 := hz9.below hbH (Nat.le_refl _)
      clear hbH cX fX lX
      obtain ⟨cU, fU, lU⟩ := kU.facts
      go_wp2_with (first
        | (go_at_call 29; refine (HSI.out _ _ _ ⟨A9, c9, rfl, hz9⟩ hiH).mono ?_; rintro e wm ⟨rfl, hbm⟩; clear cU fU lU; obtain ⟨cU, fU, lU⟩ := (kU.to hbm).facts)
        | (go_at_call 15; refine (HCE.out _ _ (hvE.to hbm) (hL.below hbm)).mono ?_; rintro e wI ⟨rfl, hbI⟩)
        | (go_at_call 14; refine (awake27_any _ (hL.below (bnext hbm hbI))).mono ?_; rintro e wJ ⟨rfl, hbJ⟩))
      go_ret
      exact ⟨rfl, bnext (bnext (bnext hB0 hbm) hbI) hbJ⟩
end Go.Proofs.YtpkgfkhaiifooaaDoor
