/- SpaceMoves returns true, whatever the numbers. -/
import Derived.Test.YtpkgfkhaiifooaaDoorMe27
import Derived.Test.YtpkgfkhaiifooaaDoorMv27
import Derived.Test.YtpkgfkhaiifooaaDoorHas27
import Derived.Test.YtpkgfkhaiifooaaDoorSpU
namespace Go.Proofs.YtpkgfkhaiifooaaDoor
open Go Go.Proofs Go.RowKit
set_option linter.unusedSimpArgs false
set_option linter.unusedVariables false
set_option maxRecDepth 100000

set_option maxHeartbeats 32000000 in
theorem SpaceMoves_true (nums more : List Int) (A M : Option Addr) (c cm : Nat) (frame slot : Int) (w : World) (hr : Rd w 1 A nums.length (iw nums)) (hn : nums.length ≤ maxLen) (hM : Rd w 1 M more.length (iw more)) (hL : LayOK w) :
    Calls Tryd.prog 6 #[.slice A nums.length c, .slice M more.length cm, .int .i64 frame, .int .i64 slot] w fun e w' => e = .returned (.bool true) ∧ Below w.heap.size w w' := by
  obtain ⟨f, hf⟩ : ∃ f : Int, frame % 9 = f := ⟨_, rfl⟩
  have hf0 : 0 ≤ f := by have := Int.emod_nonneg frame (show (9 : Int) ≠ 0 by omega); omega
  have hf1 : f < 9 := by have := Int.emod_lt_of_pos frame (show (0 : Int) < 9 by omega); omega
  obtain ⟨sl, hsl⟩ : ∃ sl : Int, slot % 24 = sl := ⟨_, rfl⟩
  have hs0 : 0 ≤ sl := by have := Int.emod_nonneg slot (show (24 : Int) ≠ 0 by omega); omega
  have hs1 : sl < 24 := by have := Int.emod_lt_of_pos slot (show (0 : Int) < 24 by omega); omega
  have HMf := Lib.hid (fun W => Mod_any frame 9 W (by omega) (by omega))
  have HMs := Lib.hid (fun W => Mod_any slot 24 W (by omega) (by omega))
  rw [hf] at HMf
  rw [hsl] at HMs
  have HMd := Lib.hid (made27_any nums more A M c cm w hr hn hM hL)
  have hB0 := Below.refl w.heap.size w
  clear hf hsl hr hn hM
  go_enter Tryd.func6, Tryd.ntmps6
  go_wp2_with fail
  refine HMd.out.mono ?_
  rintro e w1 ⟨rs, es, v1, rfl, hE, hs, hrl, hv, hb1⟩
  replace hL := hL.below hb1
  replace hB0 := bnext hB0 hb1
  obtain ⟨A1, c1, L1, cl1, B1, d1, rfl, _, _, _, _⟩ := id hv
  simp only [spcV] at hv ⊢
  obtain ⟨es2, hmv, hE2, hss2, how, hY, hN⟩ := moves_facts hE hs f sl hf0 (by omega) hs0 (by omega)
  have HO := Lib.hid (fun v W h hl => Owner_any rs 200 (mL27 8) es v f W h (by omega) hs hl)
  have HO2 := Lib.hid (fun v W h hl => Owner_any rs 200 (mL27 8) es2 v f W h (by omega) hss2 hl)
  have HMv := Lib.hid (fun v W h hl => Moved_any rs 200 (mL27 8) es v f sl W h (by omega) hs hl)
  have HCk := Lib.hid (fun v W h hl => spCheck_any rs 200 (mL27 8) es2 v W h (by omega) hss2 hl)
  have hoR : ownR (rs, 200, mL27 8, es) f = (ownL es f 64, 0) := by unfold ownR; rw [if_neg (by simpa using hE), if_neg (by omega)]
  rw [hoR] at HO
  rw [how] at HO2
  rw [hmv] at HMv
  rw [hE2] at HCk
  obtain ⟨_, hT, _⟩ := spc_zero hE
  obtain ⟨_, hT2, _⟩ := spc_zero hE2
  simp only at hT hT2
  have HTab := Lib.hid hT
  have HTab2 := Lib.hid hT2
  have HG := Lib.hid (fun v (k : Nat) W h hl => TGet_any 200 (mL27 8) es v k W h hs hl)
  have HG2 := Lib.hid (fun v (k : Nat) W h hl => TGet_any 200 (mL27 8) es2 v k W h hss2 hl)
  have HY := Lib.hid hY
  have HN := Lib.hid hN
  have HMem := Lib.hid (fun k hk => ownL_mem es f k hk)
  have hzl : (ownL es f 64).length ≤ 64 := ownL_len es f 64
  simp only at HO HO2 HMv
  generalize hzz : ownL es f 64 = zs at *
  clear hzz hT hT2 hY hN hmv hE2 hss2 how hoR hE hs hrl
  go_upto_region 2 with fail
  have kX := Bk.new w1 #[.slice A1 rs.length c1, .int .i64 200, .slice L1 (mL27 8).length cl1, .slice B1 es.length d1] 28
  have hcN := balloc (Below.refl _ w1) (.cells #[.slice A1 rs.length c1, .int .i64 200, .slice L1 (mL27 8).length cl1, .slice B1 es.length d1] 28)
  generalize w1.alloc (.cells #[.slice A1 rs.length c1, .int .i64 200, .slice L1 (mL27 8).length cl1, .slice B1 es.length d1] 28) = w2 at *
  replace hv := hv.to hcN
  replace hL := hL.below hcN
  replace hB0 := bnext hB0 hcN
  clear hcN hb1
  obtain ⟨cX, fX, lX⟩ := kX.facts
  go_wp2_with fail
  refine (HMf.out _).mono ?_
  rintro e wm ⟨rfl, rfl⟩
  go_wp2_with fail
  refine (HMs.out _).mono ?_
  rintro e wm ⟨rfl, rfl⟩
  go_wp2_with fail
  refine (HO.out _ _ hv hL).mono ?_
  rintro e w3 ⟨v3, rfl, hi1, hb3⟩
  obtain ⟨A3, c3, rfl, hr3⟩ := hi1
  replace hv := hv.to hb3
  replace hL := hL.below hb3
  replace hB0 := bnext hB0 hb3
  replace kX := kX.to hb3
  clear hb3 cX fX lX
  obtain ⟨cX, fX, lX⟩ := kX.facts
  go_wp2_with fail
  refine (HMv.out _ _ hv hL).mono ?_
  rintro e w4 ⟨v4, rfl, hvT, hlT, hb4⟩
  obtain ⟨A4, c4, L4, cl4, B4, d4, rfl, _, _, _, _⟩ := id hvT
  simp only [spcV] at hvT hlT ⊢
  replace hv := hv.to hb4
  replace hL := hL.below hb4
  replace hB0 := bnext hB0 hb4
  replace kX := kX.to hb4
  replace hr3 := hr3.below hb4 (Nat.le_refl _)
  clear hb4 cX fX lX hlT
  go_upto_region 5 with fail
  have kT := Bk.new w4 #[.slice A4 rs.length c4, .int .i64 200, .slice L4 (mL27 8).length cl4, .slice B4 es2.length d4] 28
  have hcN := balloc (Below.refl _ w4) (.cells #[.slice A4 rs.length c4, .int .i64 200, .slice L4 (mL27 8).length cl4, .slice B4 es2.length d4] 28)
  generalize w4.alloc (.cells #[.slice A4 rs.length c4, .int .i64 200, .slice L4 (mL27 8).length cl4, .slice B4 es2.length d4] 28) = w5 at *
  replace hv := hv.to hcN
  replace hvT := hvT.to hcN
  replace hL := hL.below hcN
  replace hB0 := bnext hB0 hcN
  replace kX := kX.to hcN
  replace hr3 := hr3.below hcN (Nat.le_refl _)
  clear hcN
  obtain ⟨cT, fT, lT⟩ := kT.facts
  go_wp2_with fail
  refine (HO2.out _ _ hvT hL).mono ?_
  rintro e w6 ⟨v6, rfl, hi6, hb6⟩
  obtain ⟨A6, c6, rfl, _⟩ := hi6
  simp only [List.length_nil]
  replace hv := hv.to hb6
  replace hvT := hvT.to hb6
  replace hL := hL.below hb6
  replace hB0 := bnext hB0 hb6
  replace kX := kX.to hb6
  replace kT := kT.to hb6
  replace hr3 := hr3.below hb6 (Nat.le_refl _)
  clear hb6 cT fT lT
  obtain ⟨cT, fT, lT⟩ := kT.facts
  go_wp2_with fail
  refine (HCk.out _ _ hvT hL).mono ?_
  rintro e w7 ⟨rfl, hb7⟩
  replace hv := hv.to hb7
  replace hvT := hvT.to hb7
  replace hL := hL.below hb7
  replace hB0 := bnext hB0 hb7
  replace kX := kX.to hb7
  replace kT := kT.to hb7
  replace hr3 := hr3.below hb7 (Nat.le_refl _)
  clear hb7 cT fT lT
  have hTb1 : TbV w7 (.agg #[.int .i64 200, .slice L1 (mL27 8).length cl1, .slice B1 es.length d1]) (200, mL27 8, es) := by
    obtain ⟨_, _, _, _, _, _, e', _, q2, q3, q4⟩ := hv
    simp only [spcV, Value.agg.injEq, Array.mk.injEq, List.cons.injEq, Value.slice.injEq] at e'
    obtain ⟨_, _, ⟨rfl, _, rfl⟩, ⟨rfl, _, rfl⟩, _⟩ := e'
    exact tbv_of q2 q3 q4
  have hTb2 : TbV w7 (.agg #[.int .i64 200, .slice L4 (mL27 8).length cl4, .slice B4 es2.length d4]) (200, mL27 8, es2) := by
    obtain ⟨_, _, _, _, _, _, e', _, q2, q3, q4⟩ := hvT
    simp only [spcV, Value.agg.injEq, Array.mk.injEq, List.cons.injEq, Value.slice.injEq] at e'
    obtain ⟨_, _, ⟨rfl, _, rfl⟩, ⟨rfl, _, rfl⟩, _⟩ := e'
    exact tbv_of q2 q3 q4
  clear hv hvT
  go_wp2_with fail
  go_loopw [20] (fun i wr => ∃ k : Nat, k ≤ 64 ∧ i = .int .i64 k ∧ Below w7.heap.size w7 wr) (fun i _ => 64 - (intOf i).toNat)
  case atStart => exact ⟨0, by omega, rfl, Below.refl _ _⟩
  case round =>
    obtain ⟨k, hk, rfl, hbr⟩ := hrel
    have hLr := hL.below hbr
    have kXr := kX.to hbr
    have kTr := kT.to hbr
    by_cases hlt : k < 64
    · have hkI : (k : Int) < 64 := by omega
      have HGk := Lib.hid (fun v W h hl => HG.out v k W h hl)
      have HGk2 := Lib.hid (fun v W h hl => HG2.out v k W h hl)
      rw [get_in HTab.out k hlt] at HGk
      rw [get_in HTab2.out k hlt] at HGk2
      have her := unp_in HTab.out k hlt
      rcases hu : unpR (es.getD k 0) with ⟨⟨ek, en, ea, eb, ec⟩, er⟩
      rw [hu] at HGk her
      simp only at her HGk
      subst her
      have HH := Lib.hid (fun W h => kHas_any zs (.slice A3 zs.length c3) k W h (by omega))
      have hmem := HMem.out k hlt
      rcases hb : ownB es f k with _ | _
      · have h1 : decide ((k : Int) ∈ zs) = false := decide_eq_false (fun hh => by rw [hmem.1 hh] at hb; cases hb)
        rw [h1] at HH
        have h2 := HN.out k hlt hb
        rw [h2, hu] at HGk2
        try simp only at HGk2
        clear hb hmem hu h1 h2
        obtain ⟨cX, fX, lX⟩ := kXr.facts
        go_wp2_with fail
        refine (HGk.out _ _ (hTb1.to hbr) hLr).mono ?_
        rintro e wa ⟨rfl, hba⟩
        have kE := Bk.new wa #[.int .i64 ek, .int .i64 en, .bool ea, .bool eb, .bool ec] 38
        have hcE := balloc hba (.cells #[.int .i64 ek, .int .i64 en, .bool ea, .bool eb, .bool ec] 38)
        clear cX fX lX
        go_upto_region 12 with fail
        generalize wa.alloc (.cells #[.int .i64 ek, .int .i64 en, .bool ea, .bool eb, .bool ec] 38) = wb at *
        obtain ⟨cT, fT, lT⟩ := (kTr.to hcE).facts
        go_wp2_with fail
        refine (HGk2.out _ _ ((hTb2.to hbr).to hcE) (hLr.below hcE)).mono ?_
        rintro e wc ⟨rfl, hbc⟩
        have kF := Bk.new wc #[.int .i64 ek, .int .i64 en, .bool ea, .bool eb, .bool ec] 38
        have hcF := balloc hbc (.cells #[.int .i64 ek, .int .i64 en, .bool ea, .bool eb, .bool ec] 38)
        clear cT fT lT
        go_upto_region 13 with fail
        generalize wc.alloc (.cells #[.int .i64 ek, .int .i64 en, .bool ea, .bool eb, .bool ec] 38) = wd at *
        have kE2 := kE.to hcF
        have hbd := bnext (bnext hbr hcE) hcF
        obtain ⟨cE, fE, lE⟩ := kE2.facts
        obtain ⟨cF, fF, lF⟩ := kF.facts
        go_wp2_with (go_at_call 31; refine (HH.out _ ⟨A3, c3, rfl, hr3.below hbd (Nat.le_refl _)⟩).mono ?_; rintro e wm ⟨rfl, rfl⟩)
        go_roundw
        case rel => exact ⟨k + 1, by omega, by go_num, hbd⟩
        case measure => simp [intOf]; omega
      · have h1 : decide ((k : Int) ∈ zs) = true := decide_eq_true (hmem.2 hb)
        rw [h1] at HH
        rw [HY.out k hlt hb] at HGk2
        try simp only at HGk2
        clear hb hmem hu h1
        obtain ⟨cX, fX, lX⟩ := kXr.facts
        go_wp2_with fail
        refine (HGk.out _ _ (hTb1.to hbr) hLr).mono ?_
        rintro e wa ⟨rfl, hba⟩
        have kE := Bk.new wa #[.int .i64 ek, .int .i64 en, .bool ea, .bool eb, .bool ec] 38
        have hcE := balloc hba (.cells #[.int .i64 ek, .int .i64 en, .bool ea, .bool eb, .bool ec] 38)
        have hsa : wr.heap.size ≤ wa.heap.size := hba.size
        clear cX fX lX
        go_upto_region 12 with fail
        generalize wa.alloc (.cells #[.int .i64 ek, .int .i64 en, .bool ea, .bool eb, .bool ec] 38) = wb at *
        obtain ⟨cT, fT, lT⟩ := (kTr.to hcE).facts
        go_wp2_with fail
        refine (HGk2.out _ _ ((hTb2.to hbr).to hcE) (hLr.below hcE)).mono ?_
        rintro e wc ⟨rfl, hbc⟩
        have kF := Bk.new wc #[.int .i64 2, .int .i64 sl, .bool false, .bool false, .bool false] 38
        have hcF := balloc hbc (.cells #[.int .i64 2, .int .i64 sl, .bool false, .bool false, .bool false] 38)
        clear cT fT lT
        have hac : wa.heap.size < wc.heap.size := Nat.lt_of_lt_of_le kE.lt hbc.size
        go_upto_region 13 with fail
        generalize wc.alloc (.cells #[.int .i64 2, .int .i64 sl, .bool false, .bool false, .bool false] 38) = wd at *
        have kE2 := kE.to hcF
        have hbd := bnext (bnext hbr hcE) hcF
        have hsr := hbr.size
        have kE3 := kE2.put5 (.int .i64 2) (.int .i64 sl) (.bool false) (.bool false) (.bool false)
        have kF3 := ((((kF.far (p := ⟨wa.heap.size, 0, none⟩) (by show wc.heap.size ≠ wa.heap.size; omega) (.int .i64 2)).far (p := ⟨wa.heap.size, 1, none⟩) (by show wc.heap.size ≠ wa.heap.size; omega) (.int .i64 sl)).far (p := ⟨wa.heap.size, 2, none⟩) (by show wc.heap.size ≠ wa.heap.size; omega) (.bool false)).far (p := ⟨wa.heap.size, 3, none⟩) (by show wc.heap.size ≠ wa.heap.size; omega) (.bool false)).far (p := ⟨wa.heap.size, 4, none⟩) (by show wc.heap.size ≠ wa.heap.size; omega) (.bool false)
        have hb3 := below_put5 hbd (b := wa.heap.size) (by omega) (.int .i64 2) (.int .i64 sl) (.bool false) (.bool false) (.bool false)
        obtain ⟨cE, fE, lE⟩ := kE2.facts
        go_upto_region 15 with (go_at_call 31; refine (HH.out _ ⟨A3, c3, rfl, hr3.below hbd (Nat.le_refl _)⟩).mono ?_; rintro e wm ⟨rfl, rfl⟩)
        generalize ((((wd.setCell ⟨wa.heap.size, 0, none⟩ (.int .i64 2)).setCell ⟨wa.heap.size, 1, none⟩ (.int .i64 sl)).setCell ⟨wa.heap.size, 2, none⟩ (.bool false)).setCell ⟨wa.heap.size, 3, none⟩ (.bool false)).setCell ⟨wa.heap.size, 4, none⟩ (.bool false) = we at *
        clear cE fE lE
        obtain ⟨cE, fE, lE⟩ := kE3.facts
        obtain ⟨cF, fF, lF⟩ := kF3.facts
        go_wp2_with fail
        go_roundw
        case rel => exact ⟨k + 1, by omega, by go_num, hb3⟩
        case measure => simp [intOf]; omega
    · obtain rfl : k = 64 := by omega
      go_wp2_with fail
      refine (awake27_any _ hLr).mono ?_
      rintro e wa ⟨rfl, hba⟩
      go_wp2_with fail
      go_ret
      exact ⟨rfl, bnext hB0 (bnext hbr hba)⟩
end Go.Proofs.YtpkgfkhaiifooaaDoor
