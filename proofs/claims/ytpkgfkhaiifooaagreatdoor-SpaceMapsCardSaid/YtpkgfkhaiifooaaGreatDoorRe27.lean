/- What the reference of chapter 27 returns: Empty. -/
import Derived.Test.YtpkgfkhaiifooaaGreatDoorGL
import Derived.Test.YtpkgfkhaiifooaaGreatDoorSpR
import Derived.Test.YtpkgfkhaiifooaaGreatDoorGY
import Derived.Test.YtpkgfkhaiifooaaGreatDoorGZ
import Derived.Deep.RegionHeld3
namespace Go.Proofs.YtpkgfkhaiifooaaGreatDoor
open Go Go.Proofs Go.RowKit
set_option linter.unusedSimpArgs false
set_option linter.unusedVariables false
set_option maxRecDepth 100000

set_option maxHeartbeats 4000000 in
theorem rFrames_row (r : Int) (ls : List Int) (es : List Nat) (v : Value) (w : World) (hv : TbV w v (r, ls, es)) (hs : wsmall es) (hE : tabE r ls es = 0) :
    Calls Tryz.prog 37 #[v] w fun e w' => ∃ v, e = .returned (.tuple #[v, .int .i64 0]) ∧ w'.ownsRow w.heap.size 3 1 v (frmA r ls).length (iw (frmA r ls)) ∧ Below w.heap.size w w' := by
  obtain ⟨h1, h2, hR, hLs, hDu, hSt, hUn, hMi⟩ := tab_zero hE
  obtain ⟨A, c, B, d, rfl, hA, hB, hcc⟩ := id hv
  simp only at hA hB hcc
  unfold tabV at hv ⊢
  simp only at hv ⊢
  rw [h1, h2] at hv ⊢
  rw [h1] at hA hcc
  rw [h2] at hB
  have kT := (Bk.new (w) #[.int .i64 r, .slice A 8 c, .slice B 64 d] 26)
  have hB1 := balloc (Below.refl _ w) (.cells #[.int .i64 r, .slice A 8 c, .slice B 64 d] 26)
  generalize hw_w1 : w.alloc (.cells #[.int .i64 r, .slice A 8 c, .slice B 64 d] 26) = w1 at *
  obtain ⟨i0, hi, hz0, hz1, hz2⟩ := info_parts infoInt
  obtain ⟨cT, fT, lT⟩ := kT.facts
  go_enter Tryz.func37, Tryz.ntmps37
  go_wp2_with fail
  refine (rTCheck_any r ls es _ _ (hv.to hB1) hs).mono ?_
  rw [hE]
  rintro e w2 ⟨rfl, hb2⟩
  replace kT := kT.to hb2
  replace hB1 := bnext hB1 hb2
  clear cT fT lT
  obtain ⟨cT, fT, lT⟩ := kT.facts
  replace hA := hA.below hB1 (Nat.le_refl _)
  clear hb2 hw_w1 hv hB
  go_wp2_with fail
  clear cT fT lT
  go_loopw [5, 6] (fun v i wr => ∃ k : Nat, k ≤ 8 ∧ i = .int .i64 k ∧ wr.ownsRow w2.heap.size 3 1 v (frmL ls k).length (iw (frmL ls k)) ∧ Below w2.heap.size w2 wr) (fun _ i _ => 8 - (intOf i).toNat)
  case atStart => exact ⟨0, by omega, rfl, World.ownsRow_nil _ _ _ _, Below.refl _ _⟩
  case round =>
    obtain ⟨k, hk, rfl, hown, hBx⟩ := hrel
    obtain ⟨cT, fT, lT⟩ := (kT.to hBx).facts
    have hfl := frmL_len ls k
    by_cases hlt : k < 8
    · obtain ⟨g, off, z, rfl, hg, hz, hc⟩ := (hA.below hBx (Nat.le_refl _)).numb hlt
      have hkI : (k : Int) < 8 := by omega
      have hzz := (hLs k hlt).1
      have HS := Lib.hid (frmL_succ ls k (by omega))
      rw [hz] at HS hzz
      by_cases hz1 : z = -1
      · have hz2' : decide (0 ≤ z) = false := by simp; omega
        have HS2 : Hid (frmL ls (k + 1) = frmL ls k) := Lib.hid (by rw [HS.out, if_pos hz1, List.append_nil])
        clear hz1 hz HS
        go_wp2_with fail
        go_roundw
        case rel => exact ⟨k + 1, by omega, by go_num, by rw [HS2.out]; exact hown, hBx⟩
        case measure => simp [intOf]; omega
      · have hz2' : decide (0 ≤ z) = true := by simp; omega
        have HS2 : Hid (frmL ls (k + 1) = frmL ls k ++ [z]) := Lib.hid (by rw [HS.out, if_neg hz1])
        clear hz1 hz HS
        go_wp2_with (first
          | (at_builtin; refine wpList_append_own _ rfl _ _ 23 rfl w2.heap.size 3 i0 (.int .i64 0) 1 8 Tryz.underlying23 hi hz0 hz1 hz2 rfl (by decide) _ _ _ rfl (hown.alloc _) ⟨wr.heap.size, 0, none⟩ 1 1 [.int .i64 z] rfl rfl (cell_one_new _ _ _) (by simp [Value.oneCell']) (by simp only [maxLen]; omega) (by omega) (by have := hBx.size; simp; omega) ?_; intro v' w9 hown' hgrow _))
        have hown2 : w9.ownsRow w2.heap.size 3 1 v' (frmL ls (k + 1)).length (iw (frmL ls (k + 1))) := by
          rw [HS2.out]; simpa [iw] using hown'
        have hBx2 : Below w2.heap.size w2 w9 := (hBx.alloc hBx.size _).grown hgrow (by have := hBx.size; simp; omega) (fun q e => (hown.lt q e).1)
        clear hown' hgrow hown hBx
        go_wp2_with fail
        go_roundw
        case rel => exact ⟨k + 1, by omega, by go_num, hown2, hBx2⟩
        case measure => simp [intOf]; omega
    · obtain rfl : k = 8 := by omega
      by_cases hr1 : r = -1
      · have Hv : Hid (frmA r ls = frmL ls 8) := Lib.hid (by unfold frmA; rw [if_pos hr1, List.append_nil])
        have hr2 : decide (0 ≤ r) = false := by simp; omega
        clear hr1
        go_wp2_with fail
        go_ret2
        exact ⟨_, rfl, by rw [Hv.out]; exact own_less hown (by have := hB1.size; omega), bnext hB1 hBx⟩
      · have Hv : Hid (frmA r ls = frmL ls 8 ++ [r]) := Lib.hid (by unfold frmA; rw [if_neg hr1])
        have hr2 : decide (0 ≤ r) = true := by simp; omega
        clear hr1
        go_wp2_with (first
          | (at_builtin; refine wpList_append_own _ rfl _ _ 23 rfl w2.heap.size 3 i0 (.int .i64 0) 1 8 Tryz.underlying23 hi hz0 hz1 hz2 rfl (by decide) _ _ _ rfl (hown.alloc _) ⟨wr.heap.size, 0, none⟩ 1 1 [.int .i64 r] rfl rfl (cell_one_new _ _ _) (by simp [Value.oneCell']) (by simp only [maxLen]; omega) (by omega) (by have := hBx.size; simp; omega) ?_; intro v' w9 hown' hgrow _))
        have hown2 : w9.ownsRow w2.heap.size 3 1 v' (frmL ls 8 ++ [r]).length (iw (frmL ls 8 ++ [r])) := by
          simpa [iw] using hown'
        have hBx2 : Below w2.heap.size w2 w9 := (hBx.alloc hBx.size _).grown hgrow (by have := hBx.size; simp; omega) (fun q e => (hown.lt q e).1)
        clear hown' hgrow hown hBx
        go_wp2_with fail
        go_ret2
        exact ⟨_, rfl, by rw [Hv.out]; exact own_less hown2 (by have := hB1.size; omega), bnext hB1 hBx2⟩
/-- The losses of Empty below a page. -/
def lqN (r : Int) (ls : List Int) (es : List Nat) (n : Nat) : List Lo := (lpN r ls es 0 63 n).map lo1
theorem lq_no {r : Int} {ls : List Int} {es : List Nat} {n : Nat} (hn : n < 64) (h : (entP es n).1 = 0) : lqN r ls es (n + 1) = lqN r ls es n := by
  unfold lqN
  rw [lp_no hn]
  simp [lpB, h]
theorem lq_yes {r : Int} {ls : List Int} {es : List Nat} {n : Nat} (hn : n < 64) (h : (entP es n).1 ≠ 0) : lqN r ls es (n + 1) = lqN r ls es n ++ [((n : Int), entP es n, -1)] := by
  unfold lqN
  obtain ⟨lf, hl⟩ := lp_yes (r := r) (ls := ls) (es := es) (a := 0) (b := 63) hn (by unfold lpB; rw [decide_eq_true (show (0 : Int) ≤ (n : Int) by omega), decide_eq_true (show (n : Int) ≤ 63 by omega), decide_eq_true h]; rfl)
  rw [hl, List.map_append]
  rfl
theorem lq_len {r : Int} {ls : List Int} {es : List Nat} {n : Nat} (hn : n ≤ 64) : (lqN r ls es n).length ≤ n := by
  unfold lqN
  rw [List.length_map, lp_len n hn]
  simpa using List.length_filter_le (fun p => lpB es 0 63 p) (List.range n)
theorem rd_ltE {w : World} {sz n : Nat} {A : Option Addr} {xs : List Value} (h : Rd w sz A n xs) : ∀ b off, 0 < n → A = some ⟨b, off, none⟩ → b < w.heap.size := fun b off h0 he => by
  obtain ⟨b', off', e', hb', _⟩ := h.2 h0
  rw [he] at e'
  injection e' with e'
  injection e' with e'
  omega
/-- Between two pages. -/
def RemI (r : Int) (ls : List Int) (es : List Nat) (w2 : World) (u i : Value) (wr : World) : Prop := ∃ k : Nat, k ≤ 64 ∧ i = .int .i64 k ∧ wr.ownsRow w2.heap.size 59 7 u (lqN r ls es k).length (loW (lqN r ls es k)) ∧ Below w2.heap.size w2 wr

set_option maxHeartbeats 8000000 in
theorem rSpEmpty_any (rs : List (Int × Int)) (r : Int) (ls : List Int) (es : List Nat) (v : Value) (w : World) (hv : SpV w v (rs, r, ls, es)) (hn : rs.length ≤ 1000) (hs : wsmall es) :
    Calls Tryz.prog 14 #[v] w fun e w' => SpResE w w' (empS (rs, r, ls, es)).1 (empS (rs, r, ls, es)).2.1 (empS (rs, r, ls, es)).2.2.1 (empS (rs, r, ls, es)).2.2.2 e := by
  obtain ⟨A, c, L, cl, B, d, hve, hA, hLs, hB, hcc⟩ := id hv
  subst hve
  unfold spcV at hv ⊢
  simp only at hv ⊢ hA hLs hB hcc
  obtain ⟨i0, hi, hz0, hz1, hz2⟩ := info_parts infoLost
  have kS := (Bk.new w #[.slice A rs.length c, .int .i64 r, .slice L ls.length cl, .slice B es.length d] 28).alloc (.cells #[.slice none 0 0, .int .i64 0, .slice none 0 0, .slice none 0 0] 28)
  have kR := Bk.new (w.alloc (.cells #[.slice A rs.length c, .int .i64 r, .slice L ls.length cl, .slice B es.length d] 28)) #[.slice none 0 0, .int .i64 0, .slice none 0 0, .slice none 0 0] 28
  simp only [World.size_alloc] at kR
  have hB1 := balloc (balloc (Below.refl _ w) (.cells #[.slice A rs.length c, .int .i64 r, .slice L ls.length cl, .slice B es.length d] 28)) (.cells #[.slice none 0 0, .int .i64 0, .slice none 0 0, .slice none 0 0] 28)
  generalize hw1 : (w.alloc (.cells #[.slice A rs.length c, .int .i64 r, .slice L ls.length cl, .slice B es.length d] 28)).alloc (.cells #[.slice none 0 0, .int .i64 0, .slice none 0 0, .slice none 0 0] 28) = w1 at *
  have HC := Lib.hid (rSpCheck_any rs r ls es _ _ (hv.to hB1) (by omega) hs)
  obtain ⟨cS, fS, lS⟩ := kS.facts
  obtain ⟨cR, fR, lR⟩ := kR.facts
  by_cases hE : spcE (rs, r, ls, es) = 0
  case neg =>
    have hR : empS (rs, r, ls, es) = (sp0, [], [], spcE (rs, r, ls, es)) := by unfold empS; rw [if_pos hE]
    rw [hR]
    have hd : (spcE (rs, r, ls, es) != 0) = true := by simpa using hE
    generalize spcE (rs, r, ls, es) = z at *
    clear hR hE
    go_enter Tryz.func14, Tryz.ntmps14
    go_wp2_with (go_at_call 23; refine HC.out.mono ?_; rintro e w2 ⟨rfl, hb2⟩; clear cS fS lS cR fR lR; obtain ⟨cR, fR, lR⟩ := (kR.to hb2).facts)
    have kF := (kR.to hb2).put4 (.slice none 0 0) (.int .i64 0) (.slice none 0 0) (.slice none 0 0)
    have hBF := below_put4 (bnext hB1 hb2) (g := w.heap.size + 1) (by omega) (.slice none 0 0) (.int .i64 0) (.slice none 0 0) (.slice none 0 0)
    exact bodyPost_ret (kF.res4 (P := Tryz.prog) rfl _ rfl (by kernel_rfl) (by kernel_rfl)) rfl ⟨_, _, _, rfl, SpV.zero _, SLoc.zero _, IsLo.nil _, ILoc.nil _, IsV.nil _, ILoc.nil _, hBF⟩
  obtain ⟨hg, hT, _⟩ := spc_zero hE
  simp only at hg hT
  rw [hE] at HC
  have hR : empS (rs, r, ls, es) = (([], t0N), lqN r ls es 64, frmA r ls, 0) := by unfold empS lqN lpN frmR frmA; rw [if_neg (by simpa using hE)]; simp only; rw [if_neg (by simpa using hT)]
  rw [hR]
  have HFm := Lib.hid (fun v W h => rFrames_row r ls es v W h hs hT)
  have HNw := Lib.hid (fun W => rNew_any (-1) W)
  have hnw : newR (-1) = (t0N, 0) := by decide
  rw [hnw] at HNw
  generalize frmA r ls = fz at *
  have HTt := Lib.hid hT
  clear hR hE hnw
  go_enter Tryz.func14, Tryz.ntmps14
  go_wp2_with fail
  refine HC.out.mono ?_
  rintro e w2 ⟨rfl, hb2⟩
  clear cS fS lS cR fR lR hw1
  replace kS := kS.to hb2
  replace kR := kR.to hb2
  replace hB1 := bnext hB1 hb2
  clear hb2 HC
  have hkR := kR.lt
  have hT2 : TbV w2 (.agg #[.int .i64 r, .slice L ls.length cl, .slice B es.length d]) (r, ls, es) := tbv_of (hLs.below hB1 (Nat.le_refl _)) (hB.below hB1 (Nat.le_refl _)) hcc
  have hs2 := hB1.size
  clear hLs hB hA hv
  go_wp2_with fail
  go_loopw [7, 8] (fun u i wr => RemI r ls es w2 u i wr) (fun _ i _ => 64 - (intOf i).toNat)
  case atStart => exact ⟨0, by omega, rfl, World.ownsRow_nil _ _ _ _, Below.refl _ _⟩
  case round =>
    obtain ⟨k, hk, rfl, hown, hBx⟩ := hrel
    have kSr := kS.to hBx
    have hTr := hT2.to hBx
    have hkl := lq_len (r := r) (ls := ls) (es := es) hk
    have hszx := hBx.size
    by_cases hlt : k < 64
    · have hkI : (k : Int) < 64 := by omega
      have HG := Lib.hid (fun W h => rGet_any r ls es (.agg #[.int .i64 r, .slice L ls.length cl, .slice B es.length d]) k W h hs)
      rw [get_in HTt.out k hlt] at HG
      have her := unp_in HTt.out k hlt
      rcases hu : unpR (es.getD k 0) with ⟨⟨ek, en, ea, eb, ec⟩, er⟩
      have hee : entP es k = (ek, en, ea, eb, ec) := by unfold entP; rw [hu]
      have HY := Lib.hid (fun h => lq_yes (r := r) (ls := ls) (es := es) hlt h)
      have HN := Lib.hid (fun h => lq_no (r := r) (ls := ls) (es := es) hlt h)
      rw [hee] at HY HN
      rw [hu] at HG her
      simp only at her HG HY HN
      subst her
      clear hu hee
      obtain ⟨cS, fS, lS⟩ := kSr.facts
      go_wp2_with fail
      refine (HG.out _ hTr).mono ?_
      rintro e w3 ⟨rfl, hb3⟩
      clear cS fS lS HG hTr
      go_upto_region 9 with fail
      have kE := Bk.new w3 #[.int .i64 ek, .int .i64 en, .bool ea, .bool eb, .bool ec] 57
      have hcE := balloc hb3 (.cells #[.int .i64 ek, .int .i64 en, .bool ea, .bool eb, .bool ec] 57)
      have hown8 := own_below hown hcE
      have hBx8 := bnext hBx hcE
      generalize w3.alloc (.cells #[.int .i64 ek, .int .i64 en, .bool ea, .bool eb, .bool ec] 57) = w8 at *
      have hs83 := hb3.size
      clear hb3 hcE hown
      obtain ⟨cE, fE, lE⟩ := kE.facts
      by_cases hk0 : ek = 0
      · have d1 : (ek != 0) = false := by simpa using hk0
        have HS2 := Lib.hid (HN.out hk0)
        have HO8 := Lib.hid hown8
        clear hk0 HY HN hown8
        go_wp2_with fail
        go_roundw
        case rel => exact ⟨k + 1, by omega, by go_num, by rw [HS2.out]; exact HO8.out, hBx8⟩
        case measure => simp [intOf]; omega
      · have d1 : (ek != 0) = true := by simpa using hk0
        have HS2 := Lib.hid (HY.out hk0)
        clear hk0 HY HN
        generalize hlq : lqN r ls es k = los at *
        clear hlq
        go_wp2_with (at_builtin; refine wpList_append_own_at _ rfl _ _ 36 rfl w2.heap.size 59 i0 (.agg #[.int .i64 0, .int .i64 0, .int .i64 0, .bool false, .bool false, .bool false, .int .i64 0]) 7 40 Tryz.underlying36 hi hz0 hz1 hz2 rfl (by decide) _ _ (loW los) rfl (hown8.alloc _) ⟨w8.heap.size, 0, none⟩ 1 1 (loC ((k : Int), (ek, en, ea, eb, ec), -1)) rfl rfl (cells_new w8 (loC ((k : Int), (ek, en, ea, eb, ec), -1)) 59) (by simp [loC, Value.oneCell']) (by simp only [maxLen]; omega) (by omega) (by simp; omega) ?_; intro v9 w9 hown9 hgr9 _ hloc9)
        have hown2 : w9.ownsRow w2.heap.size 59 7 v9 (lqN r ls es (k + 1)).length (loW (lqN r ls es (k + 1))) := by
          rw [HS2.out, loW_snoc, List.length_append]; exact hown9
        have hBx2 : Below w2.heap.size w2 w9 := (hBx8.alloc hBx8.size _).grown hgr9 (by have := hBx8.size; simp; omega) (fun q e => (hown8.lt q e).1)
        have HO9 := Lib.hid hown2
        clear hown9 hgr9 hown8 hBx8 hBx hloc9 hown2
        go_wp2_with fail
        go_roundw
        case rel => first | exact ⟨k + 1, by omega, by go_num, HO9.out, hBx2⟩ | ((repeat apply Exists.intro); exact ⟨⟨k + 1, by omega, by go_num, HO9.out, hBx2⟩, rfl⟩)
        case measure => simp [intOf]; omega
    · obtain rfl : k = 64 := by omega
      obtain ⟨AU, cU, rfl, hrdU⟩ := own_slice hown
      have hloU := own_loc2 hown
      have kRr := kR.to hBx
      have hBw := bnext hB1 hBx
      have HO := Lib.hid hown
      generalize hlq : lqN r ls es 64 = los at *
      have Hlq := Lib.hid hlq
      clear hlq hrdU hown
      obtain ⟨cS, fS, lS⟩ := kSr.facts
      go_wp2_with fail
      refine (HFm.out _ _ hTr).mono ?_
      rintro e w3 ⟨vz, rfl, hz3, hb3⟩
      clear cS fS lS HFm hTr kSr
      obtain ⟨Az, cz, rfl, hrz⟩ := own_slice hz3
      have hlz := own_loc2 hz3
      clear hz3
      replace kRr := kRr.to hb3
      replace hBw := bnext hBw hb3
      have hoU3 := own_below HO.out hb3
      have hz3l := hb3.size
      clear hb3
      go_wp2_with fail
      refine (HNw.out _).mono ?_
      rintro e w4 ⟨v4, rfl, hv4, hl4, hb4⟩
      obtain ⟨A4, c4, B4, d4, rfl, hA4, hB4, hc4⟩ := id hv4
      obtain ⟨n1, n2⟩ := hl4 _ _ _ _ _ _ _ rfl
      simp only [tabV, t0N] at hv4 hl4 hA4 hB4 hc4 n1 n2 ⊢
      replace kRr := kRr.to hb4
      replace hBw := bnext hBw hb4
      replace hoU3 := own_below hoU3 hb4
      replace hrz := hrz.below hb4 (Nat.le_refl _)
      have hA4l := rd_ltE hA4
      have hB4l := rd_ltE hB4
      have hs4 := hb4.size
      clear hb4 HNw
      go_upto_region 13 with fail
      have kT := Bk.new w4 #[.int .i64 (-1), .slice A4 8 c4, .slice B4 64 d4] 26
      have hcN := balloc (Below.refl _ w4) (.cells #[.int .i64 (-1), .slice A4 8 c4, .slice B4 64 d4] 26)
      generalize w4.alloc (.cells #[.int .i64 (-1), .slice A4 8 c4, .slice B4 64 d4] 26) = w5 at *
      replace kRr := kRr.to hcN
      replace hBw := bnext hBw hcN
      replace hoU3 := own_below hoU3 hcN
      replace hrz := hrz.below hcN (Nat.le_refl _)
      replace hv4 := hv4.to hcN
      replace hA4 := hA4.below hcN (Nat.le_refl _)
      replace hB4 := hB4.below hcN (Nat.le_refl _)
      clear hcN
      obtain ⟨cT, fT, lT⟩ := kT.facts
      obtain ⟨cR, fR, lR⟩ := kRr.facts
      go_wp2_with fail
      have hsp5 : SpV w5 (.agg #[.slice none 0 0, .int .i64 (-1), .slice A4 8 c4, .slice B4 64 d4]) ([], t0N) := ⟨none, 0, A4, c4, B4, d4, rfl, Rd.zero none, hA4, hB4, hc4⟩
      have hsl : SLoc w3.heap.size (.agg #[.slice none 0 0, .int .i64 (-1), .slice A4 8 c4, .slice B4 64 d4]) := SLoc.mk (fun b off h0 => absurd h0 (by omega)) n1 n2
      have hvF := spv_put4 hsp5 hsl (g := w.heap.size + 1) (by omega) (.slice none 0 0) (.int .i64 (-1)) (.slice A4 8 c4) (.slice B4 64 d4)
      have kF := kRr.put4 (.slice none 0 0) (.int .i64 (-1)) (.slice A4 8 c4) (.slice B4 64 d4)
      have hBF := below_put4 hBw (g := w.heap.size + 1) (by omega) (.slice none 0 0) (.int .i64 (-1)) (.slice A4 8 c4) (.slice B4 64 d4)
      have hU2 := own_ne4 hoU3 (g := w.heap.size + 1) (fun b off q e => by have := hloU b off q e; omega) (.slice none 0 0) (.int .i64 (-1)) (.slice A4 8 c4) (.slice B4 64 d4)
      have hz2 := Rd.far4 hrz (g := w.heap.size + 1) (fun b off h0 e => by have := hlz b off _ e; omega) (.slice none 0 0) (.int .i64 (-1)) (.slice A4 8 c4) (.slice B4 64 d4)
      exact bodyPost_ret (kF.res4 (P := Tryz.prog) rfl _ rfl (by kernel_rfl) (by kernel_rfl)) rfl ⟨_, _, _, rfl, hvF, hsl.mono (by omega), (by rw [Hlq.out]; exact ⟨AU, cU, rfl, Rd.own hU2⟩), (fun A n c e b off h0 ha => by injection e with e1 e2 e3; subst e1; have := hloU b off _ ha; omega), ⟨Az, cz, rfl, hz2⟩, (fun A n c e b off h0 ha => by injection e with e1 e2 e3; subst e1; have := hlz b off _ ha; omega), hBF⟩
end Go.Proofs.YtpkgfkhaiifooaaGreatDoor
