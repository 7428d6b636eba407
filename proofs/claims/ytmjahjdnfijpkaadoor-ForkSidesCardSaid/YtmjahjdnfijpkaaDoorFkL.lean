/- The reference of chapter 28: used, Needs, Shared. -/
import Derived.Test.YtmjahjdnfijpkaaDoorFkD
import Derived.Test.YtmjahjdnfijpkaaDoorFkE
import Derived.Maps.AppendAt
namespace Go.Proofs.YtmjahjdnfijpkaaDoor
open Go Go.Proofs Go.RowKit
set_option linter.unusedSimpArgs false
set_option linter.unusedVariables false
set_option maxRecDepth 100000

theorem frm_mem {ls : List Int} (h8 : ls.length = 8) {k : Nat} (hk : k < 8) {f : Int} (h : ls.getD k 0 = f) (h0 : f ≠ -1) : f ∈ frmL ls 8 := by
  unfold frmL
  refine List.mem_filter.2 ⟨?_, by simpa using h0⟩
  rw [List.take_of_length_le (by omega), ← h, List.getD_eq_getElem?_getD, List.getElem?_eq_getElem (show k < ls.length by omega)]
  exact List.getElem_mem _
theorem frm_no {ls : List Int} (h8 : ls.length = 8) {f : Int} (h : ∀ k, k < 8 → ls.getD k 0 ≠ f) : f ∉ frmL ls 8 := fun hm => by
  unfold frmL at hm
  have h1 := List.mem_of_mem_take (List.mem_filter.1 hm).1
  obtain ⟨j, hj, e⟩ := List.mem_iff_getElem.1 h1
  have := h j (by omega)
  rw [List.getD_eq_getElem?_getD, List.getElem?_eq_getElem hj] at this
  exact this e
theorem pre_yes {es : List Nat} {f : Int} {p : Nat} (hp : p < 64) (h1 : (entP es p).1 = 1) (h2 : (entP es p).2.1 = f) : preB es f 64 = true := by
  unfold preB
  rw [List.any_eq_true]
  exact ⟨p, List.mem_range.2 hp, by rw [decide_eq_true h1, decide_eq_true h2]; rfl⟩
def UsdI (ls : List Int) (f : Int) (w2 : World) (i : Value) (wr : World) : Prop := ∃ k : Nat, k ≤ 8 ∧ i = .int .i64 k ∧ (∀ j, j < k → ls.getD j 0 ≠ f) ∧ wr = w2
def UsdJ (es : List Nat) (f : Int) (w2 : World) (i : Value) (wr : World) : Prop := ∃ k : Nat, k ≤ 64 ∧ i = .int .i64 k ∧ preB es f k = false ∧ Below w2.heap.size w2 wr

set_option maxHeartbeats 4000000 in
theorem rused28_any (rs : List (Int × Int)) (r : Int) (ls : List Int) (es : List Nat) (v : Value) (f : Int) (w : World) (hv : SpV w v (rs, r, ls, es)) (hs : wsmall es) (hT : tabE r ls es = 0) (hf : f ≠ -1) :
    Calls Tryd.prog 53 #[v, .int .i64 f] w fun e w' => e = .returned (.bool (usedB (rs, r, ls, es) f)) ∧ Below w.heap.size w w' := by
  obtain ⟨A, c, L, cl, B, d, hve, hA, hLs, hB, hcc⟩ := id hv
  subst hve
  unfold spcV at hv ⊢
  simp only at hv ⊢ hA hLs hB hcc
  have h8 := (tab_zero hT).1
  have HU : Hid (usedB (rs, r, ls, es) f = (decide (f = r) || decide (f ∈ frmL ls 8) || preB es f 64)) := Lib.hid rfl
  have kS := Bk.new w #[.slice A rs.length c, .int .i64 r, .slice L ls.length cl, .slice B es.length d] 28
  have hB1 := balloc (Below.refl _ w) (.cells #[.slice A rs.length c, .int .i64 r, .slice L ls.length cl, .slice B es.length d] 28)
  have hv1 := hv.to hB1
  have hLs1 := hLs.below hB1 (Nat.le_refl _)
  generalize usedB (rs, r, ls, es) f = U at *
  rw [h8] at kS hLs1 hB1 hv1 ⊢
  have HM := Lib.hid (fun k hk h => frm_mem h8 (k := k) hk (f := f) h hf)
  have HNo := Lib.hid (fun h => frm_no h8 (f := f) h)
  have HT := Lib.hid hT
  have HV := Lib.hid hv1
  clear h8 hT hv hv1 hLs
  generalize hw1 : w.alloc (.cells #[.slice A rs.length c, .int .i64 r, .slice L 8 cl, .slice B es.length d] 28) = w1 at *
  obtain ⟨cS, fS, lS⟩ := kS.facts
  by_cases hr : r = f
  · have hd : (r == f) = true := by simpa using hr
    have HU2 : Hid (U = true) := Lib.hid (by rw [HU.out, decide_eq_true hr.symm]; rfl)
    clear HU hr
    go_enter Tryd.func53, Tryd.ntmps53
    go_wp2_with fail
    go_ret
    refine ⟨?_, ?_⟩
    · rw [HU2.out]; rfl
    · exact hB1
  have hd : (r == f) = false := by simpa using hr
  have HU1 : Hid (U = (decide (f ∈ frmL ls 8) || preB es f 64)) := Lib.hid (by rw [HU.out, decide_eq_false (fun h => hr h.symm), Bool.false_or])
  clear HU
  go_enter Tryd.func53, Tryd.ntmps53
  go_wp2_with fail
  clear hw1
  go_loopw [5] (fun i wr => UsdI ls f w1 i wr) (fun i _ => 8 - (intOf i).toNat)
  case atStart => exact ⟨0, by omega, rfl, fun j hj => absurd hj (by omega), rfl⟩
  case round =>
    obtain ⟨k, hk, rfl, hno, rfl⟩ := hrel
    by_cases hlt : k < 8
    · obtain ⟨g, off, z, rfl, hg, hz, hc⟩ := hLs1.numb hlt
      have hkI : (k : Int) < 8 := by omega
      by_cases hzf : z = f
      · have hd2 : (z == f) = true := by simpa using hzf
        have HU2 : Hid (U = true) := Lib.hid (by rw [HU1.out, decide_eq_true (HM.out k hlt (hz.trans hzf))]; rfl)
        clear hno hz
        go_wp2_with fail
        go_ret
        exact ⟨by rw [HU2.out]; rfl, hB1⟩
      · have hd2 : (z == f) = false := by simpa using hzf
        have HN2 : Hid (∀ j, j < k + 1 → ls.getD j 0 ≠ f) := Lib.hid (fun j hj => by
          rcases Nat.lt_or_ge j k with h | h
          · exact hno j h
          · obtain rfl : j = k := by omega
            rw [hz]
            exact hzf)
        clear hno hz
        go_wp2_with fail
        go_roundw
        case rel => exact ⟨k + 1, by omega, by go_num, HN2.out, rfl⟩
        case measure => simp [intOf]; omega
    · obtain rfl : k = 8 := by omega
      have HU2 : Hid (U = preB es f 64) := Lib.hid (by rw [HU1.out, decide_eq_false (HNo.out hno), Bool.false_or])
      clear hno HU1 cS fS lS
      go_wp2_with fail
      go_loopw [6] (fun i wx => UsdJ es f wr i wx) (fun i _ => 64 - (intOf i).toNat)
      case atStart => exact ⟨0, by omega, rfl, rfl, Below.refl _ _⟩
      case round =>
        obtain ⟨p, hp, rfl, hpn, hBx⟩ := hrel
        have hBw := bnext hB1 hBx
        by_cases hlp : p < 64
        · have hpI : (p : Int) < 64 := by omega
          rcases hee : entP es p with ⟨k1, n1, a1, b1, c1⟩
          have HE := Lib.hid (rEnt28_any rs r ls es _ p _ (HV.out.to hBx) hs HT.out hlp hee)
          have HPy := Lib.hid (fun h1 h2 => pre_yes (es := es) (f := f) hlp h1 h2)
          have hps := preB_succ es f p
          rw [hee] at hps HPy
          rw [hpn, Bool.false_or] at hps
          simp only at hps HPy
          have HPS := Lib.hid hps
          obtain ⟨cS, fS, lS⟩ := (kS.to hBx).facts
          clear hee hps hpn
          by_cases hk1 : k1 = 1
          case neg =>
            have hd1 : (k1 == 1) = false := by simpa using hk1
            have HP2 : Hid (preB es f (p + 1) = false) := Lib.hid (by rw [HPS.out, decide_eq_false hk1, Bool.false_and])
            clear hk1 HPy HPS
            go_wp2_with fail
            refine HE.out.mono ?_
            rintro e w3 ⟨rfl, hb3⟩
            clear cS fS lS
            have kE := Bk.new w3 #[.int .i64 k1, .int .i64 n1, .bool a1, .bool b1, .bool c1] 52
            have hcE := balloc (bnext hBx hb3) (.cells #[.int .i64 k1, .int .i64 n1, .bool a1, .bool b1, .bool c1] 52)
            go_upto_region 12 with fail
            generalize w3.alloc (.cells #[.int .i64 k1, .int .i64 n1, .bool a1, .bool b1, .bool c1] 52) = w4 at *
            obtain ⟨cE, fE, lE⟩ := kE.facts
            go_wp2_with fail
            go_roundw
            case rel => first | exact ⟨p + 1, by omega, by go_num, HP2.out, hcE⟩ | ((repeat apply Exists.intro); exact ⟨⟨p + 1, by omega, by go_num, HP2.out, hcE⟩, rfl⟩)
            case measure => simp [intOf]; omega
          subst hk1
          by_cases hn1 : n1 = f
          case neg =>
            have hd1 : (n1 == f) = false := by simpa using hn1
            have HP2 : Hid (preB es f (p + 1) = false) := Lib.hid (by rw [HPS.out, decide_eq_false hn1, Bool.and_false])
            clear hn1 HPy HPS
            go_wp2_with fail
            refine HE.out.mono ?_
            rintro e w3 ⟨rfl, hb3⟩
            clear cS fS lS
            have kE := Bk.new w3 #[.int .i64 1, .int .i64 n1, .bool a1, .bool b1, .bool c1] 52
            have hcE := balloc (bnext hBx hb3) (.cells #[.int .i64 1, .int .i64 n1, .bool a1, .bool b1, .bool c1] 52)
            go_upto_region 12 with fail
            generalize w3.alloc (.cells #[.int .i64 1, .int .i64 n1, .bool a1, .bool b1, .bool c1] 52) = w4 at *
            obtain ⟨cE, fE, lE⟩ := kE.facts
            go_wp2_with fail
            go_roundw
            case rel => first | exact ⟨p + 1, by omega, by go_num, HP2.out, hcE⟩ | ((repeat apply Exists.intro); exact ⟨⟨p + 1, by omega, by go_num, HP2.out, hcE⟩, rfl⟩)
            case measure => simp [intOf]; omega
          have hd1 : (n1 == f) = true := by simpa using hn1
          have HU3 : Hid (U = true) := Lib.hid (by rw [HU2.out, HPy.out rfl hn1])
          clear hn1 HPy HPS
          go_wp2_with fail
          refine HE.out.mono ?_
          rintro e w3 ⟨rfl, hb3⟩
          clear cS fS lS
          have kE := Bk.new w3 #[.int .i64 1, .int .i64 n1, .bool a1, .bool b1, .bool c1] 52
          have hcE := balloc (bnext hBw hb3) (.cells #[.int .i64 1, .int .i64 n1, .bool a1, .bool b1, .bool c1] 52)
          go_upto_region 12 with fail
          generalize w3.alloc (.cells #[.int .i64 1, .int .i64 n1, .bool a1, .bool b1, .bool c1] 52) = w4 at *
          obtain ⟨cE, fE, lE⟩ := kE.facts
          go_wp2_with fail
          go_ret
          exact ⟨by rw [HU3.out]; rfl, hcE⟩
        · obtain rfl : p = 64 := by omega
          have HU3 : Hid (U = false) := Lib.hid (HU2.out.trans hpn)
          clear hpn
          go_wp2_with fail
          go_ret
          exact ⟨by rw [HU3.out]; rfl, hBw⟩

set_option maxHeartbeats 1000000 in
theorem rNeeds28_any (rs : List (Int × Int)) (r : Int) (ls : List Int) (es : List Nat) (v : Value) (w : World) (hv : SpV w v (rs, r, ls, es)) (hn : rs.length ≤ 1000000) (hs : wsmall es) :
    Calls Tryd.prog 15 #[v] w fun e w' => e = .returned (.tuple #[.int .i64 (neeR (rs, r, ls, es)).1, .int .i64 (neeR (rs, r, ls, es)).2]) ∧ Below w.heap.size w w' := by
  obtain ⟨A, c, L, cl, B, d, hve, hA, hLs, hB, hcc⟩ := id hv
  subst hve
  unfold spcV at hv ⊢
  simp only at hv ⊢ hA hLs hB hcc
  have kS := Bk.new w #[.slice A rs.length c, .int .i64 r, .slice L ls.length cl, .slice B es.length d] 28
  have hB1 := balloc (Below.refl _ w) (.cells #[.slice A rs.length c, .int .i64 r, .slice L ls.length cl, .slice B es.length d] 28)
  have HC := Lib.hid (rChecked28_any rs r ls es _ _ (hv.to hB1) hn hs)
  obtain ⟨cS, fS, lS⟩ := kS.facts
  by_cases hE : rooE (rs, r, ls, es) = 0
  case neg =>
    have hR : neeR (rs, r, ls, es) = (0, rooE (rs, r, ls, es)) := by unfold neeR; rw [if_pos hE]
    rw [hR]
    have hd : (rooE (rs, r, ls, es) != 0) = true := by simpa using hE
    generalize rooE (rs, r, ls, es) = z at *
    clear hR hE
    go_enter Tryd.func15, Tryd.ntmps15
    go_wp2_with (go_at_call 43; refine HC.out.mono ?_; rintro e w2 ⟨rfl, hb2⟩)
    go_ret2
    exact ⟨rfl, bnext hB1 hb2⟩
  have hR : neeR (rs, r, ls, es) = ((neeN ls : Int), 0) := by unfold neeR; rw [if_neg (by simpa using hE)]
  rw [hR]
  have hT := (spc_zero (roo_zero hE).1).2.1
  simp only at hT
  have HN := Lib.hid (fun W h => rneeds28_any rs r ls es (.agg #[.slice A rs.length c, .int .i64 r, .slice L ls.length cl, .slice B es.length d]) W h hT)
  rw [hE] at HC
  generalize neeN ls = N at *
  clear hR hE hT
  go_enter Tryd.func15, Tryd.ntmps15
  go_wp2_with fail
  refine HC.out.mono ?_
  rintro e w2 ⟨rfl, hb2⟩
  clear cS fS lS
  replace kS := kS.to hb2
  replace hB1 := bnext hB1 hb2
  obtain ⟨cS, fS, lS⟩ := kS.facts
  go_wp2_with fail
  refine (HN.out _ (hv.to hB1)).mono ?_
  rintro e w3 ⟨rfl, hb3⟩
  clear cS fS lS
  go_wp2_with fail
  go_ret2
  exact ⟨rfl, bnext hB1 hb3⟩

set_option maxHeartbeats 4000000 in
theorem rShared28_any (rs : List (Int × Int)) (r : Int) (ls : List Int) (es : List Nat) (v : Value) (w : World) (hv : SpV w v (rs, r, ls, es)) (hn : rs.length ≤ 1000000) (hs : wsmall es) :
    Calls Tryd.prog 20 #[v] w fun e w' => Is2 w w' (shaR (rs, r, ls, es)).1 (shaR (rs, r, ls, es)).2.1 (shaR (rs, r, ls, es)).2.2 e := by
  obtain ⟨A, c, L, cl, B, d, hve, hA, hLs, hB, hcc⟩ := id hv
  subst hve
  unfold spcV at hv ⊢
  simp only at hv ⊢ hA hLs hB hcc
  have kS := Bk.new w #[.slice A rs.length c, .int .i64 r, .slice L ls.length cl, .slice B es.length d] 28
  have hB1 := balloc (Below.refl _ w) (.cells #[.slice A rs.length c, .int .i64 r, .slice L ls.length cl, .slice B es.length d] 28)
  have HC := Lib.hid (rSpCheck_any rs r ls es _ _ (hv.to hB1) hn hs)
  obtain ⟨cS, fS, lS⟩ := kS.facts
  by_cases hE : spcE (rs, r, ls, es) = 0
  case neg =>
    have hR : shaR (rs, r, ls, es) = ([], [], spcE (rs, r, ls, es)) := by unfold shaR; rw [if_pos hE]
    rw [hR]
    have hd : (spcE (rs, r, ls, es) != 0) = true := by simpa using hE
    generalize spcE (rs, r, ls, es) = z at *
    clear hR hE
    go_enter Tryd.func20, Tryd.ntmps20
    go_wp2_with (go_at_call 28; refine HC.out.mono ?_; rintro e w2 ⟨rfl, hb2⟩)
    go_ret3
    exact ⟨_, _, rfl, IsV.nil _, IsV.nil _, VLoc.nil _, bnext hB1 hb2⟩
  have hR : shaR (rs, r, ls, es) = (numL es 1 64, numL es 2 64, 0) := by unfold shaR; rw [if_neg (by simpa using hE)]
  rw [hR]
  have hT := (spc_zero hE).2.1
  simp only at hT
  rw [hE] at HC
  have HT := Lib.hid hT
  clear hR hE hT
  obtain ⟨i0, hi, hz0, hz1, hz2⟩ := info_parts infoInt
  go_enter Tryd.func20, Tryd.ntmps20
  go_wp2_with fail
  refine HC.out.mono ?_
  rintro e w3 ⟨rfl, hb2⟩
  clear cS fS lS
  replace kS := kS.to hb2
  replace hB1 := bnext hB1 hb2
  replace hv := hv.to hB1
  clear hb2
  go_wp2_with fail
  go_loopw [6, 7, 8] (fun v u i wr => ShaI es w3 v u i wr) (fun _ _ i _ => 64 - (intOf i).toNat)
  case atStart => exact ⟨0, by omega, rfl, TwoI.nil _ _, Below.refl _ _⟩
  case round =>
    obtain ⟨k, hk, rfl, TW, hBx⟩ := hrel
    by_cases hlt : k < 64
    · have hkI : (k : Int) < 64 := by omega
      rcases hee : entP es k with ⟨a1, b1, c1, d1, f1⟩
      have HE := Lib.hid (rEnt28_any rs r ls es _ k _ (hv.to hBx) hs HT.out hlt hee)
      have y1 := nums_yes (es := es) (kd := 1) (k := k)
      have n1 := nums_no (es := es) (kd := 1) (k := k)
      have y2 := nums_yes (es := es) (kd := 2) (k := k)
      have n2 := nums_no (es := es) (kd := 2) (k := k)
      have l1 := nums_len es 1 k
      have l2 := nums_len es 2 k
      rw [hee] at y1 n1 y2 n2
      simp only at y1 n1 y2 n2
      have hsz := hBx.size
      obtain ⟨cS, fS, lS⟩ := (kS.to hBx).facts
      clear hee
      go_wp2_with fail
      refine HE.out.mono ?_
      rintro e w5 ⟨rfl, hb5⟩
      clear cS fS lS
      have kE := Bk.new w5 #[.int .i64 a1, .int .i64 b1, .bool c1, .bool d1, .bool f1] 52
      have TW2 := (TW.to hb5).alloc (.cells #[.int .i64 a1, .int .i64 b1, .bool c1, .bool d1, .bool f1] 52)
      have hBx2 := balloc (bnext hBx hb5) (.cells #[.int .i64 a1, .int .i64 b1, .bool c1, .bool d1, .bool f1] 52)
      clear TW hBx
      go_upto_region 9 with fail
      generalize w5.alloc (.cells #[.int .i64 a1, .int .i64 b1, .bool c1, .bool d1, .bool f1] 52) = w4 at *
      obtain ⟨cE, fE, lE⟩ := kE.facts
      by_cases ha : a1 = 1
      · have H1 := Lib.hid (y1 ha)
        have H2 := Lib.hid (n2 (by omega))
        subst ha
        clear y1 y2 n1 n2
        go_wp2_with (at_builtin; refine wpList_append_own_at _ rfl _ _ 23 rfl w3.heap.size 3 i0 (.int .i64 0) 1 8 Tryd.underlying23 hi hz0 hz1 hz2 rfl (by decide) _ _ (iw (numL es 1 k)) rfl (TW2.a.alloc _) ⟨w4.heap.size, 0, none⟩ 1 1 [.int .i64 b1] rfl rfl (cell_one_new _ _ _) (by simp [Value.oneCell']) (by simp only [maxLen]; omega) (by omega) (by have := hBx2.size; simp; omega) ?_; intro v6 w6 hown6 hgr6 _ hloc6; have TW6 := (TW2.alloc _).app1 hgr6 hown6 hloc6; have B6 := (hBx2.alloc hBx2.size _).grown hgr6 (by have := hBx2.size; simp; omega) (fun k e => (TW2.a.lt k e).1); clear hown6 hgr6 hloc6)
        go_roundw
        case rel => exact ⟨k + 1, by omega, by go_num, by rw [H1.out, H2.out]; exact TW6, B6⟩
        case measure => simp [intOf]; omega
      by_cases ha2 : a1 = 2
      · have H1 := Lib.hid (n1 ha)
        have H2 := Lib.hid (y2 ha2)
        subst ha2
        clear y1 y2 n1 n2
        go_wp2_with (at_builtin; refine wpList_append_own_at _ rfl _ _ 23 rfl w3.heap.size 3 i0 (.int .i64 0) 1 8 Tryd.underlying23 hi hz0 hz1 hz2 rfl (by decide) _ _ (iw (numL es 2 k)) rfl (TW2.b.alloc _) ⟨w4.heap.size, 0, none⟩ 1 1 [.int .i64 b1] rfl rfl (cell_one_new _ _ _) (by simp [Value.oneCell']) (by simp only [maxLen]; omega) (by omega) (by have := hBx2.size; simp; omega) ?_; intro v6 w6 hown6 hgr6 _ hloc6; have TW6 := (TW2.alloc _).app2 hgr6 hown6 hloc6; have B6 := (hBx2.alloc hBx2.size _).grown hgr6 (by have := hBx2.size; simp; omega) (fun k e => (TW2.b.lt k e).1); clear hown6 hgr6 hloc6)
        go_roundw
        case rel => exact ⟨k + 1, by omega, by go_num, by rw [H1.out, H2.out]; exact TW6, B6⟩
        case measure => simp [intOf]; omega
      · have H1 := Lib.hid (n1 ha)
        have H2 := Lib.hid (n2 ha2)
        have hd1 : (a1 == 1) = false := by simpa using ha
        have hd2 : (a1 == 2) = false := by simpa using ha2
        clear y1 y2 n1 n2 ha ha2
        go_wp2_with fail
        go_roundw
        case rel => exact ⟨k + 1, by omega, by go_num, by rw [H1.out, H2.out]; exact TW2, hBx2⟩
        case measure => simp [intOf]; omega
    · obtain rfl : k = 64 := by omega
      go_wp2_with fail
      go_ret3
      exact ⟨_, _, rfl, IsV.own TW.a, IsV.own TW.b, VLoc.own TW.a hB1.size, hB1.trans (hBx.mono hB1.size)⟩
end Go.Proofs.YtmjahjdnfijpkaaDoor
