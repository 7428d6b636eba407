/- Page tables: the reference's Frames, Pages and Counts. -/
import Derived.Test.YtnmknbnidfmmoaaDoorTR3
namespace Go.Proofs.YtnmknbnidfmmoaaDoor
open Go Go.Proofs Go.RowKit
set_option linter.unusedSimpArgs false
set_option linter.unusedVariables false
set_option maxRecDepth 100000

set_option maxHeartbeats 1000000 in
theorem rFrames_bad (r : Int) (ls : List Int) (es : List Nat) (v : Value) (w : World) (hv : TbV w v (r, ls, es)) (hs : wsmall es) (hE : tabE r ls es ≠ 0) :
    Calls Tryd.prog 22 #[v] w fun e w' => IsRes w w' [] (tabE r ls es) e := by
  obtain ⟨A, c, B, d, rfl, hA, hB, hcc⟩ := id hv
  simp only at hA hB hcc
  unfold tabV at hv ⊢
  simp only at hv ⊢
  have kT := (Bk.new (w) #[.int .i64 r, .slice A ls.length c, .slice B es.length d] 25)
  have hB1 := balloc (Below.refl _ w) (.cells #[.int .i64 r, .slice A ls.length c, .slice B es.length d] 25)
  generalize hw_w1 : w.alloc (.cells #[.int .i64 r, .slice A ls.length c, .slice B es.length d] 25) = w1 at *
  have hd : (tabE r ls es != 0) = true := by simpa using hE
  obtain ⟨cT, fT, lT⟩ := kT.facts
  go_enter Tryd.func22, Tryd.ntmps22
  go_wp2_with fail
  refine (rTCheck_any r ls es _ _ (hv.to hB1) hs).mono ?_
  rintro e w2 ⟨rfl, hb2⟩
  go_wp2_with fail
  go_ret2
  exact ⟨_, rfl, IsV.nil _, bnext hB1 hb2⟩

set_option maxHeartbeats 4000000 in
theorem rFrames_ok (r : Int) (ls : List Int) (es : List Nat) (v : Value) (w : World) (hv : TbV w v (r, ls, es)) (hs : wsmall es) (hE : tabE r ls es = 0) :
    Calls Tryd.prog 22 #[v] w fun e w' => IsRes w w' (frmA r ls) 0 e := by
  obtain ⟨h1, h2, hR, hLs, hDu, hSt, hUn, hMi⟩ := tab_zero hE
  obtain ⟨A, c, B, d, rfl, hA, hB, hcc⟩ := id hv
  simp only at hA hB hcc
  unfold tabV at hv ⊢
  simp only at hv ⊢
  rw [h1, h2] at hv ⊢
  rw [h1] at hA hcc
  rw [h2] at hB
  have kT := (Bk.new (w) #[.int .i64 r, .slice A 8 c, .slice B 64 d] 25)
  have hB1 := balloc (Below.refl _ w) (.cells #[.int .i64 r, .slice A 8 c, .slice B 64 d] 25)
  generalize hw_w1 : w.alloc (.cells #[.int .i64 r, .slice A 8 c, .slice B 64 d] 25) = w1 at *
  obtain ⟨i0, hi, hz0, hz1, hz2⟩ := info_parts infoInt
  obtain ⟨cT, fT, lT⟩ := kT.facts
  go_enter Tryd.func22, Tryd.ntmps22
  go_wp2_with fail
  refine (rTCheck_any r ls es _ _ (hv.to hB1) hs).mono ?_
  rw [hE]
  rintro e w2 ⟨rfl, hb2⟩
  replace kT := kT.to hb2
  replace hB1 := bnext hB1 hb2
  clear cT fT lT
  obtain ⟨cT, fT, lT⟩ := kT.facts
  replace hA := hA.below hB1 (Nat.le_refl _)
  clear hb2 hw_w1 hv hB
  go_wp2_with fail
  clear cT fT lT
  go_loopw [5, 6] (fun v i wr => ∃ k : Nat, k ≤ 8 ∧ i = .int .i64 k ∧ wr.ownsRow w2.heap.size 3 1 v (frmL ls k).length (iw (frmL ls k)) ∧ Below w2.heap.size w2 wr) (fun _ i _ => 8 - (intOf i).toNat)
  case atStart => exact ⟨0, by omega, rfl, World.ownsRow_nil _ _ _ _, Below.refl _ _⟩
  case round =>
    obtain ⟨k, hk, rfl, hown, hBx⟩ := hrel
    obtain ⟨cT, fT, lT⟩ := (kT.to hBx).facts
    have hfl := frmL_len ls k
    by_cases hlt : k < 8
    · obtain ⟨g, off, z, rfl, hg, hz, hc⟩ := (hA.below hBx (Nat.le_refl _)).numb hlt
      have hkI : (k : Int) < 8 := by omega
      have hzz := (hLs k hlt).1
      have HS := Lib.hid (frmL_succ ls k (by omega))
      rw [hz] at HS hzz
      by_cases hz1 : z = -1
      · have hz2' : decide (0 ≤ z) = false := by simp; omega
        have HS2 : Hid (frmL ls (k + 1) = frmL ls k) := Lib.hid (by rw [HS.out, if_pos hz1, List.append_nil])
        clear hz1 hz HS
        go_wp2_with fail
        go_roundw
        case rel => exact ⟨k + 1, by omega, by go_num, by rw [HS2.out]; exact hown, hBx⟩
        case measure => simp [intOf]; omega
      · have hz2' : decide (0 ≤ z) = true := by simp; omega
        have HS2 : Hid (frmL ls (k + 1) = frmL ls k ++ [z]) := Lib.hid (by rw [HS.out, if_neg hz1])
        clear hz1 hz HS
        go_wp2_with (first
          | (at_builtin; refine wpList_append_own _ rfl _ _ 22 rfl w2.heap.size 3 i0 (.int .i64 0) 1 8 Tryd.underlying22 hi hz0 hz1 hz2 rfl (by decide) _ _ _ rfl (hown.alloc _) ⟨wr.heap.size, 0, none⟩ 1 1 [.int .i64 z] rfl rfl (cell_one_new _ _ _) (by simp [Value.oneCell']) (by simp only [maxLen]; omega) (by omega) (by have := hBx.size; simp; omega) ?_; intro v' w9 hown' hgrow _))
        have hown2 : w9.ownsRow w2.heap.size 3 1 v' (frmL ls (k + 1)).length (iw (frmL ls (k + 1))) := by
          rw [HS2.out]; simpa [iw] using hown'
        have hBx2 : Below w2.heap.size w2 w9 := (hBx.alloc hBx.size _).grown hgrow (by have := hBx.size; simp; omega) (fun q e => (hown.lt q e).1)
        clear hown' hgrow hown hBx
        go_wp2_with fail
        go_roundw
        case rel => exact ⟨k + 1, by omega, by go_num, hown2, hBx2⟩
        case measure => simp [intOf]; omega
    · obtain rfl : k = 8 := by omega
      by_cases hr1 : r = -1
      · have Hv : Hid (frmA r ls = frmL ls 8) := Lib.hid (by unfold frmA; rw [if_pos hr1, List.append_nil])
        have hr2 : decide (0 ≤ r) = false := by simp; omega
        clear hr1
        go_wp2_with fail
        go_ret2
        exact ⟨_, rfl, by rw [Hv.out]; exact IsV.own hown, bnext hB1 hBx⟩
      · have Hv : Hid (frmA r ls = frmL ls 8 ++ [r]) := Lib.hid (by unfold frmA; rw [if_neg hr1])
        have hr2 : decide (0 ≤ r) = true := by simp; omega
        clear hr1
        go_wp2_with (first
          | (at_builtin; refine wpList_append_own _ rfl _ _ 22 rfl w2.heap.size 3 i0 (.int .i64 0) 1 8 Tryd.underlying22 hi hz0 hz1 hz2 rfl (by decide) _ _ _ rfl (hown.alloc _) ⟨wr.heap.size, 0, none⟩ 1 1 [.int .i64 r] rfl rfl (cell_one_new _ _ _) (by simp [Value.oneCell']) (by simp only [maxLen]; omega) (by omega) (by have := hBx.size; simp; omega) ?_; intro v' w9 hown' hgrow _))
        have hown2 : w9.ownsRow w2.heap.size 3 1 v' (frmL ls 8 ++ [r]).length (iw (frmL ls 8 ++ [r])) := by
          simpa [iw] using hown'
        have hBx2 : Below w2.heap.size w2 w9 := (hBx.alloc hBx.size _).grown hgrow (by have := hBx.size; simp; omega) (fun q e => (hown.lt q e).1)
        clear hown' hgrow hown hBx
        go_wp2_with fail
        go_ret2
        exact ⟨_, rfl, by rw [Hv.out]; exact IsV.own hown2, bnext hB1 hBx2⟩
theorem rFrames_any (r : Int) (ls : List Int) (es : List Nat) (v : Value) (w : World) (hv : TbV w v (r, ls, es)) (hs : wsmall es) :
    Calls Tryd.prog 22 #[v] w fun e w' => IsRes w w' (frmR r ls es).1 (frmR r ls es).2 e := by
  unfold frmR
  by_cases h : tabE r ls es = 0
  · rw [if_neg (by simp [h])]
    exact rFrames_ok r ls es v w hv hs h
  · rw [if_pos h]
    exact rFrames_bad r ls es v w hv hs h

set_option maxHeartbeats 1000000 in
theorem rPages_bad1 (r : Int) (ls : List Int) (es : List Nat) (v : Value) (kd : Int) (w : World) (hv : TbV w v (r, ls, es)) (hs : wsmall es) (hE : tabE r ls es ≠ 0) :
    Calls Tryd.prog 24 #[v, .int .i64 kd] w fun e w' => IsRes w w' [] (tabE r ls es) e := by
  obtain ⟨A, c, B, d, rfl, hA, hB, hcc⟩ := id hv
  simp only at hA hB hcc
  unfold tabV at hv ⊢
  simp only at hv ⊢
  have kT := (Bk.new (w) #[.int .i64 r, .slice A ls.length c, .slice B es.length d] 25)
  have hB1 := balloc (Below.refl _ w) (.cells #[.int .i64 r, .slice A ls.length c, .slice B es.length d] 25)
  generalize hw_w1 : w.alloc (.cells #[.int .i64 r, .slice A ls.length c, .slice B es.length d] 25) = w1 at *
  have hd : (tabE r ls es != 0) = true := by simpa using hE
  obtain ⟨cT, fT, lT⟩ := kT.facts
  go_enter Tryd.func24, Tryd.ntmps24
  go_wp2_with fail
  refine (rTCheck_any r ls es _ _ (hv.to hB1) hs).mono ?_
  rintro e w2 ⟨rfl, hb2⟩
  go_wp2_with fail
  go_ret2
  exact ⟨_, rfl, IsV.nil _, bnext hB1 hb2⟩

set_option maxHeartbeats 1000000 in
theorem rPages_bad2 (r : Int) (ls : List Int) (es : List Nat) (v : Value) (kd : Int) (w : World) (hv : TbV w v (r, ls, es)) (hs : wsmall es) (hE : tabE r ls es = 0) (hk : kd < 0 ∨ 2 < kd) :
    Calls Tryd.prog 24 #[v, .int .i64 kd] w fun e w' => IsRes w w' [] 2 e := by
  obtain ⟨h1, h2, hR, hLs, hDu, hSt, hUn, hMi⟩ := tab_zero hE
  obtain ⟨A, c, B, d, rfl, hA, hB, hcc⟩ := id hv
  simp only at hA hB hcc
  unfold tabV at hv ⊢
  simp only at hv ⊢
  rw [h1, h2] at hv ⊢
  rw [h1] at hA hcc
  rw [h2] at hB
  have kT := (Bk.new (w) #[.int .i64 r, .slice A 8 c, .slice B 64 d] 25)
  have hB1 := balloc (Below.refl _ w) (.cells #[.int .i64 r, .slice A 8 c, .slice B 64 d] 25)
  generalize hw_w1 : w.alloc (.cells #[.int .i64 r, .slice A 8 c, .slice B 64 d] 25) = w1 at *
  obtain ⟨cT, fT, lT⟩ := kT.facts
  rcases hk with hk | hk
  all_goals
    go_enter Tryd.func24, Tryd.ntmps24
    go_wp2_with fail
    refine (rTCheck_any r ls es _ _ (hv.to hB1) hs).mono ?_
    rw [hE]
    rintro e w2 ⟨rfl, hb2⟩
    replace kT := kT.to hb2
    replace hB1 := bnext hB1 hb2
    clear cT fT lT
    obtain ⟨cT, fT, lT⟩ := kT.facts
    go_wp2_with fail
    go_ret2
    exact ⟨_, rfl, IsV.nil _, hB1⟩

set_option maxHeartbeats 4000000 in
theorem rPages_ok (r : Int) (ls : List Int) (es : List Nat) (v : Value) (kd : Int) (w : World) (hv : TbV w v (r, ls, es)) (hs : wsmall es) (hE : tabE r ls es = 0) (hk0 : 0 ≤ kd) (hk2 : kd ≤ 2) :
    Calls Tryd.prog 24 #[v, .int .i64 kd] w fun e w' => IsRes w w' (kinL es kd 64) 0 e := by
  obtain ⟨h1, h2, hR, hLs, hDu, hSt, hUn, hMi⟩ := tab_zero hE
  obtain ⟨A, c, B, d, rfl, hA, hB, hcc⟩ := id hv
  simp only at hA hB hcc
  unfold tabV at hv ⊢
  simp only at hv ⊢
  rw [h1, h2] at hv ⊢
  rw [h1] at hA hcc
  rw [h2] at hB
  have kT := (Bk.new (w) #[.int .i64 r, .slice A 8 c, .slice B 64 d] 25)
  have hB1 := balloc (Below.refl _ w) (.cells #[.int .i64 r, .slice A 8 c, .slice B 64 d] 25)
  generalize hw_w1 : w.alloc (.cells #[.int .i64 r, .slice A 8 c, .slice B 64 d] 25) = w1 at *
  obtain ⟨i0, hi, hz0, hz1, hz2⟩ := info_parts infoInt
  obtain ⟨cT, fT, lT⟩ := kT.facts
  go_enter Tryd.func24, Tryd.ntmps24
  go_wp2_with fail
  refine (rTCheck_any r ls es _ _ (hv.to hB1) hs).mono ?_
  rw [hE]
  rintro e w2 ⟨rfl, hb2⟩
  replace kT := kT.to hb2
  replace hB1 := bnext hB1 hb2
  clear cT fT lT
  obtain ⟨cT, fT, lT⟩ := kT.facts
  replace hB := hB.below hB1 (Nat.le_refl _)
  clear hb2 hw_w1 hv hA
  go_wp2_with fail
  clear cT fT lT
  go_loopw [7, 8] (fun v i wr => ∃ k : Nat, k ≤ 64 ∧ i = .int .i64 k ∧ wr.ownsRow w2.heap.size 3 1 v (kinL es kd k).length (iw (kinL es kd k)) ∧ Below w2.heap.size w2 wr) (fun _ i _ => 64 - (intOf i).toNat)
  case atStart => exact ⟨0, by omega, rfl, World.ownsRow_nil _ _ _ _, Below.refl _ _⟩
  case round =>
    obtain ⟨k, hk, rfl, hown, hBx⟩ := hrel
    obtain ⟨cT, fT, lT⟩ := (kT.to hBx).facts
    have hkl := kinL_len es kd k
    by_cases hlt : k < 64
    · obtain ⟨g, off, x, rfl, hg, hx, hxs, hc⟩ := (hB.below hBx (Nat.le_refl _)).word hs hlt
      have hkI : (k : Int) < 64 := by omega
      have HS := Lib.hid (kinL_succ es kd k)
      rcases hu : unpR x with ⟨⟨ek, en, ea, eb, ec⟩, er⟩
      have hkx : unpK (es.getD k 0) = ek := by rw [hx]; unfold unpK; rw [hu]
      rw [hkx] at HS
      have HU := Lib.hid (rUnpack_any x)
      rw [hu] at HU
      clear hu hx hkx
      by_cases hek : ek = kd
      · have d1 : (ek == kd) = true := by simpa using hek
        have HS2 : Hid (kinL es kd (k + 1) = kinL es kd k ++ [(k : Int)]) := Lib.hid (by rw [HS.out, if_pos hek])
        clear HS hek
        go_wp2_with (first
          | (go_at_call 50; refine (HU.out _ hxs).mono ?_; rintro e w3 ⟨rfl, hb3⟩; simp only; obtain ⟨w8, hw8⟩ : ∃ w8, w8 = w3.alloc (.cells #[.int .i64 ek, .int .i64 en, .bool ea, .bool eb, .bool ec] 35) := ⟨_, rfl⟩; have hown8 : w8.ownsRow _ _ _ _ _ _ := (by rw [hw8]; exact (own_below hown hb3).alloc _); have hBx8 : Below w2.heap.size w2 w8 := (by rw [hw8]; exact balloc (bnext hBx hb3) _); have k8 := Bk.new w3 #[.int .i64 ek, .int .i64 en, .bool ea, .bool eb, .bool ec] 35; rw [← hw8] at k8; obtain ⟨c8, f8, l8⟩ := k8.facts; replace hw8 := hw8.symm)
          | (at_builtin; refine wpList_append_own _ rfl _ _ 22 rfl w2.heap.size 3 i0 (.int .i64 0) 1 8 Tryd.underlying22 hi hz0 hz1 hz2 rfl (by decide) _ _ _ rfl (hown8.alloc _) ⟨w8.heap.size, 0, none⟩ 1 1 [.int .i64 k] rfl rfl (cell_one_new _ _ _) (by simp [Value.oneCell']) (by simp only [maxLen]; omega) (by omega) (by have := hBx8.size; simp; omega) ?_; intro v' w9 hown' hgrow _))
        have hown2 : w9.ownsRow w2.heap.size 3 1 v' (kinL es kd (k + 1)).length (iw (kinL es kd (k + 1))) := by
          rw [HS2.out]; simpa [iw] using hown'
        have hBx2 : Below w2.heap.size w2 w9 := (hBx8.alloc hBx8.size _).grown hgrow (by have := hBx8.size; simp; omega) (fun q e => (hown8.lt q e).1)
        clear hown' hgrow hown8 hown hBx8 hBx
        go_wp2_with fail
        go_roundw
        case rel => first | exact ⟨k + 1, by omega, by go_num, hown2, hBx2⟩ | ((repeat apply Exists.intro); exact ⟨⟨k + 1, by omega, by go_num, hown2, hBx2⟩, rfl⟩)
        case measure => simp [intOf]; omega
      · have d1 : (ek == kd) = false := by simpa using hek
        have HS2 : Hid (kinL es kd (k + 1) = kinL es kd k) := Lib.hid (by rw [HS.out, if_neg hek, List.append_nil])
        clear HS hek
        go_wp2_with (first | (go_at_call 50; refine (HU.out _ hxs).mono ?_; rintro e w3 ⟨rfl, hb3⟩; simp only))
        go_roundw
        case rel => first | exact ⟨k + 1, by omega, by go_num, by rw [HS2.out]; exact (own_below hown hb3).alloc _, balloc (bnext hBx hb3) _⟩ | ((repeat apply Exists.intro); exact ⟨⟨k + 1, by omega, by go_num, by rw [HS2.out]; exact (own_below hown hb3).alloc _, balloc (bnext hBx hb3) _⟩, rfl⟩)
        case measure => simp [intOf]; omega
    · obtain rfl : k = 64 := by omega
      go_wp2_with fail
      go_ret2
      exact ⟨_, rfl, IsV.own hown, bnext hB1 hBx⟩
theorem rPages_any (r : Int) (ls : List Int) (es : List Nat) (v : Value) (kd : Int) (w : World) (hv : TbV w v (r, ls, es)) (hs : wsmall es) :
    Calls Tryd.prog 24 #[v, .int .i64 kd] w fun e w' => IsRes w w' (pagR r ls es kd).1 (pagR r ls es kd).2 e := by
  unfold pagR
  by_cases h : tabE r ls es = 0
  · rw [if_neg (by simp [h])]
    by_cases hk : kd < 0 ∨ 2 < kd
    · rw [if_pos hk]
      exact rPages_bad2 r ls es v kd w hv hs h hk
    · rw [if_neg hk]
      exact rPages_ok r ls es v kd w hv hs h (by omega) (by omega)
  · rw [if_pos h]
    exact rPages_bad1 r ls es v kd w hv hs h

set_option maxHeartbeats 1000000 in
theorem rCounts_any (r : Int) (ls : List Int) (es : List Nat) (v : Value) (w : World) (hv : TbV w v (r, ls, es)) (hs : wsmall es) :
    Calls Tryd.prog 27 #[v] w fun e w' => e = .returned (.tuple #[.int .i64 (cntR r ls es).1, .int .i64 (cntR r ls es).2.1, .int .i64 (cntR r ls es).2.2]) ∧ Below w.heap.size w w' := by
  obtain ⟨A, c, B, d, rfl, hA, hB, hcc⟩ := id hv
  simp only at hA hB hcc
  unfold tabV at hv ⊢
  simp only at hv ⊢
  have kT := (Bk.new (w) #[.int .i64 r, .slice A ls.length c, .slice B es.length d] 25)
  have hB1 := balloc (Below.refl _ w) (.cells #[.int .i64 r, .slice A ls.length c, .slice B es.length d] 25)
  generalize hw_w1 : w.alloc (.cells #[.int .i64 r, .slice A ls.length c, .slice B es.length d] 25) = w1 at *
  obtain ⟨cT, fT, lT⟩ := kT.facts
  have HP1 := Lib.hid (fun W h => rPages_any r ls es (.agg #[.int .i64 r, .slice A ls.length c, .slice B es.length d]) 1 W h hs)
  have HP2 := Lib.hid (fun W h => rPages_any r ls es (.agg #[.int .i64 r, .slice A ls.length c, .slice B es.length d]) 2 W h hs)
  by_cases hE : tabE r ls es = 0
  · have e1 : pagR r ls es 1 = (kinL es 1 64, 0) := by unfold pagR; rw [if_neg (by simp [hE]), if_neg (by omega)]
    have e2 : pagR r ls es 2 = (kinL es 2 64, 0) := by unfold pagR; rw [if_neg (by simp [hE]), if_neg (by omega)]
    have Hv : Hid (cntR r ls es = (((kinL es 1 64).length : Int), ((kinL es 2 64).length : Int), 0)) := Lib.hid (by unfold cntR; rw [if_neg (by simp [hE])])
    rw [e1] at HP1
    rw [e2] at HP2
    clear e1 e2
    generalize kinL es 1 64 = z1 at *
    generalize kinL es 2 64 = z2 at *
    go_enter Tryd.func27, Tryd.ntmps27
    go_wp2_with fail
    refine (HP1.out _ (hv.to hB1)).mono ?_
    rintro e w2 ⟨v2, rfl, ⟨A2, c2, rfl, _⟩, hb2⟩
    replace kT := kT.to hb2
    replace hB1 := bnext hB1 hb2
    clear cT fT lT
    obtain ⟨cT, fT, lT⟩ := kT.facts
    simp only
    go_wp2_with fail
    refine (HP2.out _ (hv.to hB1)).mono ?_
    rintro e w3 ⟨v3, rfl, ⟨A3, c3, rfl, _⟩, hb3⟩
    simp only
    go_wp2_with fail
    go_ret3
    exact ⟨by rw [Hv.out]; rfl, bnext hB1 hb3⟩
  · have e1 : pagR r ls es 1 = ([], tabE r ls es) := by unfold pagR; rw [if_pos hE]
    have Hv : Hid (cntR r ls es = (0, 0, tabE r ls es)) := Lib.hid (by unfold cntR; rw [if_pos hE])
    rw [e1] at HP1
    have hd : (tabE r ls es != 0) = true := by simpa using hE
    go_enter Tryd.func27, Tryd.ntmps27
    go_wp2_with fail
    refine (HP1.out _ (hv.to hB1)).mono ?_
    rintro e w2 ⟨v2, rfl, ⟨A2, c2, rfl, _⟩, hb2⟩
    simp only
    go_wp2_with fail
    go_ret3
    exact ⟨by rw [Hv.out]; rfl, bnext hB1 hb2⟩
end Go.Proofs.YtnmknbnidfmmoaaDoor
