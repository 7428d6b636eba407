/- Page tables: the reference's asks, Get and Lacks. -/
import Derived.Test.YtnmknbnidfmmoaaDoorTR2
namespace Go.Proofs.YtnmknbnidfmmoaaDoor
open Go Go.Proofs Go.RowKit
set_option linter.unusedSimpArgs false
set_option linter.unusedVariables false
set_option maxRecDepth 100000

set_option maxHeartbeats 1000000 in
theorem rAsks_any (r : Int) (ls : List Int) (es : List Nat) (v : Value) (page : Int) (w : World) (hv : TbV w v (r, ls, es)) (hs : wsmall es) :
    Calls Tryd.prog 52 #[v, .int .i64 page] w fun e w' => e = .returned (.int .i64 (askE r ls es page)) ∧ Below w.heap.size w w' := by
  obtain ⟨A, c, B, d, rfl, hA, hB, hcc⟩ := id hv
  simp only at hA hB hcc
  unfold tabV at hv ⊢
  simp only at hv ⊢
  have kT := (Bk.new (w) #[.int .i64 r, .slice A ls.length c, .slice B es.length d] 25)
  have hB1 := balloc (Below.refl _ w) (.cells #[.int .i64 r, .slice A ls.length c, .slice B es.length d] 25)
  generalize hw_w1 : w.alloc (.cells #[.int .i64 r, .slice A ls.length c, .slice B es.length d] 25) = w1 at *
  obtain ⟨cT, fT, lT⟩ := kT.facts
  by_cases hE : tabE r ls es = 0
  · by_cases hp : page < 0 ∨ 64 ≤ page
    · have Hv : Hid (askE r ls es page = 2) := Lib.hid (by unfold askE; rw [orE_r _ hE, if_pos hp])
      rcases hp with hp | hp
      all_goals
        go_enter Tryd.func52, Tryd.ntmps52
        go_wp2_with fail
        refine (rTCheck_any r ls es _ _ (hv.to hB1) hs).mono ?_
        rw [hE]
        rintro e w2 ⟨rfl, hb2⟩
        go_wp2_with fail
        go_ret
        exact ⟨by rw [Hv.out]; rfl, bnext hB1 hb2⟩
    · have Hv : Hid (askE r ls es page = 0) := Lib.hid (by unfold askE; rw [orE_r _ hE, if_neg hp])
      have hp1 : 0 ≤ page := by omega
      have hp2 : page < 64 := by omega
      clear hp
      go_enter Tryd.func52, Tryd.ntmps52
      go_wp2_with fail
      refine (rTCheck_any r ls es _ _ (hv.to hB1) hs).mono ?_
      rw [hE]
      rintro e w2 ⟨rfl, hb2⟩
      go_wp2_with fail
      go_ret
      exact ⟨by rw [Hv.out]; rfl, bnext hB1 hb2⟩
  · have Hv : Hid (askE r ls es page = tabE r ls es) := Lib.hid (by unfold askE; rw [orE_l _ hE])
    have hd : (tabE r ls es == 0) = false := by simpa using hE
    go_enter Tryd.func52, Tryd.ntmps52
    go_wp2_with fail
    refine (rTCheck_any r ls es _ _ (hv.to hB1) hs).mono ?_
    rintro e w2 ⟨rfl, hb2⟩
    go_wp2_with fail
    go_ret
    exact ⟨by rw [Hv.out]; rfl, bnext hB1 hb2⟩

set_option maxHeartbeats 1000000 in
theorem rGet_bad (r : Int) (ls : List Int) (es : List Nat) (v : Value) (page : Int) (w : World) (hv : TbV w v (r, ls, es)) (hs : wsmall es) (hA : askE r ls es page ≠ 0) :
    Calls Tryd.prog 18 #[v, .int .i64 page] w fun e w' => EnRes w w' ((0, 0, false, false, false), askE r ls es page) e := by
  obtain ⟨A, c, B, d, rfl, hA', hB, hcc⟩ := id hv
  simp only at hA' hB hcc
  unfold tabV at hv ⊢
  simp only at hv ⊢
  have kT := ((Bk.new (w) #[.int .i64 r, .slice A ls.length c, .slice B es.length d] 25).alloc (.cells #[.int .i64 0, .int .i64 0, .bool false, .bool false, .bool false] 35))
  have kR := (Bk.new (w.alloc (.cells #[.int .i64 r, .slice A ls.length c, .slice B es.length d] 25)) #[.int .i64 0, .int .i64 0, .bool false, .bool false, .bool false] 35)
  rw [World.size_alloc] at kR
  have hB1 := balloc (balloc (Below.refl _ w) (.cells #[.int .i64 r, .slice A ls.length c, .slice B es.length d] 25)) (.cells #[.int .i64 0, .int .i64 0, .bool false, .bool false, .bool false] 35)
  generalize hw_w1 : (w.alloc (.cells #[.int .i64 r, .slice A ls.length c, .slice B es.length d] 25)).alloc (.cells #[.int .i64 0, .int .i64 0, .bool false, .bool false, .bool false] 35) = w1 at *
  have hd : (askE r ls es page != 0) = true := by simpa using hA
  obtain ⟨cT, fT, lT⟩ := kT.facts
  go_enter Tryd.func18, Tryd.ntmps18
  go_wp2_with fail
  refine (rAsks_any r ls es _ page _ (hv.to hB1) hs).mono ?_
  rintro e w2 ⟨rfl, hb2⟩
  replace kR := kR.to hb2
  replace hB1 := bnext hB1 hb2
  clear cT fT lT
  obtain ⟨cR, fR, lR⟩ := kR.facts
  go_wp2_with fail
  have kF := kR.put5 (.int .i64 0) (.int .i64 0) (.bool false) (.bool false) (.bool false)
  have hBF := below_put5 hB1 (b := w.heap.size + 1) (Nat.le_succ _) (.int .i64 0) (.int .i64 0) (.bool false) (.bool false) (.bool false)
  exact bodyPost_ret (kF.res2 (P := Tryd.prog) rfl _ rfl (by kernel_rfl) (by kernel_rfl)) rfl ⟨rfl, hBF⟩

set_option maxHeartbeats 1000000 in
theorem rGet_ok (r : Int) (ls : List Int) (es : List Nat) (v : Value) (p : Nat) (w : World) (hv : TbV w v (r, ls, es)) (hs : wsmall es) (hE : tabE r ls es = 0) (hp : p < 64) :
    Calls Tryd.prog 18 #[v, .int .i64 p] w fun e w' => EnRes w w' (unpR (es.getD p 0)) e := by
  have hask : askE r ls es p = 0 := by unfold askE; rw [orE_r _ hE, if_neg (by omega)]
  obtain ⟨h1, h2, hR, hLs, hDu, hSt, hUn, hMi⟩ := tab_zero hE
  obtain ⟨A, c, B, d, rfl, hA, hB, hcc⟩ := id hv
  simp only at hA hB hcc
  unfold tabV at hv ⊢
  simp only at hv ⊢
  rw [h1, h2] at hv ⊢
  rw [h1] at hA hcc
  rw [h2] at hB
  have kT := ((Bk.new (w) #[.int .i64 r, .slice A 8 c, .slice B 64 d] 25).alloc (.cells #[.int .i64 0, .int .i64 0, .bool false, .bool false, .bool false] 35))
  have kR := (Bk.new (w.alloc (.cells #[.int .i64 r, .slice A 8 c, .slice B 64 d] 25)) #[.int .i64 0, .int .i64 0, .bool false, .bool false, .bool false] 35)
  rw [World.size_alloc] at kR
  have hB1 := balloc (balloc (Below.refl _ w) (.cells #[.int .i64 r, .slice A 8 c, .slice B 64 d] 25)) (.cells #[.int .i64 0, .int .i64 0, .bool false, .bool false, .bool false] 35)
  generalize hw_w1 : (w.alloc (.cells #[.int .i64 r, .slice A 8 c, .slice B 64 d] 25)).alloc (.cells #[.int .i64 0, .int .i64 0, .bool false, .bool false, .bool false] 35) = w1 at *
  have hpI : (p : Int) < 64 := by omega
  obtain ⟨cT, fT, lT⟩ := kT.facts
  go_enter Tryd.func18, Tryd.ntmps18
  go_wp2_with fail
  refine (rAsks_any r ls es _ p _ (hv.to hB1) hs).mono ?_
  rw [hask]
  rintro e w2 ⟨rfl, hb2⟩
  replace kR := kR.to hb2
  replace kT := kT.to hb2
  replace hB1 := bnext hB1 hb2
  clear cT fT lT hw_w1
  obtain ⟨cT, fT, lT⟩ := kT.facts
  obtain ⟨g, off, x, rfl, hg, hx, hxs, hc⟩ := (hB.below hB1 (Nat.le_refl _)).word hs hp
  rcases hu : unpR (es.getD p 0) with ⟨⟨ek, en, ea, eb, ec⟩, er⟩
  have HX := Lib.hid hu
  rw [hx] at hu
  have HU := Lib.hid (rUnpack_any x)
  rw [hu] at HU
  clear hu hx
  go_wp2_with (first | (go_at_call 50; refine (HU.out _ hxs).mono ?_; rintro e w4 ⟨rfl, hb4⟩; simp only; obtain ⟨cR, fR, lR⟩ := (kR.to hb4).facts))
  have kF := (kR.to hb4).put5 (.int .i64 ek) (.int .i64 en) (.bool ea) (.bool eb) (.bool ec)
  have hBF := below_put5 (bnext hB1 hb4) (b := w.heap.size + 1) (Nat.le_succ _) (.int .i64 ek) (.int .i64 en) (.bool ea) (.bool eb) (.bool ec)
  exact bodyPost_ret (kF.res2 (P := Tryd.prog) rfl _ rfl (by kernel_rfl) (by kernel_rfl)) rfl ⟨by rw [HX.out]; rfl, hBF⟩
theorem rGet_any (r : Int) (ls : List Int) (es : List Nat) (v : Value) (page : Int) (w : World) (hv : TbV w v (r, ls, es)) (hs : wsmall es) :
    Calls Tryd.prog 18 #[v, .int .i64 page] w fun e w' => EnRes w w' (getR r ls es page) e := by
  by_cases h : askE r ls es page = 0
  · obtain ⟨h1, p, rfl, hp⟩ := ask_zero h
    unfold getR
    rw [if_neg (by simp [h])]
    exact rGet_ok r ls es v p w hv hs h1 hp
  · unfold getR
    rw [if_pos h]
    exact rGet_bad r ls es v page w hv hs h

set_option maxHeartbeats 1000000 in
theorem rLacks_bad (r : Int) (ls : List Int) (es : List Nat) (v : Value) (page : Int) (w : World) (hv : TbV w v (r, ls, es)) (hs : wsmall es) (hA : askE r ls es page ≠ 0) :
    Calls Tryd.prog 20 #[v, .int .i64 page] w fun e w' => e = .returned (.tuple #[.bool false, .int .i64 (askE r ls es page)]) ∧ Below w.heap.size w w' := by
  obtain ⟨A, c, B, d, rfl, hA', hB, hcc⟩ := id hv
  simp only at hA' hB hcc
  unfold tabV at hv ⊢
  simp only at hv ⊢
  have kT := (Bk.new (w) #[.int .i64 r, .slice A ls.length c, .slice B es.length d] 25)
  have hB1 := balloc (Below.refl _ w) (.cells #[.int .i64 r, .slice A ls.length c, .slice B es.length d] 25)
  generalize hw_w1 : w.alloc (.cells #[.int .i64 r, .slice A ls.length c, .slice B es.length d] 25) = w1 at *
  have hd : (askE r ls es page != 0) = true := by simpa using hA
  obtain ⟨cT, fT, lT⟩ := kT.facts
  go_enter Tryd.func20, Tryd.ntmps20
  go_wp2_with fail
  refine (rAsks_any r ls es _ page _ (hv.to hB1) hs).mono ?_
  rintro e w2 ⟨rfl, hb2⟩
  go_wp2_with fail
  go_ret2
  exact ⟨rfl, bnext hB1 hb2⟩

set_option maxHeartbeats 1000000 in
theorem rLacks_ok (r : Int) (ls : List Int) (es : List Nat) (v : Value) (p : Nat) (w : World) (hv : TbV w v (r, ls, es)) (hs : wsmall es) (hE : tabE r ls es = 0) (hp : p < 64) :
    Calls Tryd.prog 20 #[v, .int .i64 p] w fun e w' => e = .returned (.tuple #[.bool (decide (ls.getD (p / 8) 0 = -1)), .int .i64 0]) ∧ Below w.heap.size w w' := by
  have hask : askE r ls es p = 0 := by unfold askE; rw [orE_r _ hE, if_neg (by omega)]
  obtain ⟨h1, h2, hR, hLs, hDu, hSt, hUn, hMi⟩ := tab_zero hE
  obtain ⟨A, c, B, d, rfl, hA, hB, hcc⟩ := id hv
  simp only at hA hB hcc
  unfold tabV at hv ⊢
  simp only at hv ⊢
  rw [h1, h2] at hv ⊢
  rw [h1] at hA hcc
  rw [h2] at hB
  have kT := (Bk.new (w) #[.int .i64 r, .slice A 8 c, .slice B 64 d] 25)
  have hB1 := balloc (Below.refl _ w) (.cells #[.int .i64 r, .slice A 8 c, .slice B 64 d] 25)
  generalize hw_w1 : w.alloc (.cells #[.int .i64 r, .slice A 8 c, .slice B 64 d] 25) = w1 at *
  have hpI : ((p / 8 : Nat) : Int) < 8 := by omega
  obtain ⟨cT, fT, lT⟩ := kT.facts
  go_enter Tryd.func20, Tryd.ntmps20
  go_wp2_with fail
  refine (rAsks_any r ls es _ p _ (hv.to hB1) hs).mono ?_
  rw [hask]
  rintro e w2 ⟨rfl, hb2⟩
  replace kT := kT.to hb2
  replace hB1 := bnext hB1 hb2
  clear cT fT lT hw_w1
  obtain ⟨cT, fT, lT⟩ := kT.facts
  obtain ⟨g, off, z, rfl, hg, hz, hc⟩ := (hA.below hB1 (Nat.le_refl _)).numb (show p / 8 < 8 by omega)
  have hzz := hLs (p / 8) (by omega)
  have HZ : Hid (decide (ls.getD (p / 8) 0 = -1) = decide (z < 0)) := Lib.hid (by rw [hz] at hzz ⊢; rw [decide_eq_decide]; omega)
  clear hz hzz
  go_wp2_with fail
  go_ret2
  exact ⟨by rw [HZ.out]; rfl, hB1⟩
theorem rLacks_any (r : Int) (ls : List Int) (es : List Nat) (v : Value) (page : Int) (w : World) (hv : TbV w v (r, ls, es)) (hs : wsmall es) :
    Calls Tryd.prog 20 #[v, .int .i64 page] w fun e w' => e = .returned (.tuple #[.bool (lackR r ls es page).1, .int .i64 (lackR r ls es page).2]) ∧ Below w.heap.size w w' := by
  by_cases h : askE r ls es page = 0
  · obtain ⟨h1, p, rfl, hp⟩ := ask_zero h
    unfold lackR
    rw [if_neg (by simp [h])]
    exact rLacks_ok r ls es v p w hv hs h1 hp
  · unfold lackR
    rw [if_pos h]
    exact rLacks_bad r ls es v page w hv hs h
end Go.Proofs.YtnmknbnidfmmoaaDoor
