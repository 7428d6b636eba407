/- Page tables: Get, Lacks, New. -/
import Derived.Test.YtnmknbnidfmmoaaDoorTab5
namespace Go.Proofs.YtnmknbnidfmmoaaDoor
open Go Go.Proofs Go.RowKit
set_option linter.unusedSimpArgs false
set_option linter.unusedVariables false
set_option maxRecDepth 100000

theorem open_bad (r : Int) (ls : List Int) (es : List Nat) (v : Value) (page : Int) (w : World) (hv : TbV w v (r, ls, es)) (hs : wsmall es) (hL : LayOK w) (hE : askE r ls es page ≠ 0) :
    Calls Tryd.prog 51 #[v, .int .i64 page] w fun e w' => e = .returned (.tuple #[.agg Tryd.zeroCells69, .int .i64 0, .int .i64 (askE r ls es page)]) ∧ Below w.heap.size w w' := by
  by_cases h : tabE r ls es = 0
  · have hp : page < 0 ∨ 64 ≤ page := by
      apply Classical.byContradiction
      intro hc
      apply hE
      unfold askE
      rw [orE_r _ h, if_neg hc]
    have : askE r ls es page = 2 := by unfold askE; rw [orE_r _ h, if_pos hp]
    rw [this]
    exact open_bad2 r ls es v page w hv hs hL h hp
  · have : askE r ls es page = tabE r ls es := by unfold askE; rw [orE_l _ h]
    rw [this]
    exact open_bad1 r ls es v page w hv hs hL h
theorem ask_zero {r : Int} {ls : List Int} {es : List Nat} {page : Int} (h : askE r ls es page = 0) : tabE r ls es = 0 ∧ ∃ p : Nat, page = p ∧ p < 64 := by
  obtain ⟨h1, h2⟩ := orE_zero h
  refine ⟨h1, page.toNat, ?_⟩
  split at h2
  · omega
  · omega

set_option maxHeartbeats 1000000 in
theorem TGet_bad (r : Int) (ls : List Int) (es : List Nat) (v : Value) (page : Int) (w : World) (hv : TbV w v (r, ls, es)) (hs : wsmall es) (hL : LayOK w) (hA : askE r ls es page ≠ 0) :
    Calls Tryd.prog 17 #[v, .int .i64 page] w fun e w' => EnRes w w' ((0, 0, false, false, false), askE r ls es page) e := by
  obtain ⟨A, c, B, d, rfl, hA', hB, hcc⟩ := id hv
  simp only at hA' hB hcc
  unfold tabV at hv ⊢
  simp only at hv ⊢
  have kT := ((Bk.new (w) #[.int .i64 r, .slice A ls.length c, .slice B es.length d] 25).alloc (.cells #[.int .i64 0, .int .i64 0, .bool false, .bool false, .bool false] 35))
  have kR := (Bk.new (w.alloc (.cells #[.int .i64 r, .slice A ls.length c, .slice B es.length d] 25)) #[.int .i64 0, .int .i64 0, .bool false, .bool false, .bool false] 35)
  rw [World.size_alloc] at kR
  have hB1 := balloc (balloc (Below.refl _ w) (.cells #[.int .i64 r, .slice A ls.length c, .slice B es.length d] 25)) (.cells #[.int .i64 0, .int .i64 0, .bool false, .bool false, .bool false] 35)
  generalize hw_w1 : (w.alloc (.cells #[.int .i64 r, .slice A ls.length c, .slice B es.length d] 25)).alloc (.cells #[.int .i64 0, .int .i64 0, .bool false, .bool false, .bool false] 35) = w1 at *
  have hd : (askE r ls es page != 0) = true := by simpa using hA
  obtain ⟨cT, fT, lT⟩ := kT.facts
  have hst := arr_store0 arr_z73 arr_z1
  go_enter Tryd.func17, Tryd.ntmps17
  go_wp2_with fail
  refine (open_bad r ls es _ page _ (hv.to hB1) hs (hL.below hB1) hA).mono ?_
  rintro e w2 ⟨rfl, hb2⟩
  go_upto_region 2 with fail
  have kA := (Bk.new (w2) Tryd.zeroCells69 69)
  have hB3 := balloc (Below.refl _ w2) (.cells Tryd.zeroCells69 69)
  generalize hw_w3 : (w2).alloc (.cells Tryd.zeroCells69 69) = w3 at *
  replace kR := (kR.to hb2).to hB3
  replace hB1 := bnext (bnext hB1 hb2) hB3
  clear hst cT fT lT hb2 hw_w1 hw_w3
  obtain ⟨cR, fR, lR⟩ := kR.facts
  go_wp2_with fail
  have kF := kR.put5 (.int .i64 0) (.int .i64 0) (.bool false) (.bool false) (.bool false)
  have hBF := below_put5 hB1 (b := w.heap.size + 1) (Nat.le_succ _) (.int .i64 0) (.int .i64 0) (.bool false) (.bool false) (.bool false)
  exact bodyPost_ret (kF.res2 (P := Tryd.prog) rfl _ rfl (by kernel_rfl) (by kernel_rfl)) rfl ⟨rfl, hBF⟩

set_option maxHeartbeats 1000000 in
theorem TGet_ok (r : Int) (ls : List Int) (es : List Nat) (v : Value) (p : Nat) (w : World) (hv : TbV w v (r, ls, es)) (hs : wsmall es) (hL : LayOK w) (hE : tabE r ls es = 0) (hp : p < 64) :
    Calls Tryd.prog 17 #[v, .int .i64 p] w fun e w' => EnRes w w' (unpR (es.getD p 0)) e := by
  obtain ⟨h1, h2, hR, hLs, hDu, hSt, hUn, hMi⟩ := tab_zero hE
  obtain ⟨A, c, B, d, rfl, hA, hB, hcc⟩ := id hv
  simp only at hA hB hcc
  unfold tabV at hv ⊢
  simp only at hv ⊢
  rw [h1, h2] at hv ⊢
  rw [h1] at hA hcc
  rw [h2] at hB
  have kT := ((Bk.new (w) #[.int .i64 r, .slice A 8 c, .slice B 64 d] 25).alloc (.cells #[.int .i64 0, .int .i64 0, .bool false, .bool false, .bool false] 35))
  have kR := (Bk.new (w.alloc (.cells #[.int .i64 r, .slice A 8 c, .slice B 64 d] 25)) #[.int .i64 0, .int .i64 0, .bool false, .bool false, .bool false] 35)
  rw [World.size_alloc] at kR
  have hB1 := balloc (balloc (Below.refl _ w) (.cells #[.int .i64 r, .slice A 8 c, .slice B 64 d] 25)) (.cells #[.int .i64 0, .int .i64 0, .bool false, .bool false, .bool false] 35)
  generalize hw_w1 : (w.alloc (.cells #[.int .i64 r, .slice A 8 c, .slice B 64 d] 25)).alloc (.cells #[.int .i64 0, .int .i64 0, .bool false, .bool false, .bool false] 35) = w1 at *
  have hpI : (p : Int) < 64 := by omega
  obtain ⟨cT, fT, lT⟩ := kT.facts
  have hln := arrL_len r ls es h1 h2
  have hst := arr_store0 (arr_73 r ls es h1 h2) (arrL_one r ls es)
  have hx : es.getD p 0 < 18446744073709551616 := by
    have hl : p < es.length := by omega
    rw [List.getD_eq_getElem?_getD, List.getElem?_eq_getElem hl]
    exact hs _ (List.getElem_mem hl)
  go_enter Tryd.func17, Tryd.ntmps17
  go_wp2_with fail
  refine (open_ok r ls es _ p _ (hv.to hB1) hs (hL.below hB1) hE hp).mono ?_
  rintro e w2 ⟨rfl, hb2⟩
  go_upto_region 2 with fail
  have kA := (Bk.new (w2) (arrL r ls es).toArray 69)
  have hB3 := balloc (Below.refl _ w2) (.cells (arrL r ls es).toArray 69)
  generalize hw_w3 : (w2).alloc (.cells (arrL r ls es).toArray 69) = w3 at *
  replace kR := (kR.to hb2).to hB3
  replace hB1 := bnext (bnext hB1 hb2) hB3
  clear hst cT fT lT hw_w1 hw_w3
  have ce := arr_ent h1 h2 kA hp
  have lA := kA.lt
  rcases hu : unpR (es.getD p 0) with ⟨⟨ek, en, ea, eb, ec⟩, er⟩
  have HU := Lib.hid (Unpack_any (es.getD p 0))
  rw [hu] at HU
  have HX := Lib.hid hu
  clear hu
  obtain ⟨x, hxe⟩ : ∃ x, x = es.getD p 0 := ⟨_, rfl⟩
  rw [← hxe] at ce hx HU
  clear hxe
  go_wp2_with (go_at_call 47; refine (HU.out _ hx (hL.below hB1)).mono ?_; rintro e w4 ⟨rfl, hb4⟩; simp only; obtain ⟨cR, fR, lR⟩ := (kR.to hb4).facts)
  have kF := (kR.to hb4).put5 (.int .i64 ek) (.int .i64 en) (.bool ea) (.bool eb) (.bool ec)
  have hBF := below_put5 (bnext hB1 hb4) (b := w.heap.size + 1) (Nat.le_succ _) (.int .i64 ek) (.int .i64 en) (.bool ea) (.bool eb) (.bool ec)
  exact bodyPost_ret (kF.res2 (P := Tryd.prog) rfl _ rfl (by kernel_rfl) (by kernel_rfl)) rfl ⟨by rw [HX.out]; rfl, hBF⟩
theorem TGet_any (r : Int) (ls : List Int) (es : List Nat) (v : Value) (page : Int) (w : World) (hv : TbV w v (r, ls, es)) (hs : wsmall es) (hL : LayOK w) :
    Calls Tryd.prog 17 #[v, .int .i64 page] w fun e w' => EnRes w w' (getR r ls es page) e := by
  by_cases h : askE r ls es page = 0
  · obtain ⟨h1, p, rfl, hp⟩ := ask_zero h
    unfold getR
    rw [if_neg (by simp [h])]
    exact TGet_ok r ls es v p w hv hs hL h1 hp
  · unfold getR
    rw [if_pos h]
    exact TGet_bad r ls es v page w hv hs hL h

set_option maxHeartbeats 1000000 in
theorem TLacks_bad (r : Int) (ls : List Int) (es : List Nat) (v : Value) (page : Int) (w : World) (hv : TbV w v (r, ls, es)) (hs : wsmall es) (hL : LayOK w) (hA : askE r ls es page ≠ 0) :
    Calls Tryd.prog 19 #[v, .int .i64 page] w fun e w' => e = .returned (.tuple #[.bool false, .int .i64 (askE r ls es page)]) ∧ Below w.heap.size w w' := by
  obtain ⟨A, c, B, d, rfl, hA', hB, hcc⟩ := id hv
  simp only at hA' hB hcc
  unfold tabV at hv ⊢
  simp only at hv ⊢
  have kT := (Bk.new (w) #[.int .i64 r, .slice A ls.length c, .slice B es.length d] 25)
  have hB1 := balloc (Below.refl _ w) (.cells #[.int .i64 r, .slice A ls.length c, .slice B es.length d] 25)
  generalize hw_w1 : w.alloc (.cells #[.int .i64 r, .slice A ls.length c, .slice B es.length d] 25) = w1 at *
  have hd : (askE r ls es page != 0) = true := by simpa using hA
  obtain ⟨cT, fT, lT⟩ := kT.facts
  have hst := arr_store0 arr_z73 arr_z1
  go_enter Tryd.func19, Tryd.ntmps19
  go_wp2_with fail
  refine (open_bad r ls es _ page _ (hv.to hB1) hs (hL.below hB1) hA).mono ?_
  rintro e w2 ⟨rfl, hb2⟩
  go_wp2_with fail
  go_ret2
  exact ⟨rfl, balloc (bnext hB1 hb2) _⟩
set_option maxHeartbeats 1000000 in
theorem TLacks_ok (r : Int) (ls : List Int) (es : List Nat) (v : Value) (p : Nat) (w : World) (hv : TbV w v (r, ls, es)) (hs : wsmall es) (hL : LayOK w) (hE : tabE r ls es = 0) (hp : p < 64) :
    Calls Tryd.prog 19 #[v, .int .i64 p] w fun e w' => e = .returned (.tuple #[.bool (decide (ls.getD (p / 8) 0 = -1)), .int .i64 0]) ∧ Below w.heap.size w w' := by
  obtain ⟨h1, h2, hR, hLs, hDu, hSt, hUn, hMi⟩ := tab_zero hE
  obtain ⟨A, c, B, d, rfl, hA, hB, hcc⟩ := id hv
  simp only at hA hB hcc
  unfold tabV at hv ⊢
  simp only at hv ⊢
  rw [h1, h2] at hv ⊢
  rw [h1] at hA hcc
  rw [h2] at hB
  have kT := (Bk.new (w) #[.int .i64 r, .slice A 8 c, .slice B 64 d] 25)
  have hB1 := balloc (Below.refl _ w) (.cells #[.int .i64 r, .slice A 8 c, .slice B 64 d] 25)
  generalize hw_w1 : w.alloc (.cells #[.int .i64 r, .slice A 8 c, .slice B 64 d] 25) = w1 at *
  have hpI : ((p / 8 : Nat) : Int) < 8 := by omega
  obtain ⟨cT, fT, lT⟩ := kT.facts
  have hln := arrL_len r ls es h1 h2
  have hst := arr_store0 (arr_73 r ls es h1 h2) (arrL_one r ls es)
  go_enter Tryd.func19, Tryd.ntmps19
  go_wp2_with fail
  refine (open_ok r ls es _ p _ (hv.to hB1) hs (hL.below hB1) hE hp).mono ?_
  rintro e w2 ⟨rfl, hb2⟩
  have hp8 : p / 8 < 8 := by omega
  go_upto_region 2 with fail
  have kA := (Bk.new (w2) (arrL r ls es).toArray 69)
  have hB3 := balloc (Below.refl _ w2) (.cells (arrL r ls es).toArray 69)
  generalize hw_w3 : (w2).alloc (.cells (arrL r ls es).toArray 69) = w3 at *
  replace hB1 := bnext (bnext hB1 hb2) hB3
  clear hst cT fT lT hw_w1 hw_w3
  have ce := arr_leaf h1 kA hp8
  have lA := kA.lt
  obtain ⟨z, hz⟩ : ∃ z, z = ls.getD (p / 8) 0 := ⟨_, rfl⟩
  rw [← hz] at ce
  have HZ := Lib.hid hz
  clear hz
  go_wp2_with fail
  go_ret2
  refine ⟨?_, hB1⟩
  show Ending.returned (.tuple #[.bool (z == -1), .int .i64 0]) = _
  rw [← HZ.out]
  rfl
theorem TLacks_any (r : Int) (ls : List Int) (es : List Nat) (v : Value) (page : Int) (w : World) (hv : TbV w v (r, ls, es)) (hs : wsmall es) (hL : LayOK w) :
    Calls Tryd.prog 19 #[v, .int .i64 page] w fun e w' => e = .returned (.tuple #[.bool (lackR r ls es page).1, .int .i64 (lackR r ls es page).2]) ∧ Below w.heap.size w w' := by
  by_cases h : askE r ls es page = 0
  · obtain ⟨h1, p, rfl, hp⟩ := ask_zero h
    unfold lackR
    rw [if_neg (by simp [h])]
    exact TLacks_ok r ls es v p w hv hs hL h1 hp
  · unfold lackR
    rw [if_pos h]
    exact TLacks_bad r ls es v page w hv hs hL h
end Go.Proofs.YtnmknbnidfmmoaaDoor
