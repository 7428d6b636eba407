/- Page tables: Clear. -/
import Derived.Test.YtnmknbnidfmmoaaDoorTab15
namespace Go.Proofs.YtnmknbnidfmmoaaDoor
open Go Go.Proofs Go.RowKit
set_option linter.unusedSimpArgs false
set_option linter.unusedVariables false
set_option maxRecDepth 100000

/-- A table, a number and an error that a call returned. -/
def TbRes3 (w w' : World) (t : Tb) (f er : Int) (e : Ending) : Prop := ∃ v, e = .returned (.tuple #[v, .int .i64 f, .int .i64 er]) ∧ TbV w' v t ∧ Below w.heap.size w w'
def TbRes3L (w w' : World) (t : Tb) (f er : Int) (e : Ending) : Prop := ∃ v, e = .returned (.tuple #[v, .int .i64 f, .int .i64 er]) ∧ TbV w' v t ∧ TLoc w.heap.size v ∧ Below w.heap.size w w'
theorem unp_set0 {es : List Nat} (h2 : es.length = 64) (hU : ∀ p, p < 64 → unpE (es.getD p 0) = 0) (p : Nat) : ∀ j, j < 64 → unpE ((es.set p 0).getD j 0) = 0 := by
  intro j hj
  rw [List.getD_eq_getElem?_getD, List.getElem?_set]
  by_cases h : p = j
  · subst h
    rw [if_pos rfl, if_pos (by omega)]
    rfl
  · rw [if_neg h]
    have := hU j hj
    rwa [List.getD_eq_getElem?_getD] at this

set_option maxHeartbeats 1000000 in
theorem TClear_bad1 (r : Int) (ls : List Int) (es : List Nat) (v : Value) (page : Int) (w : World) (hv : TbV w v (r, ls, es)) (hs : wsmall es) (hL : LayOK w) (hA : askE r ls es page ≠ 0) :
    Calls Tryd.prog 33 #[v, .int .i64 page] w fun e w' => TbRes3L w w' tb0 0 (askE r ls es page) e := by
  obtain ⟨A, c, B, d, rfl, hA', hB, hcc⟩ := id hv
  simp only at hA' hB hcc
  unfold tabV at hv ⊢
  simp only at hv ⊢
  have kT := ((Bk.new (w) #[.int .i64 r, .slice A ls.length c, .slice B es.length d] 25).alloc (.cells #[.int .i64 0, .slice none 0 0, .slice none 0 0] 25))
  have kR := (Bk.new (w.alloc (.cells #[.int .i64 r, .slice A ls.length c, .slice B es.length d] 25)) #[.int .i64 0, .slice none 0 0, .slice none 0 0] 25)
  rw [World.size_alloc] at kR
  have hB1 := balloc (balloc (Below.refl _ w) (.cells #[.int .i64 r, .slice A ls.length c, .slice B es.length d] 25)) (.cells #[.int .i64 0, .slice none 0 0, .slice none 0 0] 25)
  generalize hw_w1 : (w.alloc (.cells #[.int .i64 r, .slice A ls.length c, .slice B es.length d] 25)).alloc (.cells #[.int .i64 0, .slice none 0 0, .slice none 0 0] 25) = w1 at *
  have hd : (askE r ls es page != 0) = true := by simpa using hA
  obtain ⟨cT, fT, lT⟩ := kT.facts
  have hst := arr_store0 arr_z73 arr_z1
  go_enter Tryd.func33, Tryd.ntmps33
  go_wp2_with fail
  refine (open_bad r ls es _ page _ (hv.to hB1) hs (hL.below hB1) hA).mono ?_
  rintro e w2 ⟨rfl, hb2⟩
  go_upto_region 2 with fail
  have kA := (Bk.new (w2) Tryd.zeroCells69 69)
  have hB3 := balloc (Below.refl _ w2) (.cells Tryd.zeroCells69 69)
  generalize hw_w3 : (w2).alloc (.cells Tryd.zeroCells69 69) = w3 at *
  replace kR := (kR.to hb2).to hB3
  replace hB1 := bnext (bnext hB1 hb2) hB3
  clear hst cT fT lT hb2 hw_w1 hw_w3
  obtain ⟨cR, fR, lR⟩ := kR.facts
  go_wp2_with fail
  have kF := kR.put3 (.int .i64 0) (.slice none 0 0) (.slice none 0 0)
  have hBF := below_put3 hB1 (g := w.heap.size + 1) (by omega) (.int .i64 0) (.slice none 0 0) (.slice none 0 0)
  exact bodyPost_ret (kF.res3 (P := Tryd.prog) rfl _ rfl (by kernel_rfl) (by kernel_rfl)) rfl ⟨_, rfl, TbV.zero _, TLoc.zero _ _, hBF⟩

set_option maxHeartbeats 1000000 in
theorem TClear_bad2 (r : Int) (ls : List Int) (es : List Nat) (v : Value) (p : Nat) (w : World) (hv : TbV w v (r, ls, es)) (hs : wsmall es) (hL : LayOK w) (hE : tabE r ls es = 0) (hp : p < 64) (hk0 : unpK (es.getD p 0) = 0) :
    Calls Tryd.prog 33 #[v, .int .i64 p] w fun e w' => TbRes3L w w' tb0 0 6 e := by
  obtain ⟨h1, h2, hR, hLs, hDu, hSt, hUn, hMi⟩ := tab_zero hE
  obtain ⟨A, c, B, d, rfl, hA, hB, hcc⟩ := id hv
  simp only at hA hB hcc
  unfold tabV at hv ⊢
  simp only at hv ⊢
  rw [h1, h2] at hv ⊢
  rw [h1] at hA hcc
  rw [h2] at hB
  have kT := ((Bk.new (w) #[.int .i64 r, .slice A 8 c, .slice B 64 d] 25).alloc (.cells #[.int .i64 0, .slice none 0 0, .slice none 0 0] 25))
  have kR := (Bk.new (w.alloc (.cells #[.int .i64 r, .slice A 8 c, .slice B 64 d] 25)) #[.int .i64 0, .slice none 0 0, .slice none 0 0] 25)
  rw [World.size_alloc] at kR
  have hB1 := balloc (balloc (Below.refl _ w) (.cells #[.int .i64 r, .slice A 8 c, .slice B 64 d] 25)) (.cells #[.int .i64 0, .slice none 0 0, .slice none 0 0] 25)
  generalize hw_w1 : (w.alloc (.cells #[.int .i64 r, .slice A 8 c, .slice B 64 d] 25)).alloc (.cells #[.int .i64 0, .slice none 0 0, .slice none 0 0] 25) = w1 at *
  have hpI : (p : Int) < 64 := by omega
  obtain ⟨cT, fT, lT⟩ := kT.facts
  have hln := arrL_len r ls es h1 h2
  have hst := arr_store0 (arr_73 r ls es h1 h2) (arrL_one r ls es)
  go_enter Tryd.func33, Tryd.ntmps33
  go_wp2_with fail
  refine (open_ok r ls es _ p _ (hv.to hB1) hs (hL.below hB1) hE hp).mono ?_
  rintro e w2 ⟨rfl, hb2⟩
  have hw23 : w.heap.size + 1 < w2.heap.size := Nat.lt_of_lt_of_le kR.lt hb2.size
  have hq8 : p / 8 < 8 := by omega
  go_upto_region 2 with fail
  have kA := (Bk.new (w2) (arrL r ls es).toArray 69)
  have hB3 := balloc (Below.refl _ w2) (.cells (arrL r ls es).toArray 69)
  generalize hw_w3 : (w2).alloc (.cells (arrL r ls es).toArray 69) = w3 at *
  replace kR := (kR.to hb2).to hB3
  replace hB1 := bnext (bnext hB1 hb2) hB3
  clear hst cT fT lT hb2 hB3 hw_w1 hw_w3
  have lA := kA.lt
  have ce := arr_ent h1 h2 kA hp
  have hxs := getD_small hs p (by omega)
  have HK := Lib.hid (kind_any (es.getD p 0) w3 hxs (hUn p hp) (hL.below hB1))
  obtain ⟨x, hx⟩ : ∃ x, x = es.getD p 0 := ⟨_, rfl⟩
  rw [← hx] at ce HK hk0
  clear hx
  obtain ⟨kx, hkx⟩ : ∃ kx, kx = unpK x := ⟨_, rfl⟩
  rw [← hkx] at HK hk0
  clear hkx
  have d1 : (kx == 0) = true := by simp [hk0]
  clear hk0
  go_wp2_with (go_at_call 59; refine HK.out.mono ?_; rintro e w4 ⟨rfl, hb4⟩; replace kR := kR.to hb4; replace hB1 := bnext hB1 hb4; obtain ⟨cR, fR, lR⟩ := kR.facts)
  have kF := kR.put3 (.int .i64 0) (.slice none 0 0) (.slice none 0 0)
  have hBF := below_put3 hB1 (g := w.heap.size + 1) (by omega) (.int .i64 0) (.slice none 0 0) (.slice none 0 0)
  exact bodyPost_ret (kF.res3 (P := Tryd.prog) rfl _ rfl (by kernel_rfl) (by kernel_rfl)) rfl ⟨_, rfl, TbV.zero _, TLoc.zero _ _, hBF⟩

set_option maxHeartbeats 1000000 in
theorem TClear_ok (r : Int) (ls : List Int) (es : List Nat) (v : Value) (p : Nat) (w : World) (hv : TbV w v (r, ls, es)) (hs : wsmall es) (hL : LayOK w) (hE : tabE r ls es = 0) (hp : p < 64) (hk0 : unpK (es.getD p 0) ≠ 0) :
    Calls Tryd.prog 33 #[v, .int .i64 p] w fun e w' => TbRes3L w w' (r, relL ls (es.set p 0) (p / 8), es.set p 0) (relF ls (es.set p 0) (p / 8)) 0 e := by
  obtain ⟨h1, h2, hR, hLs, hDu, hSt, hUn, hMi⟩ := tab_zero hE
  obtain ⟨A, c, B, d, rfl, hA, hB, hcc⟩ := id hv
  simp only at hA hB hcc
  unfold tabV at hv ⊢
  simp only at hv ⊢
  rw [h1, h2] at hv ⊢
  rw [h1] at hA hcc
  rw [h2] at hB
  have kT := ((Bk.new (w) #[.int .i64 r, .slice A 8 c, .slice B 64 d] 25).alloc (.cells #[.int .i64 0, .slice none 0 0, .slice none 0 0] 25))
  have kR := (Bk.new (w.alloc (.cells #[.int .i64 r, .slice A 8 c, .slice B 64 d] 25)) #[.int .i64 0, .slice none 0 0, .slice none 0 0] 25)
  rw [World.size_alloc] at kR
  have hB1 := balloc (balloc (Below.refl _ w) (.cells #[.int .i64 r, .slice A 8 c, .slice B 64 d] 25)) (.cells #[.int .i64 0, .slice none 0 0, .slice none 0 0] 25)
  generalize hw_w1 : (w.alloc (.cells #[.int .i64 r, .slice A 8 c, .slice B 64 d] 25)).alloc (.cells #[.int .i64 0, .slice none 0 0, .slice none 0 0] 25) = w1 at *
  have hpI : (p : Int) < 64 := by omega
  obtain ⟨cT, fT, lT⟩ := kT.facts
  have hln := arrL_len r ls es h1 h2
  have hst := arr_store0 (arr_73 r ls es h1 h2) (arrL_one r ls es)
  go_enter Tryd.func33, Tryd.ntmps33
  go_wp2_with fail
  refine (open_ok r ls es _ p _ (hv.to hB1) hs (hL.below hB1) hE hp).mono ?_
  rintro e w2 ⟨rfl, hb2⟩
  have hw23 : w.heap.size + 1 < w2.heap.size := Nat.lt_of_lt_of_le kR.lt hb2.size
  have hq8 : p / 8 < 8 := by omega
  go_upto_region 2 with fail
  have kA := (Bk.new (w2) (arrL r ls es).toArray 69)
  have hB3 := balloc (Below.refl _ w2) (.cells (arrL r ls es).toArray 69)
  generalize hw_w3 : (w2).alloc (.cells (arrL r ls es).toArray 69) = w3 at *
  replace kR := (kR.to hb2).to hB3
  replace hB1 := bnext (bnext hB1 hb2) hB3
  clear hst cT fT lT hb2 hB3 hw_w1 hw_w3
  have lA := kA.lt
  have ce := arr_ent h1 h2 kA hp
  have hxs := getD_small hs p (by omega)
  have HK := Lib.hid (kind_any (es.getD p 0) w3 hxs (hUn p hp) (hL.below hB1))
  obtain ⟨x, hx⟩ : ∃ x, x = es.getD p 0 := ⟨_, rfl⟩
  rw [← hx] at ce HK hk0
  clear hx
  obtain ⟨kx, hkx⟩ : ∃ kx, kx = unpK x := ⟨_, rfl⟩
  rw [← hkx] at HK hk0
  clear hkx
  have d1 : (kx == 0) = false := by simpa using hk0
  clear hk0
  go_wp2_with (go_at_call 59; refine HK.out.mono ?_; rintro e w4 ⟨rfl, hb4⟩; replace kR := kR.to hb4; replace kA := kA.to hb4; replace hB1 := bnext hB1 hb4; clear ce lA; have ce := arr_ent h1 h2 kA hp; have fe := kA.frozen (9 + p); have lA := kA.lt)
  have kA2 := kA.put (9 + p) (.int .u64 ((0 : Nat) : Int))
  rw [arr_setent h1 p 0] at kA2
  have kR2 := kR.far (p := ⟨w2.heap.size, 9 + p, none⟩) (by show w.heap.size + 1 ≠ w2.heap.size; omega) (.int .u64 ((0 : Nat) : Int))
  have hB2 := hB1.setCell (p := ⟨w2.heap.size, 9 + p, none⟩) (by show w.heap.size ≤ w2.heap.size; omega) (.int .u64 ((0 : Nat) : Int))
  clear ce fe lA
  generalize hw5 : w4.setCell ⟨w2.heap.size, 9 + p, none⟩ (.int .u64 ((0 : Nat) : Int)) = w5 at *
  have hcz : ((0 : Nat) : Int) = 0 := rfl
  rw [hcz] at hw5
  have h2' : (es.set p 0).length = 64 := by simpa using h2
  have hs' : wsmall (es.set p 0) := wsmall_set hs p (by omega)
  have hU' := unp_set0 h2 hUn p
  obtain ⟨es', hes⟩ : ∃ es', es' = es.set p 0 := ⟨_, rfl⟩
  obtain ⟨q, hqq⟩ : ∃ q, q = p / 8 := ⟨_, rfl⟩
  rw [← hes] at kA2 h2' hs' hU'
  rw [← hqq] at hq8
  have HEQ := Lib.hid (And.intro hes hqq)
  clear hes
  have hR2 := release_arr r ls es' w2.heap.size q w5 h1 h2' hq8 hs' hU' kA2 (hL.below hB2)
  rw [hqq] at hR2
  clear hqq
  refine hR2.mono ?_
  rintro e w6 ⟨he6, kA6, hbs⟩
  replace kR2 : Bk w6 (w.heap.size + 1) _ _ := kR2.below hbs.1 (by omega)
  replace hB2 : Below w.heap.size w w6 := hB2.trans (hbs.1.mono (by omega))
  have HF : Hid (relF ls es' (p / 8) = relF ls (es.set p 0) (p / 8) ∧ relL ls es' (p / 8) = relL ls (es.set p 0) (p / 8)) := Lib.hid (by rw [HEQ.out.1]; exact ⟨rfl, rfl⟩)
  have h1' : (relL ls es' (p / 8)).length = 8 := by unfold relL; split <;> simp [h1]
  obtain ⟨fr, hfr⟩ : ∃ fr, fr = relF ls es' (p / 8) := ⟨_, rfl⟩
  obtain ⟨ls', hls'⟩ : ∃ ls', ls' = relL ls es' (p / 8) := ⟨_, rfl⟩
  rw [← hfr] at HF
  rw [← hls'] at HF kA6 h1'
  rw [← hfr] at he6
  subst he6
  clear hfr hls'
  dsimp only
  go_upto_region 8 with fail
  apply wp_region_lit
  refine wpList_load_arr h1' h2' kA6 rfl _ rfl rfl ?_
  go_frame
  go_wp2_with fail
  refine (table_any r ls' es' _ h1' h2').mono ?_
  rintro e w7 ⟨rfl, kB, hb6⟩
  have hw5 : w.heap.size + 1 < w6.heap.size := kR2.lt
  replace kR2 := kR2.to hb6
  replace hB2 := hB2.trans (hb6.mono hB2.size)
  obtain ⟨cR, fR, lR⟩ := kR2.facts
  go_wp2_with fail
  have kF := kR2.put3 (.int .i64 r) (.slice (some ⟨w6.heap.size, 1, none⟩) 8 8) (.slice (some ⟨w6.heap.size, 9, none⟩) 64 64)
  have kB2 := kB.far3 (g := w.heap.size + 1) (by omega) (.int .i64 r) (.slice (some ⟨w6.heap.size, 1, none⟩) 8 8) (.slice (some ⟨w6.heap.size, 9, none⟩) 64 64)
  have hBF := below_put3 hB2 (g := w.heap.size + 1) (by omega) (.int .i64 r) (.slice (some ⟨w6.heap.size, 1, none⟩) 8 8) (.slice (some ⟨w6.heap.size, 9, none⟩) 64 64)
  exact bodyPost_ret (kF.res3 (P := Tryd.prog) rfl _ rfl (by kernel_rfl) (by kernel_rfl)) rfl ⟨_, by rw [← HF.out.1]; rfl, by rw [← HF.out.2, ← HEQ.out.1]; exact arr_tbv h1' h2' kB2, TLoc.arr (by omega) _, hBF⟩

theorem TClearL_any (r : Int) (ls : List Int) (es : List Nat) (v : Value) (page : Int) (w : World) (hv : TbV w v (r, ls, es)) (hs : wsmall es) (hL : LayOK w) :
    Calls Tryd.prog 33 #[v, .int .i64 page] w fun e w' => TbRes3L w w' (clearR r ls es page).1 (clearR r ls es page).2.1 (clearR r ls es page).2.2 e := by
  by_cases h : askE r ls es page = 0
  · obtain ⟨h1, p, rfl, hp⟩ := ask_zero h
    by_cases hk : unpK (es.getD p 0) = 0
    · have hE : clearE r ls es p = 6 := by unfold clearE; rw [orE_r _ h, Int.toNat_natCast, if_pos hk]
      have hR : clearR r ls es p = (tb0, 0, 6) := by unfold clearR; rw [if_pos (by omega), hE]
      rw [hR]
      exact TClear_bad2 r ls es v p w hv hs hL h1 hp hk
    · have hE : clearE r ls es p = 0 := by unfold clearE; rw [orE_r _ h, Int.toNat_natCast, if_neg hk]
      have hR : clearR r ls es p = ((r, relL ls (es.set p 0) (p / 8), es.set p 0), relF ls (es.set p 0) (p / 8), 0) := by
        unfold clearR relL relF
        rw [if_neg (by omega), Int.toNat_natCast]
        rcases emptyB (es.set p 0) (p / 8) with _ | _ <;> rfl
      rw [hR]
      exact TClear_ok r ls es v p w hv hs hL h1 hp hk
  · have hE : clearE r ls es page = askE r ls es page := by unfold clearE; rw [orE_l _ h]
    have hR : clearR r ls es page = (tb0, 0, askE r ls es page) := by unfold clearR; rw [if_pos (by rw [hE]; exact h), hE]
    rw [hR]
    exact TClear_bad1 r ls es v page w hv hs hL h
theorem TClear_any (r : Int) (ls : List Int) (es : List Nat) (v : Value) (page : Int) (w : World) (hv : TbV w v (r, ls, es)) (hs : wsmall es) (hL : LayOK w) :
    Calls Tryd.prog 33 #[v, .int .i64 page] w fun e w' => TbRes3 w w' (clearR r ls es page).1 (clearR r ls es page).2.1 (clearR r ls es page).2.2 e :=
  (TClearL_any r ls es v page w hv hs hL).mono fun _ _ ⟨v, h1, h2, _, h4⟩ => ⟨v, h1, h2, h4⟩
end Go.Proofs.YtnmknbnidfmmoaaDoor
