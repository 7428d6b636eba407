/- Page tables: Trim. -/
import Derived.Test.YtnmknbnidfmmoaaDoorTab16
namespace Go.Proofs.YtnmknbnidfmmoaaDoor
open Go Go.Proofs Go.RowKit
set_option linter.unusedSimpArgs false
set_option linter.unusedVariables false
set_option maxRecDepth 100000

/-- A table, numbers and an error that a call returned. -/
def TrRes (w w' : World) (t : Tb) (zs : List Int) (er : Int) (e : Ending) : Prop := ∃ v u, e = .returned (.tuple #[v, u, .int .i64 er]) ∧ TbV w' v t ∧ IsV w' u zs ∧ Below w.heap.size w w'
/-- Where the numbers of a row lie. -/
def ILoc (lo : Nat) (v : Value) : Prop := ∀ A n c, v = .slice A n c → ∀ b off, 0 < n → A = some ⟨b, off, none⟩ → lo ≤ b
theorem ILoc.nil (lo : Nat) : ILoc lo (.slice none 0 0) := by
  intro A n c e b off hn hA
  injection e with e1 e2 e3
  omega
theorem ILoc.own {w : World} {B : Nat} {e : TypeId} {sz n : Nat} {v : Value} {xs : List Value} (h : w.ownsRow B e sz v n xs) {lo : Nat} (hlo : lo ≤ B) : ILoc lo v := by
  intro A m c ev b off hm hA
  subst ev hA
  rcases h.2 with ⟨h0, _⟩ | ⟨g2, cap2, cur, h1, _⟩
  · injection h0 with _ h0 _; omega
  · injection h1 with h1 h2 h3
    injection h1 with h1
    injection h1 with h1 h4 h5
    subst h1 h2 h3 h4
    have := (h.lt b rfl).1
    omega
def TrResL (w w' : World) (t : Tb) (zs : List Int) (er : Int) (e : Ending) : Prop := ∃ v u, e = .returned (.tuple #[v, u, .int .i64 er]) ∧ TbV w' v t ∧ IsV w' u zs ∧ TLoc w.heap.size v ∧ ILoc w.heap.size u ∧ Below w.heap.size w w'
theorem own_put3 {w : World} {B g : Nat} {e : TypeId} {sz n : Nat} {v : Value} {xs : List Value} (h : w.ownsRow B e sz v n xs) (hg : g < B) (x y z : Value) : (((w.setCell ⟨g, 0, none⟩ x).setCell ⟨g, 1, none⟩ y).setCell ⟨g, 2, none⟩ z).ownsRow B e sz v n xs :=
  own_far (p := ⟨g, 2, none⟩) (own_far (p := ⟨g, 1, none⟩) (own_far (p := ⟨g, 0, none⟩) h hg x) hg y) hg z
theorem trimL_len (ls : List Int) (es : List Nat) (n : Nat) : (trimL ls es n).length = ls.length := by
  induction n with
  | zero => rfl
  | succ n ih => unfold trimL; split <;> simp [ih]
theorem trimL_get (ls : List Int) (es : List Nat) (n j : Nat) (h : n ≤ j) : (trimL ls es n).getD j 0 = ls.getD j 0 := by
  induction n with
  | zero => rfl
  | succ n ih =>
    have := ih (by omega)
    unfold trimL
    split
    · rw [← this, List.getD_eq_getElem?_getD, List.getD_eq_getElem?_getD, List.getElem?_set, if_neg (by omega)]
    · exact this
theorem set_same (l : List Int) (q : Nat) (x : Int) (h : l.getD q 0 = x) (hq : q < l.length) : l.set q x = l := by
  rw [List.getD_eq_getElem?_getD, List.getElem?_eq_getElem hq] at h
  subst h
  exact List.set_getElem_self hq
theorem trim_relL (ls : List Int) (es : List Nat) (k : Nat) (hk : k < ls.length) : relL (trimL ls es k) es k = trimL ls es (k + 1) := by
  have hg := trimL_get ls es k k (Nat.le_refl _)
  have e1 : trimL ls es (k + 1) = if goneB ls es k then (trimL ls es k).set k (-1) else trimL ls es k := rfl
  rw [e1]
  unfold relL goneB
  rcases emptyB es k with _ | _
  · simp
  · by_cases h : ls.getD k 0 = -1
    · have h2 := set_same (trimL ls es k) k (-1) (by rw [hg, h]) (by rw [trimL_len]; exact hk)
      rw [h2]
      simp
    · have : decide (ls.getD k 0 ≠ -1) = true := by simpa using h
      rw [this]
      rfl
theorem trim_relF (ls : List Int) (es : List Nat) (k : Nat) : relF (trimL ls es k) es k = if goneB ls es k then ls.getD k 0 else -1 := by
  unfold relF goneB
  rw [trimL_get ls es k k (Nat.le_refl _)]
  rcases emptyB es k with _ | _
  · simp
  · by_cases h : ls.getD k 0 = -1
    · rw [h]; simp
    · have : decide (ls.getD k 0 ≠ -1) = true := by simpa using h
      rw [this]
      rfl
theorem trimG_succ (ls : List Int) (es : List Nat) (k : Nat) : trimG ls es (k + 1) = trimG ls es k ++ (if goneB ls es k then [ls.getD k 0] else []) := by
  unfold trimG
  rw [List.range_succ, List.filter_append, List.map_append]
  congr 1
  rcases h : goneB ls es k with _ | _
  · rw [List.filter_cons_of_neg (by simp [h])]; rfl
  · rw [List.filter_cons_of_pos h]; rfl
theorem trimG_len (ls : List Int) (es : List Nat) (k : Nat) : (trimG ls es k).length ≤ k := by
  unfold trimG
  have := List.length_filter_le (goneB ls es) (List.range k)
  simp at this ⊢
  omega
theorem own_beside {w w' : World} {b B : Nat} {e : TypeId} {sz n : Nat} {v : Value} {xs : List Value} (h : w.ownsRow B e sz v n xs) (hb : Beside b w w') (hB : b < B) : w'.ownsRow B e sz v n xs := by
  refine ⟨h.1, ?_⟩
  rcases h.2 with hn | ⟨g, cap, cur, hv, hbg, hg, rest⟩
  · exact .inl hn
  · exact .inr ⟨g, cap, cur, hv, hbg, (hb.2 g (Array.getElem?_eq_some_iff.1 hg).1 (by omega)).trans hg, rest⟩

set_option maxHeartbeats 1000000 in
theorem TTrim_bad (r : Int) (ls : List Int) (es : List Nat) (v : Value) (w : World) (hv : TbV w v (r, ls, es)) (hs : wsmall es) (hL : LayOK w) (hE : tabE r ls es ≠ 0) :
    Calls Tryd.prog 35 #[v] w fun e w' => TrResL w w' tb0 [] (tabE r ls es) e := by
  obtain ⟨A, c, B, d, rfl, hA, hB, hcc⟩ := id hv
  simp only at hA hB hcc
  unfold tabV at hv ⊢
  simp only at hv ⊢
  have kT := ((Bk.new (w) #[.int .i64 r, .slice A ls.length c, .slice B es.length d] 25).alloc (.cells #[.int .i64 0, .slice none 0 0, .slice none 0 0] 25))
  have kR := (Bk.new (w.alloc (.cells #[.int .i64 r, .slice A ls.length c, .slice B es.length d] 25)) #[.int .i64 0, .slice none 0 0, .slice none 0 0] 25)
  rw [World.size_alloc] at kR
  have hB1 := balloc (balloc (Below.refl _ w) (.cells #[.int .i64 r, .slice A ls.length c, .slice B es.length d] 25)) (.cells #[.int .i64 0, .slice none 0 0, .slice none 0 0] 25)
  generalize hw_w1 : (w.alloc (.cells #[.int .i64 r, .slice A ls.length c, .slice B es.length d] 25)).alloc (.cells #[.int .i64 0, .slice none 0 0, .slice none 0 0] 25) = w1 at *
  have hd : (tabE r ls es != 0) = true := by simpa using hE
  obtain ⟨cT, fT, lT⟩ := kT.facts
  go_enter Tryd.func35, Tryd.ntmps35
  go_wp2_with fail
  refine (TCheck_any r ls es _ _ (hv.to hB1) hs (hL.below hB1)).mono ?_
  rintro e w2 ⟨rfl, hb2⟩
  replace kR := kR.to hb2
  replace hB1 := bnext hB1 hb2
  clear cT fT lT
  replace kT := kT.to hb2
  obtain ⟨cT, fT, lT⟩ := kT.facts
  obtain ⟨cR, fR, lR⟩ := kR.facts
  go_wp2_with fail
  have kF := kR.put3 (.int .i64 0) (.slice none 0 0) (.slice none 0 0)
  have hBF := below_put3 hB1 (g := w.heap.size + 1) (by omega) (.int .i64 0) (.slice none 0 0) (.slice none 0 0)
  exact bodyPost_ret (kF.res3 (P := Tryd.prog) rfl _ rfl (by kernel_rfl) (by kernel_rfl)) rfl ⟨_, _, rfl, TbV.zero _, IsV.nil _, TLoc.zero _ _, ILoc.nil _, hBF⟩

set_option maxHeartbeats 4000000 in
theorem TTrim_ok (r : Int) (ls : List Int) (es : List Nat) (v : Value) (w : World) (hv : TbV w v (r, ls, es)) (hs : wsmall es) (hL : LayOK w) (hE : tabE r ls es = 0) :
    Calls Tryd.prog 35 #[v] w fun e w' => TrResL w w' (r, trimL ls es 8, es) (trimG ls es 8) 0 e := by
  have hlay0 : 0 < w.heap.size := hL.lt
  obtain ⟨h1, h2, hR, hLs, hDu, hSt, hUn, hMi⟩ := tab_zero hE
  obtain ⟨A, c, B, d, rfl, hA, hB, hcc⟩ := id hv
  simp only at hA hB hcc
  unfold tabV at hv ⊢
  simp only at hv ⊢
  rw [h1, h2] at hv ⊢
  rw [h1] at hA hcc
  rw [h2] at hB
  have kT := ((Bk.new (w) #[.int .i64 r, .slice A 8 c, .slice B 64 d] 25).alloc (.cells #[.int .i64 0, .slice none 0 0, .slice none 0 0] 25))
  have kR := (Bk.new (w.alloc (.cells #[.int .i64 r, .slice A 8 c, .slice B 64 d] 25)) #[.int .i64 0, .slice none 0 0, .slice none 0 0] 25)
  rw [World.size_alloc] at kR
  have hB1 := balloc (balloc (Below.refl _ w) (.cells #[.int .i64 r, .slice A 8 c, .slice B 64 d] 25)) (.cells #[.int .i64 0, .slice none 0 0, .slice none 0 0] 25)
  generalize hw_w1 : (w.alloc (.cells #[.int .i64 r, .slice A 8 c, .slice B 64 d] 25)).alloc (.cells #[.int .i64 0, .slice none 0 0, .slice none 0 0] 25) = w1 at *
  obtain ⟨i0, hi, hz0, hz1, hz2⟩ := info_parts infoInt
  obtain ⟨cT, fT, lT⟩ := kT.facts
  have hln := arrL_len r ls es h1 h2
  have hst := arr_store0 (arr_73 r ls es h1 h2) (arrL_one r ls es)
  go_enter Tryd.func35, Tryd.ntmps35
  go_wp2_with fail
  refine (TCheck_any r ls es _ _ (hv.to hB1) hs (hL.below hB1)).mono ?_
  rw [hE]
  rintro e w2 ⟨rfl, hb2⟩
  replace kR := kR.to hb2
  replace hB1 := bnext hB1 hb2
  clear cT fT lT
  replace kT := kT.to hb2
  obtain ⟨cT, fT, lT⟩ := kT.facts
  obtain ⟨cR, fR, lR⟩ := kR.facts
  go_wp2_with fail
  refine (load_any r A B c d ls es _ h1 h2 (hA.below hB1 (Nat.le_refl _)) (hB.below hB1 (Nat.le_refl _))).mono ?_
  rintro e w3 ⟨rfl, hb3⟩
  replace kR := kR.to hb3
  replace hB1 := bnext hB1 hb3
  have hw13 : w.heap.size + 1 < w3.heap.size := kR.lt
  clear cT fT lT cR fR lR kT
  go_upto_region 5 with fail
  have kA := (Bk.new (w3) (arrL r ls es).toArray 69)
  have hB4 := balloc (Below.refl _ w3) (.cells (arrL r ls es).toArray 69)
  generalize hw_w4 : (w3).alloc (.cells (arrL r ls es).toArray 69) = w4 at *
  have hs4 : w4.heap.size = w3.heap.size + 1 := by rw [← hw_w4]; simp
  replace kR := kR.to hB4
  replace hB1 := bnext hB1 hB4
  replace hL := hL.below hB1
  have hlay : 0 < w3.heap.size := by have := hlay0; omega
  clear hst hw_w1 hw_w4 hB4 hb3 hb2 hA hB hv
  go_wp2_with fail
  go_loopw [7, 18] (fun v i wr => ∃ k : Nat, k ≤ 8 ∧ i = .int .i64 k ∧ wr.ownsRow w4.heap.size 3 1 v (trimG ls es k).length (iw (trimG ls es k)) ∧ Bk wr w3.heap.size (arrL r (trimL ls es k) es).toArray 69 ∧ Below w3.heap.size w4 wr) (fun _ i _ => 8 - (intOf i).toNat)
  case atStart => exact ⟨0, by omega, rfl, World.ownsRow_nil _ _ _ _, kA, Below.refl _ _⟩
  case round =>
    obtain ⟨k, hk, rfl, hown, kAk, hBx⟩ := hrel
    have h1k : (trimL ls es k).length = 8 := by rw [trimL_len, h1]
    by_cases hlt : k < 8
    · have hLr : LayOK wr := fun j hj => (hBx.cell (p := ⟨0, j, none⟩) (show 0 < w3.heap.size by have := hlay; omega)).trans (hL j hj)
      have hR2 := release_arr r (trimL ls es k) es w3.heap.size k wr h1k h2 hlt hs hUn kAk hLr
      unfold RelPost at hR2
      rw [trim_relL ls es k (by omega), trim_relF] at hR2
      have HG := Lib.hid (trimG_succ ls es k)
      have hgl := trimG_len ls es k
      have hzz := (hLs k hlt).1
      obtain ⟨z, hz⟩ : ∃ z, z = ls.getD k 0 := ⟨_, rfl⟩
      rw [← hz] at hR2 HG
      have hzg : goneB ls es k = true → z ≠ -1 := by
        intro hg
        unfold goneB at hg
        simp only [Bool.and_eq_true, decide_eq_true_eq] at hg
        rw [hz]
        exact hg.1
      clear hz
      rcases hgo : goneB ls es k with _ | _
      · rw [hgo] at hR2 HG
        simp only [Bool.false_eq_true, if_false, List.append_nil] at hR2 HG
        clear hgo hzg
        go_wp2_with (go_at_call 60; refine hR2.mono ?_; rintro e w5 ⟨rfl, kA5, hbs⟩)
        go_roundw
        case rel => exact ⟨k + 1, by omega, by go_num, by rw [HG.out]; exact own_beside hown hbs (by omega), kA5, hBx.trans hbs.1⟩
        case measure => simp [intOf]; omega
      · rw [hgo] at hR2 HG
        simp only [if_true] at hR2 HG
        have d1 : (z != -1) = true := by simpa using hzg hgo
        clear hgo hzg
        go_wp2_with (first
          | (go_at_call 60; refine hR2.mono ?_; rintro e w5 ⟨rfl, kA5, hbs⟩; have hown5 := own_beside hown hbs (show w3.heap.size < w4.heap.size by omega); have hBx5 : Below w3.heap.size w4 w5 := hBx.trans hbs.1)
          | (at_builtin; refine wpList_append_own _ rfl _ _ 22 rfl w4.heap.size 3 i0 (.int .i64 0) 1 8 Tryd.underlying22 hi hz0 hz1 hz2 rfl (by decide) _ _ _ rfl (hown5.alloc _) ⟨w5.heap.size, 0, none⟩ 1 1 [.int .i64 z] rfl rfl (cell_one_new _ _ _) (by simp [Value.oneCell']) (by simp only [maxLen]; omega) (by omega) (by have := hBx5.size; simp; omega) ?_; intro v' w9 hown' hgrow _))
        have hown2 : w9.ownsRow w4.heap.size 3 1 v' (trimG ls es (k + 1)).length (iw (trimG ls es (k + 1))) := by
          rw [HG.out]; simpa [iw] using hown'
        have hs5 := hBx5.size
        have hBx2 : Below w3.heap.size w4 w9 := (hBx5.alloc (by omega) _).grown hgrow (by simp; omega) (fun q e => by have := (hown5.lt q e).1; omega)
        have kA9 : Bk w9 w3.heap.size (arrL r (trimL ls es (k + 1)) es).toArray 69 :=
          (hgrow.block w3.heap.size (by simp; omega) (fun e' => by have := (hown5.lt _ e'.symm).1; omega)).trans (kA5.alloc _)
        clear hown' hgrow hown5 hown hBx5 hBx
        go_wp2_with fail
        go_roundw
        case rel => first | exact ⟨k + 1, by omega, by go_num, hown2, kA9, hBx2⟩ | ((repeat apply Exists.intro); exact ⟨⟨k + 1, by omega, by go_num, hown2, kA9, hBx2⟩, rfl⟩)
        case measure => simp [intOf]; omega
    · obtain rfl : k = 8 := by omega
      have kR2 : Bk wr (w.heap.size + 1) _ _ := kR.below hBx (by omega)
      have hB2 : Below w.heap.size w wr := hB1.trans (hBx.mono (by omega))
      have h1' := h1k
      have h2' := h2
      obtain ⟨ls', hls'⟩ : ∃ ls', ls' = trimL ls es 8 := ⟨_, rfl⟩
      obtain ⟨gs, hgs⟩ : ∃ gs, gs = trimG ls es 8 := ⟨_, rfl⟩
      rw [← hls'] at kAk h1'
      rw [← hgs] at hown
      have HL := Lib.hid (And.intro hls' hgs)
      have Hown := Lib.hid hown
      clear hls' hgs hown
      go_upto_region 13 with fail
      apply wp_region_lit
      refine wpList_load_arr h1' h2' kAk rfl _ rfl rfl ?_
      go_frame
      go_wp2_with fail
      refine (table_any r ls' es _ h1' h2').mono ?_
      rintro e w6 ⟨rfl, kB, hb6⟩
      have hw5 : w.heap.size + 1 < wr.heap.size := kR2.lt
      replace kR2 := kR2.to hb6
      replace hB2 := hB2.trans (hb6.mono hB2.size)
      obtain ⟨cR, fR, lR⟩ := kR2.facts
      go_wp2_with fail
      have kF := kR2.put3 (.int .i64 r) (.slice (some ⟨wr.heap.size, 1, none⟩) 8 8) (.slice (some ⟨wr.heap.size, 9, none⟩) 64 64)
      have kB2 := kB.far3 (g := w.heap.size + 1) (by omega) (.int .i64 r) (.slice (some ⟨wr.heap.size, 1, none⟩) 8 8) (.slice (some ⟨wr.heap.size, 9, none⟩) 64 64)
      have hBF := below_put3 hB2 (g := w.heap.size + 1) (by omega) (.int .i64 r) (.slice (some ⟨wr.heap.size, 1, none⟩) 8 8) (.slice (some ⟨wr.heap.size, 9, none⟩) 64 64)
      have hownF := own_put3 (own_below Hown.out hb6) (show w.heap.size + 1 < w4.heap.size by omega) (.int .i64 r) (.slice (some ⟨wr.heap.size, 1, none⟩) 8 8) (.slice (some ⟨wr.heap.size, 9, none⟩) 64 64)
      exact bodyPost_ret (kF.res3 (P := Tryd.prog) rfl _ rfl (by kernel_rfl) (by kernel_rfl)) rfl ⟨_, _, rfl, by rw [← HL.out.1]; exact arr_tbv h1' h2' kB2, by rw [← HL.out.2]; exact IsV.own hownF, TLoc.arr (by omega) _, ILoc.own hownF (by omega), hBF⟩

theorem TTrimL_any (r : Int) (ls : List Int) (es : List Nat) (v : Value) (w : World) (hv : TbV w v (r, ls, es)) (hs : wsmall es) (hL : LayOK w) :
    Calls Tryd.prog 35 #[v] w fun e w' => TrResL w w' (trimR r ls es).1 (trimR r ls es).2.1 (trimR r ls es).2.2 e := by
  unfold trimR
  by_cases h : tabE r ls es = 0
  · rw [if_neg (by simp [h])]
    exact TTrim_ok r ls es v w hv hs hL h
  · rw [if_pos h]
    exact TTrim_bad r ls es v w hv hs hL h
theorem TTrim_any (r : Int) (ls : List Int) (es : List Nat) (v : Value) (w : World) (hv : TbV w v (r, ls, es)) (hs : wsmall es) (hL : LayOK w) :
    Calls Tryd.prog 35 #[v] w fun e w' => TrRes w w' (trimR r ls es).1 (trimR r ls es).2.1 (trimR r ls es).2.2 e :=
  (TTrimL_any r ls es v w hv hs hL).mono fun _ _ ⟨v, u, h1, h2, h3, _, _, h4⟩ => ⟨v, u, h1, h2, h3, h4⟩
end Go.Proofs.YtnmknbnidfmmoaaDoor
