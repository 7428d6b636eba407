/- What the reference of chapter 27 returns: Map. -/
import Derived.Test.YtpkgfkhaiifooaaGreatDoorMp27
import Derived.Test.YtpkgfkhaiifooaaGreatDoorSpR
import Derived.Test.YtpkgfkhaiifooaaGreatDoorSpQ
import Derived.Test.YtpkgfkhaiifooaaGreatDoorRgG
namespace Go.Proofs.YtpkgfkhaiifooaaGreatDoor
open Go Go.Proofs Go.RowKit
set_option linter.unusedSimpArgs false
set_option linter.unusedVariables false
set_option maxRecDepth 100000

theorem rd_ltM {w : World} {sz n : Nat} {A : Option Addr} {xs : List Value} (h : Rd w sz A n xs) : ∀ b off, 0 < n → A = some ⟨b, off, none⟩ → b < w.heap.size := fun b off h0 he => by
  obtain ⟨b', off', e', hb', _⟩ := h.2 h0
  rw [he] at e'
  injection e' with e'
  injection e' with e'
  omega
set_option maxHeartbeats 4000000 in
theorem rSpMap_any (rs : List (Int × Int)) (r : Int) (ls : List Int) (es : List Nat) (v : Value) (a b most : Int) (w : World) (hv : SpV w v (rs, r, ls, es)) (hn : rs.length ≤ 1000) (hs : wsmall es) :
    Calls Tryz.prog 8 #[v, .int .i64 a, .int .i64 b, .int .i64 most] w fun e w' => SpResL w w' (mapS (rs, r, ls, es) a b most).1 (mapS (rs, r, ls, es) a b most).2 e := by
  obtain ⟨A, c, L, cl, B, d, hve, hA, hLs, hB, hcc⟩ := id hv
  subst hve
  unfold spcV at hv ⊢
  simp only at hv ⊢ hA hLs hB hcc
  have kS := (Bk.new w #[.slice A rs.length c, .int .i64 r, .slice L ls.length cl, .slice B es.length d] 28).alloc (.cells #[.slice none 0 0, .int .i64 0, .slice none 0 0, .slice none 0 0] 28)
  have kR := Bk.new (w.alloc (.cells #[.slice A rs.length c, .int .i64 r, .slice L ls.length cl, .slice B es.length d] 28)) #[.slice none 0 0, .int .i64 0, .slice none 0 0, .slice none 0 0] 28
  simp only [World.size_alloc] at kR
  have hB1 := balloc (balloc (Below.refl _ w) (.cells #[.slice A rs.length c, .int .i64 r, .slice L ls.length cl, .slice B es.length d] 28)) (.cells #[.slice none 0 0, .int .i64 0, .slice none 0 0, .slice none 0 0] 28)
  generalize hw1 : (w.alloc (.cells #[.slice A rs.length c, .int .i64 r, .slice L ls.length cl, .slice B es.length d] 28)).alloc (.cells #[.slice none 0 0, .int .i64 0, .slice none 0 0, .slice none 0 0] 28) = w1 at *
  have HC := Lib.hid (rSpCheck_any rs r ls es _ _ (hv.to hB1) (by omega) hs)
  obtain ⟨cS, fS, lS⟩ := kS.facts
  obtain ⟨cR, fR, lR⟩ := kR.facts
  by_cases hE : spcE (rs, r, ls, es) = 0
  case neg =>
    have hR : mapS (rs, r, ls, es) a b most = (sp0, spcE (rs, r, ls, es)) := by unfold mapS; rw [if_pos hE]
    rw [hR]
    have hd : (spcE (rs, r, ls, es) != 0) = true := by simpa using hE
    generalize spcE (rs, r, ls, es) = z at *
    clear hR hE
    go_enter Tryz.func8, Tryz.ntmps8
    go_wp2_with (go_at_call 23; refine HC.out.mono ?_; rintro e w2 ⟨rfl, hb2⟩; clear cS fS lS cR fR lR; obtain ⟨cR, fR, lR⟩ := (kR.to hb2).facts)
    have kF := (kR.to hb2).put4 (.slice none 0 0) (.int .i64 0) (.slice none 0 0) (.slice none 0 0)
    have hBF := below_put4 (bnext hB1 hb2) (g := w.heap.size + 1) (by omega) (.slice none 0 0) (.int .i64 0) (.slice none 0 0) (.slice none 0 0)
    exact bodyPost_ret (kF.res2 (P := Tryz.prog) rfl _ rfl (by kernel_rfl) (by kernel_rfl)) rfl ⟨_, rfl, SpV.zero _, SLoc.zero _, hBF⟩
  obtain ⟨hg, hT, _⟩ := spc_zero hE
  simp only at hg hT
  have H8 := Lib.hid (tab_zero hT).1
  have H64 := Lib.hid (tab_zero hT).2.1
  rw [hE] at HC
  have HU := Lib.hid (fun W h => rMap_any A rs.length c rs a b most W h (by omega))
  by_cases hz : (mapR rs a b most).2 = 0
  case neg =>
    have hR : mapS (rs, r, ls, es) a b most = (sp0, (mapR rs a b most).2) := by unfold mapS; rw [if_neg (by simpa using hE), if_pos hz]
    rw [hR]
    have hd : ((mapR rs a b most).2 != 0) = true := by simpa using hz
    generalize mapR rs a b most = u at *
    clear hR hE hz
    go_enter Tryz.func8, Tryz.ntmps8
    go_wp2_with (first
      | (go_at_call 23; refine HC.out.mono ?_; rintro e w2 ⟨rfl, hb2⟩; clear cS fS lS cR fR lR; obtain ⟨cR, fR, lR⟩ := (kR.to hb2).facts; obtain ⟨cS, fS, lS⟩ := (kS.to hb2).facts)
      | (go_at_call 24; refine (HU.out _ (hA.below (bnext hB1 hb2) (Nat.le_refl _))).mono ?_; rintro e w3 ⟨v3, rfl, hr3, hb3⟩; clear cS fS lS cR fR lR; obtain ⟨cR, fR, lR⟩ := ((kR.to hb2).to hb3).facts))
    have kF := ((kR.to hb2).to hb3).put4 (.slice none 0 0) (.int .i64 0) (.slice none 0 0) (.slice none 0 0)
    have hBF := below_put4 (bnext (bnext hB1 hb2) hb3) (g := w.heap.size + 1) (by omega) (.slice none 0 0) (.int .i64 0) (.slice none 0 0) (.slice none 0 0)
    exact bodyPost_ret (kF.res2 (P := Tryz.prog) rfl _ rfl (by kernel_rfl) (by kernel_rfl)) rfl ⟨_, rfl, SpV.zero _, SLoc.zero _, hBF⟩
  have hR : mapS (rs, r, ls, es) a b most = (((mapR rs a b most).1, (r, ls, es)), 0) := by unfold mapS; rw [if_neg (by simpa using hE), if_neg (by simpa using hz)]
  rw [hR]
  rw [hz] at HU
  clear hR hE hz
  generalize (mapR rs a b most).1 = rs' at *
  have HOw := Lib.hid (fun v W h => rSpOwn_any rs r ls es v W h (by omega) (by have := H8.out; omega) (by have := H64.out; omega))
  go_enter Tryz.func8, Tryz.ntmps8
  go_wp2_with fail
  refine HC.out.mono ?_
  rintro e w2 ⟨rfl, hb2⟩
  clear cS fS lS cR fR lR hw1
  replace kS := kS.to hb2
  replace kR := kR.to hb2
  replace hB1 := bnext hB1 hb2
  have hkR := kR.lt
  clear hb2 HC
  obtain ⟨cS, fS, lS⟩ := kS.facts
  go_wp2_with fail
  refine (HU.out _ (hA.below hB1 (Nat.le_refl _))).mono ?_
  rintro e w3 ⟨v3, rfl, hr3, hb3⟩
  obtain ⟨A3, c3, rfl, hrd3⟩ := own_slice hr3
  have hlo3 := own_loc2 hr3
  clear cS fS lS
  replace kS := kS.to hb3
  replace kR := kR.to hb3
  replace hB1 := bnext hB1 hb3
  have hs23 := hb3.size
  clear hb3 HU
  obtain ⟨cS, fS, lS⟩ := kS.facts
  go_wp2_with fail
  refine (HOw.out _ _ (hv.to hB1)).mono ?_
  rintro e w4 ⟨v4, rfl, hv4, hl4, hb4⟩
  obtain ⟨AO, cO, LO, clO, BO, dO, rfl, hAO, hLO, hBO, hcO⟩ := id hv4
  obtain ⟨m1, m2, m3⟩ := hl4 _ _ _ _ _ _ _ _ _ _ rfl
  simp only [spcV] at hv4 hl4 hAO hLO hBO hcO m1 m2 m3 ⊢
  clear cS fS lS kS
  replace kR := kR.to hb4
  replace hB1 := bnext hB1 hb4
  have hRl := rd_ltM hrd3
  have hrd := (hrd3.below hb4 (Nat.le_refl _))
  clear hr3 hrd3
  have hs34 := hb4.size
  have hLl := rd_ltM hLO
  have hBl := rd_ltM hBO
  clear hb4 HOw
  go_upto_region 8 with fail
  have kO := Bk.new w4 #[.slice AO rs.length cO, .int .i64 r, .slice LO ls.length clO, .slice BO es.length dO] 28
  have hcN := balloc (Below.refl _ w4) (.cells #[.slice AO rs.length cO, .int .i64 r, .slice LO ls.length clO, .slice BO es.length dO] 28)
  have hsO : (w4.alloc (.cells #[.slice AO rs.length cO, .int .i64 r, .slice LO ls.length clO, .slice BO es.length dO] 28)).heap.size = w4.heap.size + 1 := by simp
  generalize w4.alloc (.cells #[.slice AO rs.length cO, .int .i64 r, .slice LO ls.length clO, .slice BO es.length dO] 28) = w5 at *
  replace kR := kR.to hcN
  replace hB1 := bnext hB1 hcN
  replace hrd := hrd.below hcN (Nat.le_refl _)
  replace hLO := hLO.below hcN (Nat.le_refl _)
  replace hBO := hBO.below hcN (Nat.le_refl _)
  clear hcN hv4 hl4
  obtain ⟨q, hq⟩ : ∃ q, q = w4.heap.size := ⟨_, rfl⟩
  rw [← hq] at kO hsO hs34 hLl hBl ⊢
  clear hq
  obtain ⟨cO', fO, lO⟩ := kO.facts
  go_upto_region 9 with fail
  clear cO' fO lO
  replace kR := kR.far (p := ⟨q, 0, none⟩) (by show w.heap.size + 1 ≠ q; omega) (.slice A3 rs'.length c3)
  replace hrd := hrd.far (p := ⟨q, 0, none⟩) (fun b off h0 e => by have := hRl b off h0 e; show b ≠ q; omega) (.slice A3 rs'.length c3)
  replace hLO := hLO.far (p := ⟨q, 0, none⟩) (fun b off h0 e => by have := hLl b off h0 e; show b ≠ q; omega) (.slice A3 rs'.length c3)
  replace hBO := hBO.far (p := ⟨q, 0, none⟩) (fun b off h0 e => by have := hBl b off h0 e; show b ≠ q; omega) (.slice A3 rs'.length c3)
  replace hB1 := hB1.setCell (p := ⟨q, 0, none⟩) (by show w.heap.size ≤ q; omega) (.slice A3 rs'.length c3)
  replace kO := kO.put 0 (.slice A3 rs'.length c3)
  simp only [List.setIfInBounds_toArray, List.set_cons_zero] at kO
  generalize w5.setCell ⟨q, 0, none⟩ (.slice A3 rs'.length c3) = w6 at *
  obtain ⟨cO', fO, lO⟩ := kO.facts
  obtain ⟨cR, fR, lR⟩ := kR.facts
  go_wp2_with fail
  have kF := kR.put4 (.slice A3 rs'.length c3) (.int .i64 r) (.slice LO ls.length clO) (.slice BO es.length dO)
  have hBF := below_put4 hB1 (g := w.heap.size + 1) (by omega) (.slice A3 rs'.length c3) (.int .i64 r) (.slice LO ls.length clO) (.slice BO es.length dO)
  have hsp : SpV w6 (.agg #[.slice A3 rs'.length c3, .int .i64 r, .slice LO ls.length clO, .slice BO es.length dO]) (rs', r, ls, es) := ⟨A3, c3, LO, clO, BO, dO, rfl, hrd, hLO, hBO, hcO⟩
  have hsl : SLoc w2.heap.size (.agg #[.slice A3 rs'.length c3, .int .i64 r, .slice LO ls.length clO, .slice BO es.length dO]) := SLoc.mk (fun b off h0 e => by have := hlo3 b off _ e; omega) (fun b off h0 e => by have := m2 b off h0 e; omega) (fun b off h0 e => by have := m3 b off h0 e; omega)
  have hvF := spv_put4 hsp hsl hkR (.slice A3 rs'.length c3) (.int .i64 r) (.slice LO ls.length clO) (.slice BO es.length dO)
  exact bodyPost_ret (kF.res2 (P := Tryz.prog) rfl _ rfl (by kernel_rfl) (by kernel_rfl)) rfl ⟨_, rfl, hvF, hsl.mono (by omega), hBF⟩
end Go.Proofs.YtpkgfkhaiifooaaGreatDoor
