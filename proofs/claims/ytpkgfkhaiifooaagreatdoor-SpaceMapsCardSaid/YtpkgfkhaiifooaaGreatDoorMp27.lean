/- What space.Map returns. -/
import Derived.Test.YtpkgfkhaiifooaaGreatDoorSpT
import Derived.Test.YtpkgfkhaiifooaaGreatDoorSpS
import Derived.Test.YtpkgfkhaiifooaaGreatDoorSpC
import Derived.Test.YtpkgfkhaiifooaaGreatDoorSpM
import Derived.Test.YtpkgfkhaiifooaaGreatDoorGD
namespace Go.Proofs.YtpkgfkhaiifooaaGreatDoor
open Go Go.Proofs Go.RowKit
set_option linter.unusedSimpArgs false
set_option linter.unusedVariables false
set_option maxRecDepth 100000

/-- What Map returns. -/
def mapS (s : Sp) (a b most : Int) : Sp × Int :=
  if spcE s ≠ 0 then (sp0, spcE s)
  else if (mapR s.1 a b most).2 ≠ 0 then (sp0, (mapR s.1 a b most).2)
  else (((mapR s.1 a b most).1, s.2), 0)
set_option maxHeartbeats 4000000 in
theorem SpMap_any (rs : List (Int × Int)) (r : Int) (ls : List Int) (es : List Nat) (v : Value) (a b most : Int) (w : World) (hv : SpV w v (rs, r, ls, es)) (hn : rs.length ≤ 1000) (hs : wsmall es) (hL : LayOK w) :
    Calls Tryz.prog 7 #[v, .int .i64 a, .int .i64 b, .int .i64 most] w fun e w' => SpResL w w' (mapS (rs, r, ls, es) a b most).1 (mapS (rs, r, ls, es) a b most).2 e := by
  obtain ⟨A, c, L, cl, B, d, hve, hA, hLs, hB, hcc⟩ := id hv
  subst hve
  unfold spcV at hv ⊢
  simp only at hv ⊢ hA hLs hB hcc
  have kS := (Bk.new w #[.slice A rs.length c, .int .i64 r, .slice L ls.length cl, .slice B es.length d] 28).alloc (.cells #[.slice none 0 0, .int .i64 0, .slice none 0 0, .slice none 0 0] 28)
  have kR := Bk.new (w.alloc (.cells #[.slice A rs.length c, .int .i64 r, .slice L ls.length cl, .slice B es.length d] 28)) #[.slice none 0 0, .int .i64 0, .slice none 0 0, .slice none 0 0] 28
  simp only [World.size_alloc] at kR
  have hB1 := balloc (balloc (Below.refl _ w) (.cells #[.slice A rs.length c, .int .i64 r, .slice L ls.length cl, .slice B es.length d] 28)) (.cells #[.slice none 0 0, .int .i64 0, .slice none 0 0, .slice none 0 0] 28)
  generalize hw1 : (w.alloc (.cells #[.slice A rs.length c, .int .i64 r, .slice L ls.length cl, .slice B es.length d] 28)).alloc (.cells #[.slice none 0 0, .int .i64 0, .slice none 0 0, .slice none 0 0] 28) = w1 at *
  have HC := Lib.hid (spCheck_any rs r ls es _ _ (hv.to hB1) (by omega) hs (hL.below hB1))
  obtain ⟨cS, fS, lS⟩ := kS.facts
  obtain ⟨cR, fR, lR⟩ := kR.facts
  by_cases hE : spcE (rs, r, ls, es) = 0
  case neg =>
    have hR : mapS (rs, r, ls, es) a b most = (sp0, spcE (rs, r, ls, es)) := by unfold mapS; rw [if_pos hE]
    rw [hR]
    have hd : (spcE (rs, r, ls, es) != 0) = true := by simpa using hE
    generalize spcE (rs, r, ls, es) = z at *
    clear hR hE
    go_enter Tryz.func7, Tryz.ntmps7
    go_wp2_with (go_at_call 20; refine HC.out.mono ?_; rintro e w2 ⟨rfl, hb2⟩; clear cS fS lS cR fR lR; obtain ⟨cR, fR, lR⟩ := (kR.to hb2).facts)
    have kF := (kR.to hb2).put4 (.slice none 0 0) (.int .i64 0) (.slice none 0 0) (.slice none 0 0)
    have hBF := below_put4 (bnext hB1 hb2) (g := w.heap.size + 1) (by omega) (.slice none 0 0) (.int .i64 0) (.slice none 0 0) (.slice none 0 0)
    exact bodyPost_ret (kF.res2 (P := Tryz.prog) rfl _ rfl (by kernel_rfl) (by kernel_rfl)) rfl ⟨_, rfl, SpV.zero _, SLoc.zero _, hBF⟩
  obtain ⟨hg, hT, _⟩ := spc_zero hE
  simp only at hg hT
  have H8 := Lib.hid (tab_zero hT).1
  have H64 := Lib.hid (tab_zero hT).2.1
  rw [hE] at HC
  have HU := Lib.hid (fun W h => Map_any A rs.length c rs a b most W h (by omega))
  by_cases hz : (mapR rs a b most).2 = 0
  case neg =>
    have hR : mapS (rs, r, ls, es) a b most = (sp0, (mapR rs a b most).2) := by unfold mapS; rw [if_neg (by simpa using hE), if_pos hz]
    rw [hR]
    have hd : ((mapR rs a b most).2 != 0) = true := by simpa using hz
    generalize mapR rs a b most = u at *
    clear hR hE hz
    go_enter Tryz.func7, Tryz.ntmps7
    go_wp2_with (first
      | (go_at_call 20; refine HC.out.mono ?_; rintro e w2 ⟨rfl, hb2⟩; clear cS fS lS cR fR lR; obtain ⟨cR, fR, lR⟩ := (kR.to hb2).facts; obtain ⟨cS, fS, lS⟩ := (kS.to hb2).facts)
      | (go_at_call 21; refine (HU.out _ (hA.below (bnext hB1 hb2) (Nat.le_refl _))).mono ?_; rintro e w3 ⟨v3, rfl, hr3, hb3⟩; clear cS fS lS cR fR lR; obtain ⟨cR, fR, lR⟩ := ((kR.to hb2).to hb3).facts))
    have kF := ((kR.to hb2).to hb3).put4 (.slice none 0 0) (.int .i64 0) (.slice none 0 0) (.slice none 0 0)
    have hBF := below_put4 (bnext (bnext hB1 hb2) hb3) (g := w.heap.size + 1) (by omega) (.slice none 0 0) (.int .i64 0) (.slice none 0 0) (.slice none 0 0)
    exact bodyPost_ret (kF.res2 (P := Tryz.prog) rfl _ rfl (by kernel_rfl) (by kernel_rfl)) rfl ⟨_, rfl, SpV.zero _, SLoc.zero _, hBF⟩
  have hR : mapS (rs, r, ls, es) a b most = (((mapR rs a b most).1, (r, ls, es)), 0) := by unfold mapS; rw [if_neg (by simpa using hE), if_neg (by simpa using hz)]
  rw [hR]
  rw [hz] at HU
  clear hR hE hz
  generalize (mapR rs a b most).1 = rs' at *
  have HTw := Lib.hid (fun v W h => twin_any r ls es v W h H8.out H64.out)
  go_enter Tryz.func7, Tryz.ntmps7
  go_wp2_with fail
  refine HC.out.mono ?_
  rintro e w2 ⟨rfl, hb2⟩
  clear cS fS lS cR fR lR hw1
  replace kS := kS.to hb2
  replace kR := kR.to hb2
  replace hB1 := bnext hB1 hb2
  have hkR := kR.lt
  clear hb2 HC
  obtain ⟨cS, fS, lS⟩ := kS.facts
  go_wp2_with fail
  refine (HU.out _ (hA.below hB1 (Nat.le_refl _))).mono ?_
  rintro e w3 ⟨v3, rfl, hr3, hb3⟩
  obtain ⟨A3, c3, rfl, hrd3⟩ := own_slice hr3
  have hlo3 := own_loc2 hr3
  clear cS fS lS
  replace kS := kS.to hb3
  replace kR := kR.to hb3
  replace hB1 := bnext hB1 hb3
  have hs23 := hb3.size
  clear hb3 HU
  obtain ⟨cS, fS, lS⟩ := kS.facts
  go_wp2_with fail
  refine (HTw.out _ _ (tbv_of (L := L) (B := B) (cl := cl) (d := d) (hLs.below hB1 (Nat.le_refl _)) (hB.below hB1 (Nat.le_refl _)) hcc)).mono ?_
  rintro e w4 ⟨gA, cA, gB, cB, rfl, hO, hb4⟩
  clear cS fS lS
  replace kR := kR.to hb4
  replace hB1 := bnext hB1 hb4
  replace hr3 := own_below hr3 hb4
  clear hb4
  obtain ⟨cR, fR, lR⟩ := kR.facts
  go_wp2_with fail
  have hlt := hO.lt
  have h8 := H8.out
  have h64 := H64.out
  have kF := kR.put4 (.slice A3 rs'.length c3) (.int .i64 r) (.slice (some ⟨gA, 0, none⟩) 8 cA) (.slice (some ⟨gB, 0, none⟩) 64 cB)
  have hBF := below_put4 hB1 (g := w.heap.size + 1) (by omega) (.slice A3 rs'.length c3) (.int .i64 r) (.slice (some ⟨gA, 0, none⟩) 8 cA) (.slice (some ⟨gB, 0, none⟩) 64 cB)
  have hR2 := own_ne4 hr3 (g := w.heap.size + 1) (fun b off q e => by have := hlo3 b off q e; omega) (.slice A3 rs'.length c3) (.int .i64 r) (.slice (some ⟨gA, 0, none⟩) 8 cA) (.slice (some ⟨gB, 0, none⟩) 64 cB)
  have hO2 := hO.ne4 (g := w.heap.size + 1) (by omega) (by omega) (.slice A3 rs'.length c3) (.int .i64 r) (.slice (some ⟨gA, 0, none⟩) 8 cA) (.slice (some ⟨gB, 0, none⟩) 64 cB)
  exact bodyPost_ret (kF.res2 (P := Tryz.prog) rfl _ rfl (by kernel_rfl) (by kernel_rfl)) rfl ⟨_, rfl, ⟨A3, c3, some ⟨gA, 0, none⟩, cA, some ⟨gB, 0, none⟩, cB, by simp only [spcV, h8, h64], Rd.own hR2, by simp only [h8]; exact Rd.own hO2.a, by simp only [h64]; exact Rd.own hO2.b, by simp only [h8]; exact hO2.cap⟩,
    SLoc.mk (fun b off h0 e => by have := hlo3 b off _ e; omega) (fun b off h0 e => by injection e with e; injection e with e; omega) (fun b off h0 e => by injection e with e; injection e with e; omega), hBF⟩
end Go.Proofs.YtpkgfkhaiifooaaGreatDoor
