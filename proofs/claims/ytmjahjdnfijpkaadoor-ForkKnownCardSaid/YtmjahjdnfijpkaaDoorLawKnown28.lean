/- ForkKnown returns true. -/
import Derived.Test.YtmjahjdnfijpkaaDoorHG
import Derived.Test.YtmjahjdnfijpkaaDoorHF
import Derived.Test.YtmjahjdnfijpkaaDoorHQ
import Derived.Test.YtmjahjdnfijpkaaDoorSpK
import Derived.Deep.RegionHeld3
namespace Go.Proofs.YtmjahjdnfijpkaaDoor
open Go Go.Proofs Go.RowKit
set_option linter.unusedSimpArgs false
set_option linter.unusedVariables false
set_option maxRecDepth 100000

set_option maxHeartbeats 4000000 in
theorem refused28_any (zs : List Int) (F : Option Addr) (cf : Nat) (w : World) (hL : LayOK w) (hF : Rd w 1 F zs.length (iw zs)) (hcf : zs.length ≤ cf) (hz : zs.length ≤ 1000) :
    Calls Tryd.prog 37 #[.slice F zs.length cf] w fun e w' => e = .returned (.int .i64 (forR exF zs).2.2) ∧ Below w.heap.size w w' := by
  have HX := Lib.hid (fun W => example28_any W)
  have hsm := small_of exW_small
  have hrl : exF.1.length ≤ 1000000 := by decide
  have hse : exF.2.2.2 = exW := rfl
  rw [← hse] at hsm
  clear hse
  generalize exF = s at *
  obtain ⟨rs, r, ls, es⟩ := s
  simp only at hsm hrl
  have HF := Lib.hid (fun v F cf W h hl hF hcf => fFork_any rs r ls es v zs F cf W h hrl hsm hl hF hcf hz)
  generalize forR (rs, r, ls, es) zs = R at *
  obtain ⟨sP, sC, er⟩ := R
  obtain ⟨rsP, rP, lsP, esP⟩ := sP
  obtain ⟨rsC, rC, lsC, esC⟩ := sC
  clear hsm hrl
  have hB0 := Below.refl w.heap.size w
  go_enter Tryd.func37, Tryd.ntmps37
  go_wp2_with fail
  refine (HX.out _).mono ?_
  rintro e w1 ⟨v2, rfl, hv2, hb1⟩
  replace hL := hL.below hb1
  replace hB0 := bnext hB0 hb1
  clear hb1
  obtain ⟨A2, c2, L2, cl2, B2, d2, rfl, _, _, _, _⟩ := id hv2
  simp only [spcV] at hv2 ⊢
  replace hF := hF.below hB0 (Nat.le_refl _)
  go_wp2_with fail
  refine (HF.out _ _ _ _ hv2 hL hF hcf).mono ?_
  rintro e w2 ⟨va, vb, rfl, hva, hvb, hb2⟩
  replace hv2 := hv2.to hb2
  replace hL := hL.below hb2
  replace hB0 := bnext hB0 hb2
  clear hb2
  clear hv2
  obtain ⟨AA, cA, LA, clA, BA, dA, rfl, _, _, _, _⟩ := id hva
  simp only [spcV] at hva ⊢
  obtain ⟨AB, cB, LB, clB, BB, dB, rfl, _, _, _, _⟩ := id hvb
  simp only [spcV] at hvb ⊢
  go_upto_region 2 with fail
  have ka := Bk.new w2 #[.slice AA rsP.length cA, .int .i64 rP, .slice LA lsP.length clA, .slice BA esP.length dA] 28
  have hcN := balloc (Below.refl _ w2) (.cells #[.slice AA rsP.length cA, .int .i64 rP, .slice LA lsP.length clA, .slice BA esP.length dA] 28)
  have hcS : (w2.alloc (.cells #[.slice AA rsP.length cA, .int .i64 rP, .slice LA lsP.length clA, .slice BA esP.length dA] 28)).heap.size = w2.heap.size + 1 := by rw [World.size_alloc]
  generalize w2.alloc (.cells #[.slice AA rsP.length cA, .int .i64 rP, .slice LA lsP.length clA, .slice BA esP.length dA] 28) = w3 at *
  replace hL := hL.below hcN
  replace hB0 := bnext hB0 hcN
  clear hcN
  have kb : Bk (w3.alloc (.cells #[.slice AB rsC.length cB, .int .i64 rC, .slice LB lsC.length clB, .slice BB esC.length dB] 28)) (w2.heap.size + 1) #[.slice AB rsC.length cB, .int .i64 rC, .slice LB lsC.length clB, .slice BB esC.length dB] 28 := by rw [← hcS]; exact Bk.new w3 #[.slice AB rsC.length cB, .int .i64 rC, .slice LB lsC.length clB, .slice BB esC.length dB] 28
  have hcN := balloc (Below.refl _ w3) (.cells #[.slice AB rsC.length cB, .int .i64 rC, .slice LB lsC.length clB, .slice BB esC.length dB] 28)
  generalize w3.alloc (.cells #[.slice AB rsC.length cB, .int .i64 rC, .slice LB lsC.length clB, .slice BB esC.length dB] 28) = w4 at *
  replace ka := ka.to hcN
  replace hL := hL.below hcN
  replace hB0 := bnext hB0 hcN
  clear hcN
  clear hcS
  go_wp2_with fail
  go_ret
  exact ⟨rfl, hB0⟩
theorem sps_two {w : World} {g : Nat} {t : TypeId} {a b : Sp} {A1 L1 B1 A2 L2 B2 : Option Addr} {c1 cl1 d1 c2 cl2 d2 : Nat} (h : Bk w g #[.slice A1 a.1.length c1, .int .i64 a.2.1, .slice L1 a.2.2.1.length cl1, .slice B1 a.2.2.2.length d1, .slice A2 b.1.length c2, .int .i64 b.2.1, .slice L2 b.2.2.1.length cl2, .slice B2 b.2.2.2.length d2] t)
    (ha : SpV w (.agg #[.slice A1 a.1.length c1, .int .i64 a.2.1, .slice L1 a.2.2.1.length cl1, .slice B1 a.2.2.2.length d1]) a) (hb : SpV w (.agg #[.slice A2 b.1.length c2, .int .i64 b.2.1, .slice L2 b.2.2.1.length cl2, .slice B2 b.2.2.2.length d2]) b) : SpsV w (some ⟨g, 0, none⟩) [a, b] := by
  refine ⟨[.slice A1 a.1.length c1, .int .i64 a.2.1, .slice L1 a.2.2.1.length cl1, .slice B1 a.2.2.2.length d1, .slice A2 b.1.length c2, .int .i64 b.2.1, .slice L2 b.2.2.1.length cl2, .slice B2 b.2.2.2.length d2], ⟨rfl, fun _ => ⟨g, 0, rfl, h.lt, fun j u hu => by rw [Nat.zero_add, h.cell j, List.getElem?_toArray]; exact hu⟩⟩, fun k hk => ?_⟩
  rcases k with _ | _ | k
  · obtain ⟨_, _, _, _, _, _, e', q1, q2, q3, q4⟩ := ha
    simp only [spcV, Value.agg.injEq, Array.mk.injEq, List.cons.injEq, Value.slice.injEq] at e'
    obtain ⟨⟨rfl, _, rfl⟩, _, ⟨rfl, _, rfl⟩, ⟨rfl, _, rfl⟩, _⟩ := e'
    exact ⟨_, _, _, _, _, _, rfl, rfl, rfl, rfl, q1, q2, q3, q4⟩
  · obtain ⟨_, _, _, _, _, _, e', q1, q2, q3, q4⟩ := hb
    simp only [spcV, Value.agg.injEq, Array.mk.injEq, List.cons.injEq, Value.slice.injEq] at e'
    obtain ⟨⟨rfl, _, rfl⟩, _, ⟨rfl, _, rfl⟩, ⟨rfl, _, rfl⟩, _⟩ := e'
    exact ⟨_, _, _, _, _, _, rfl, rfl, rfl, rfl, q1, q2, q3, q4⟩
  · simp at hk
    omega
theorem own2_spv {w : World} {base gA cA gB cB : Nat} {r : Int} {ls : List Int} {es : List Nat} (h : Own2 w base gA cA gB cB ls es) : SpV w (.agg #[.slice none 0 0, .int .i64 r, .slice (some ⟨gA, 0, none⟩) 8 cA, .slice (some ⟨gB, 0, none⟩) 64 cB]) ([], r, ls, es) := by
  obtain ⟨h1, h2⟩ := h.lens
  exact ⟨none, 0, some ⟨gA, 0, none⟩, cA, some ⟨gB, 0, none⟩, cB, by simp only [spcV, h1, h2]; rfl, Rd.zero none, by rw [h1]; exact Rd.own h.a, by rw [h2]; exact Rd.own h.b, by rw [h1]; exact h.cap⟩
def kfL : List Int := couL [parS exF, chiS exF [8, 9]] 2
theorem kf_sha : shaR exF = ([7], [2], 0) := by decide +kernel
theorem kf_r1 : (forR exF [8]).2.2 = 15 := by decide +kernel
theorem kf_r2 : (forR exF [8, 8]).2.2 = 7 := by decide +kernel
theorem kf_r3 : (forR exF [8, 7]).2.2 = 7 := by decide +kernel
theorem kf_r4 : (forR exF [8, 256]).2.2 = 2 := by decide +kernel
theorem kf_cou : couR [parS exF, chiS exF [8, 9]] = (kfL, 0) := by decide +kernel
theorem kf_l7 : kfL.getD 7 0 = 2 ∧ kfL.length = 256 := by decide +kernel
theorem kf_ow1 : (fowR (parS exF) kfL).2 = (0, 0) := by decide +kernel
theorem kf_ow2 : (fowR (parS exF) (kfL.set 7 1)).2 = (1, 0) := by decide +kernel
theorem kf_ow3 : (fowR (parS exF) (kfL.set 7 1)).1.2.2.2.length = 64 ∧ (fowR (parS exF) (kfL.set 7 1)).1.2.2.2.getD 3 0 = fxA := by decide +kernel
theorem kf_d1 : difR exF (chiS exF [8, 9]) = ([], 0) := by decide +kernel
theorem kf_d2 : difR exF ([], 0, List.replicate 8 (-1), wz) = ([3, 4, 5], 0) := by decide +kernel
theorem kf_sm : (parS exF).2.2.2.all (fun x => decide (x < 65536)) = true ∧ (chiS exF [8, 9]).2.2.2.all (fun x => decide (x < 65536)) = true ∧ wz.all (fun x => decide (x < 65536)) = true ∧ (parS exF).1.length = 1 ∧ (chiS exF [8, 9]).1.length = 1 := by decide +kernel

set_option maxHeartbeats 16000000 in
theorem ForkKnown_true (w : World) (hL : LayOK w) : Calls Tryd.prog 9 #[] w fun e w' => e = .returned (.bool true) ∧ Below w.heap.size w w' := by
  have hsm := small_of exW_small
  have hrl : exF.1.length ≤ 1000000 := by decide
  have hse : exF.2.2.2 = exW := rfl
  rw [← hse] at hsm
  clear hse
  obtain ⟨hmP, hmC, hmz, hrP, hrC⟩ := kf_sm
  replace hmP := small_of hmP
  replace hmC := small_of hmC
  replace hmz := small_of hmz
  have hsha := kf_sha
  have hfr := ex_forR
  have hcou := kf_cou
  obtain ⟨hl7, hl256⟩ := kf_l7
  have how1 := kf_ow1
  have how2 := kf_ow2
  obtain ⟨how3, how4⟩ := kf_ow3
  have hdf1 := kf_d1
  have hdf2 := kf_d2
  have HX := Lib.hid (fun W => example28_any W)
  have HR1 := Lib.hid (fun F cf W hl h hc => refused28_any [8] F cf W hl h hc (by decide))
  have HR2 := Lib.hid (fun F cf W hl h hc => refused28_any [8, 8] F cf W hl h hc (by decide))
  have HR3 := Lib.hid (fun F cf W hl h hc => refused28_any [8, 7] F cf W hl h hc (by decide))
  have HR4 := Lib.hid (fun F cf W hl h hc => refused28_any [8, 256] F cf W hl h hc (by decide))
  rw [kf_r1] at HR1
  rw [kf_r2] at HR2
  rw [kf_r3] at HR3
  rw [kf_r4] at HR4
  generalize hgP : parS exF = sP at *
  generalize hgC : chiS exF [8, 9] = sC at *
  generalize kfL = l at *
  generalize hgE : exF = s at *
  obtain ⟨rs, r, ls, es⟩ := s
  obtain ⟨rsP, rP, lsP, esP⟩ := sP
  obtain ⟨rsC, rC, lsC, esC⟩ := sC
  generalize hx1 : fowR (rsP, rP, lsP, esP) l = X1 at *
  generalize hx2 : fowR (rsP, rP, lsP, esP) (l.set 7 1) = X2 at *
  obtain ⟨⟨rsX, rX, lsX, esX⟩, nX, eX⟩ := X1
  obtain ⟨⟨rsY, rY, lsY, esY⟩, nY, eY⟩ := X2
  simp only [Prod.mk.injEq] at how1 how2
  obtain ⟨rfl, rfl⟩ := how1
  obtain ⟨rfl, rfl⟩ := how2
  simp only at hsm hrl hmP hmC hrP hrC how3 how4
  have HSh := Lib.hid (fun v W h hl => fShared_any rs r ls es v W h hrl hsm hl)
  have HF := Lib.hid (fun v F cf W h hl hF hcf => fFork_any rs r ls es v [8, 9] F cf W h hrl hsm hl hF hcf (by decide))
  have HCo := Lib.hid (fun A c W h hl => fCounts_any [(rsP, rP, lsP, esP), (rsC, rC, lsC, esC)] A c W h (fun k hk => by rcases k with _ | _ | k; exact ⟨by show rsP.length ≤ _; omega, hmP⟩; exact ⟨by show rsC.length ≤ _; omega, hmC⟩; simp at hk; omega) hl)
  have HO1 := Lib.hid (fun v F cf W h hl hF => fOwn_any rsP rP lsP esP v l F cf W h (by omega) hmP hl hF (by omega))
  have HO2 := Lib.hid (fun v F cf W h hl hF => fOwn_any rsP rP lsP esP v (l.set 7 1) F cf W h (by omega) hmP hl hF (by rw [List.length_set]; omega))
  have HD1 := Lib.hid (fun v v2 W h h2 hl => fDiffer_any rs r ls es v rsC rC lsC esC v2 W h h2 hrl (by omega) hsm hmC hl)
  have HD2 := Lib.hid (fun v v2 W h h2 hl => fDiffer_any rs r ls es v [] 0 (List.replicate 8 (-1)) wz v2 W h h2 hrl (by simp) hsm hmz hl)
  have HI := Lib.hid (fun v W h => is28_t rsY rY lsY esY v 3 1 7 true false true fxA W h how3 (by omega) how4 fxA_p)
  have HS7 := Lib.hid (fun v v2 W h h2 => SameInts_v [7] v v2 W h h2 (by decide))
  have HS2 := Lib.hid (fun v v2 W h h2 => SameInts_v [2] v v2 W h h2 (by decide))
  have HS3 := Lib.hid (fun v v2 W h h2 => SameInts_v [3, 4, 5] v v2 W h h2 (by decide))
  rw [hsha] at HSh
  rw [hfr] at HF
  rw [hcou] at HCo
  rw [hx1] at HO1
  rw [hx2] at HO2
  rw [hdf1] at HD1
  rw [hdf2] at HD2
  rw [List.length_set] at HO2
  rw [hl256] at HO1 HO2
  have Hl7 := Lib.hid hl7
  have Hl256 := Lib.hid hl256
  clear hsm hrl hmP hmC hmz hrP hrC hsha hfr hcou hl7 hl256 how3 how4 hdf1 hdf2 hx1 hx2 hgP hgC hgE
  have hB0 := Below.refl w.heap.size w
  have HL0 := Lib.hid hL
  go_enter Tryd.func9, Tryd.ntmps9
  go_wp2_with fail
  refine (HX.out _).mono ?_
  rintro e w1 ⟨v1, rfl, hv1, hb1⟩
  replace hL := hL.below hb1
  replace hB0 := bnext hB0 hb1
  clear hb1
  obtain ⟨A1, c1, L1, cl1, B1, d1, rfl, _, _, _, _⟩ := id hv1
  simp only [spcV] at hv1 ⊢
  go_wp2_with fail
  refine (HSh.out _ _ hv1 hL).mono ?_
  rintro e w2 ⟨vp, vq, rfl, hvp, hvq, _, hb2⟩
  replace hv1 := hv1.to hb2
  replace hL := hL.below hb2
  replace hB0 := bnext hB0 hb2
  clear hb2
  clear hv1
  obtain ⟨Ap, cp, rfl, hrp⟩ := id hvp
  obtain ⟨Aq, cq, rfl, hrq⟩ := id hvq
  clear hrp hrq
  go_wp2_with fail
  have kr88 := Bk.new w2 #[.int .i64 7] 3
  have hcN := balloc (Below.refl _ w2) (.cells #[.int .i64 7] 3)
  generalize w2.alloc (.cells #[.int .i64 7] 3) = w3 at *
  replace hvp := hvp.to hcN
  replace hvq := hvq.to hcN
  replace hL := hL.below hcN
  replace hB0 := bnext hB0 hcN
  clear hcN
  refine (HS7.out _ _ _ hvp (ct_is (cs := [7]) kr88 rfl)).mono ?_
  rintro e w4 ⟨rfl, hb4⟩
  replace hvp := hvp.to hb4
  replace hvq := hvq.to hb4
  replace kr88 := kr88.to hb4
  replace hL := hL.below hb4
  replace hB0 := bnext hB0 hb4
  clear hb4
  clear hvp kr88
  go_wp2_with fail
  have kr106 := Bk.new w4 #[.int .i64 2] 3
  have hcN := balloc (Below.refl _ w4) (.cells #[.int .i64 2] 3)
  generalize w4.alloc (.cells #[.int .i64 2] 3) = w5 at *
  replace hvq := hvq.to hcN
  replace hL := hL.below hcN
  replace hB0 := bnext hB0 hcN
  clear hcN
  refine (HS2.out _ _ _ hvq (ct_is (cs := [2]) kr106 rfl)).mono ?_
  rintro e w6 ⟨rfl, hb6⟩
  replace hvq := hvq.to hb6
  replace kr106 := kr106.to hb6
  replace hL := hL.below hb6
  replace hB0 := bnext hB0 hb6
  clear hb6
  clear hvq kr106
  go_wp2_with fail
  have kr122 := Bk.new w6 #[.int .i64 8] 3
  have hcN := balloc (Below.refl _ w6) (.cells #[.int .i64 8] 3)
  generalize w6.alloc (.cells #[.int .i64 8] 3) = w7 at *
  replace hL := hL.below hcN
  replace hB0 := bnext hB0 hcN
  clear hcN
  refine (HR1.out _ _ _ hL (rd_of_bk (zs := [8]) kr122 rfl) (by decide)).mono ?_
  rintro e w8 ⟨rfl, hb8⟩
  replace kr122 := kr122.to hb8
  replace hL := hL.below hb8
  replace hB0 := bnext hB0 hb8
  clear hb8
  clear kr122
  go_wp2_with fail
  have kr136 := Bk.new w8 #[.int .i64 8, .int .i64 8] 3
  have hcN := balloc (Below.refl _ w8) (.cells #[.int .i64 8, .int .i64 8] 3)
  generalize w8.alloc (.cells #[.int .i64 8, .int .i64 8] 3) = w9 at *
  replace hL := hL.below hcN
  replace hB0 := bnext hB0 hcN
  clear hcN
  refine (HR2.out _ _ _ hL (rd_of_bk (zs := [8, 8]) kr136 rfl) (by decide)).mono ?_
  rintro e w10 ⟨rfl, hb10⟩
  replace kr136 := kr136.to hb10
  replace hL := hL.below hb10
  replace hB0 := bnext hB0 hb10
  clear hb10
  clear kr136
  go_wp2_with fail
  have kr150 := Bk.new w10 #[.int .i64 8, .int .i64 7] 3
  have hcN := balloc (Below.refl _ w10) (.cells #[.int .i64 8, .int .i64 7] 3)
  generalize w10.alloc (.cells #[.int .i64 8, .int .i64 7] 3) = w11 at *
  replace hL := hL.below hcN
  replace hB0 := bnext hB0 hcN
  clear hcN
  refine (HR3.out _ _ _ hL (rd_of_bk (zs := [8, 7]) kr150 rfl) (by decide)).mono ?_
  rintro e w12 ⟨rfl, hb12⟩
  replace kr150 := kr150.to hb12
  replace hL := hL.below hb12
  replace hB0 := bnext hB0 hb12
  clear hb12
  clear kr150
  go_wp2_with fail
  have kr164 := Bk.new w12 #[.int .i64 8, .int .i64 256] 3
  have hcN := balloc (Below.refl _ w12) (.cells #[.int .i64 8, .int .i64 256] 3)
  generalize w12.alloc (.cells #[.int .i64 8, .int .i64 256] 3) = w13 at *
  replace hL := hL.below hcN
  replace hB0 := bnext hB0 hcN
  clear hcN
  refine (HR4.out _ _ _ hL (rd_of_bk (zs := [8, 256]) kr164 rfl) (by decide)).mono ?_
  rintro e w14 ⟨rfl, hb14⟩
  replace kr164 := kr164.to hb14
  replace hL := hL.below hb14
  replace hB0 := bnext hB0 hb14
  clear hb14
  clear kr164
  go_wp2_with fail
  refine (HX.out _).mono ?_
  rintro e w15 ⟨v2, rfl, hv2, hb15⟩
  replace hL := hL.below hb15
  replace hB0 := bnext hB0 hb15
  clear hb15
  obtain ⟨A2, c2, L2, cl2, B2, d2, rfl, _, _, _, _⟩ := id hv2
  simp only [spcV] at hv2 ⊢
  go_wp2_with fail
  have kr186 := Bk.new w15 #[.int .i64 8, .int .i64 9] 3
  have hcN := balloc (Below.refl _ w15) (.cells #[.int .i64 8, .int .i64 9] 3)
  generalize w15.alloc (.cells #[.int .i64 8, .int .i64 9] 3) = w16 at *
  replace hv2 := hv2.to hcN
  replace hL := hL.below hcN
  replace hB0 := bnext hB0 hcN
  clear hcN
  refine (HF.out _ _ _ _ hv2 hL (rd_of_bk (zs := [8, 9]) kr186 rfl) (by decide)).mono ?_
  rintro e w17 ⟨va, vb, rfl, hva, hvb, hb17⟩
  replace hv2 := hv2.to hb17
  replace kr186 := kr186.to hb17
  replace hL := hL.below hb17
  replace hB0 := bnext hB0 hb17
  clear hb17
  clear hv2 kr186
  obtain ⟨AA, cA, LA, clA, BA, dA, rfl, _, _, _, _⟩ := id hva
  simp only [spcV] at hva ⊢
  obtain ⟨AB, cB, LB, clB, BB, dB, rfl, _, _, _, _⟩ := id hvb
  simp only [spcV] at hvb ⊢
  go_upto_region 5 with fail
  have ka := Bk.new w17 #[.slice AA rsP.length cA, .int .i64 rP, .slice LA lsP.length clA, .slice BA esP.length dA] 28
  have hcN := balloc (Below.refl _ w17) (.cells #[.slice AA rsP.length cA, .int .i64 rP, .slice LA lsP.length clA, .slice BA esP.length dA] 28)
  have hcS : (w17.alloc (.cells #[.slice AA rsP.length cA, .int .i64 rP, .slice LA lsP.length clA, .slice BA esP.length dA] 28)).heap.size = w17.heap.size + 1 := by rw [World.size_alloc]
  generalize w17.alloc (.cells #[.slice AA rsP.length cA, .int .i64 rP, .slice LA lsP.length clA, .slice BA esP.length dA] 28) = w18 at *
  replace hva := hva.to hcN
  replace hvb := hvb.to hcN
  replace hL := hL.below hcN
  replace hB0 := bnext hB0 hcN
  clear hcN
  have kb : Bk (w18.alloc (.cells #[.slice AB rsC.length cB, .int .i64 rC, .slice LB lsC.length clB, .slice BB esC.length dB] 28)) (w17.heap.size + 1) #[.slice AB rsC.length cB, .int .i64 rC, .slice LB lsC.length clB, .slice BB esC.length dB] 28 := by rw [← hcS]; exact Bk.new w18 #[.slice AB rsC.length cB, .int .i64 rC, .slice LB lsC.length clB, .slice BB esC.length dB] 28
  have hcN := balloc (Below.refl _ w18) (.cells #[.slice AB rsC.length cB, .int .i64 rC, .slice LB lsC.length clB, .slice BB esC.length dB] 28)
  generalize w18.alloc (.cells #[.slice AB rsC.length cB, .int .i64 rC, .slice LB lsC.length clB, .slice BB esC.length dB] 28) = w19 at *
  replace hva := hva.to hcN
  replace hvb := hvb.to hcN
  replace ka := ka.to hcN
  replace hL := hL.below hcN
  replace hB0 := bnext hB0 hcN
  clear hcN
  clear hcS
  obtain ⟨c_ka, f_ka, l_ka⟩ := ka.facts
  obtain ⟨c_kb, f_kb, l_kb⟩ := kb.facts
  go_wp2_with fail
  clear c_ka f_ka l_ka
  clear c_kb f_kb l_kb
  have kl0 := Bk.new w19 #[.slice AA rsP.length cA, .int .i64 rP, .slice LA lsP.length clA, .slice BA esP.length dA, .slice AB rsC.length cB, .int .i64 rC, .slice LB lsC.length clB, .slice BB esC.length dB] 28
  have hcN := balloc (Below.refl _ w19) (.cells #[.slice AA rsP.length cA, .int .i64 rP, .slice LA lsP.length clA, .slice BA esP.length dA, .slice AB rsC.length cB, .int .i64 rC, .slice LB lsC.length clB, .slice BB esC.length dB] 28)
  generalize w19.alloc (.cells #[.slice AA rsP.length cA, .int .i64 rP, .slice LA lsP.length clA, .slice BA esP.length dA, .slice AB rsC.length cB, .int .i64 rC, .slice LB lsC.length clB, .slice BB esC.length dB] 28) = w20 at *
  replace hva := hva.to hcN
  replace hvb := hvb.to hcN
  replace ka := ka.to hcN
  replace kb := kb.to hcN
  replace hL := hL.below hcN
  replace hB0 := bnext hB0 hcN
  clear hcN
  have hvaK := hva
  have hvbK := hvb
  have hBK := Below.refl w20.heap.size w20
  have hka := ka.lt
  have hkb := kb.lt
  have hw0K := hB0.size
  clear hva hvb
  refine (HCo.out _ _ _ (sps_two kl0 hvaK hvbK) hL).mono ?_
  rintro e w21 ⟨vl, rfl, _, hlP, hb21⟩
  replace ka := ka.to hb21
  replace kb := kb.to hb21
  replace kl0 := kl0.to hb21
  replace hL := hL.below hb21
  replace hB0 := bnext hB0 hb21
  replace hBK := bnext hBK hb21
  clear hb21
  clear kl0
  obtain ⟨P, rfl, hPK, kl⟩ := hlP rfl
  clear hlP
  have hc7 := ct_cell kl (x := 7) (by rw [Hl256.out]; omega)
  rw [Hl7.out] at hc7
  have hf7 := kl.frozen
  have hlP := kl.lt
  obtain ⟨c_ka, f_ka, l_ka⟩ := ka.facts
  obtain ⟨c_kb, f_kb, l_kb⟩ := kb.facts
  go_upto_region 8 with fail
  clear c_ka f_ka l_ka
  clear c_kb f_kb l_kb
  clear hc7 hf7 hlP
  obtain ⟨c_ka, f_ka, l_ka⟩ := ka.facts
  obtain ⟨c_kb, f_kb, l_kb⟩ := kb.facts
  go_wp2_with fail
  clear c_ka f_ka l_ka
  clear c_kb f_kb l_kb
  refine (HO1.out _ _ _ _ (hvaK.to hBK) hL (rd_of_bk kl Hl256.out)).mono ?_
  rintro e w22 ⟨vx, rfl, hvx, _, hb22⟩
  replace kl := kl.to hb22
  replace ka := ka.to hb22
  replace kb := kb.to hb22
  replace hL := hL.below hb22
  replace hB0 := bnext hB0 hb22
  replace hBK := bnext hBK hb22
  clear hb22
  obtain ⟨AX, cX, LX, clX, BX, dX, rfl, _, _, _, _⟩ := id hvx
  simp only [spcV] at hvx ⊢
  clear hvx
  obtain ⟨c_ka, f_ka, l_ka⟩ := ka.facts
  obtain ⟨c_kb, f_kb, l_kb⟩ := kb.facts
  go_upto_region 9 with fail
  clear c_ka f_ka l_ka
  clear c_kb f_kb l_kb
  have hcN := balloc (Below.refl _ w22) (.cells #[.slice AX rsX.length cX, .int .i64 rX, .slice LX lsX.length clX, .slice BX esX.length dX] 28)
  generalize w22.alloc (.cells #[.slice AX rsX.length cX, .int .i64 rX, .slice LX lsX.length clX, .slice BX esX.length dX] 28) = w23 at *
  replace kl := kl.to hcN
  replace ka := ka.to hcN
  replace kb := kb.to hcN
  replace hL := hL.below hcN
  replace hB0 := bnext hB0 hcN
  replace hBK := bnext hBK hcN
  clear hcN
  have hc7 := ct_cell kl (x := 7) (by rw [Hl256.out]; omega)
  have hf7 := kl.frozen
  have hlP := kl.lt
  obtain ⟨c_ka, f_ka, l_ka⟩ := ka.facts
  obtain ⟨c_kb, f_kb, l_kb⟩ := kb.facts
  go_upto_region 10 with fail
  clear c_ka f_ka l_ka
  clear c_kb f_kb l_kb
  clear hc7 hf7 hlP
  replace kl := ct_put kl 7 1
  replace ka := ka.far (p := ⟨P, 7, none⟩) (by show w17.heap.size ≠ P; omega) (.int .i64 1)
  replace kb := kb.far (p := ⟨P, 7, none⟩) (by show (w17.heap.size + 1) ≠ P; omega) (.int .i64 1)
  replace hBK := hBK.setCell (p := ⟨P, 7, none⟩) (by show w20.heap.size ≤ P; omega) (.int .i64 1)
  replace hB0 := hB0.setCell (p := ⟨P, 7, none⟩) (by show w.heap.size ≤ P; omega) (.int .i64 1)
  replace hL := HL0.out.below hB0
  generalize w23.setCell ⟨P, 7, none⟩ (.int .i64 1) = wS at *
  obtain ⟨c_ka, f_ka, l_ka⟩ := ka.facts
  obtain ⟨c_kb, f_kb, l_kb⟩ := kb.facts
  go_wp2_with fail
  clear c_ka f_ka l_ka
  clear c_kb f_kb l_kb
  refine (HO2.out _ _ _ _ (hvaK.to hBK) hL (rd_of_bk kl (by rw [List.length_set]; exact Hl256.out))).mono ?_
  rintro e w24 ⟨vy, rfl, hvy, _, hb24⟩
  replace kl := kl.to hb24
  replace ka := ka.to hb24
  replace kb := kb.to hb24
  replace hL := hL.below hb24
  replace hB0 := bnext hB0 hb24
  replace hBK := bnext hBK hb24
  clear hb24
  obtain ⟨AY, cY, LY, clY, BY, dY, rfl, _, _, _, _⟩ := id hvy
  simp only [spcV] at hvy ⊢
  clear kl ka
  obtain ⟨c_kb, f_kb, l_kb⟩ := kb.facts
  go_upto_region 11 with fail
  clear c_kb f_kb l_kb
  have kc := Bk.new w24 #[.slice AY rsY.length cY, .int .i64 rY, .slice LY lsY.length clY, .slice BY esY.length dY] 28
  have hcN := balloc (Below.refl _ w24) (.cells #[.slice AY rsY.length cY, .int .i64 rY, .slice LY lsY.length clY, .slice BY esY.length dY] 28)
  generalize w24.alloc (.cells #[.slice AY rsY.length cY, .int .i64 rY, .slice LY lsY.length clY, .slice BY esY.length dY] 28) = w25 at *
  replace hvy := hvy.to hcN
  replace kb := kb.to hcN
  replace hL := hL.below hcN
  replace hB0 := bnext hB0 hcN
  replace hBK := bnext hBK hcN
  clear hcN
  have s0 := kb.cell 0
  have s1 := kb.cell 1
  have s2 := kb.cell 2
  have s3 := kb.cell 3
  simp at s0 s1 s2 s3
  have hvb9 := hvbK.to hBK
  go_region_held3 (fun w' => w'.cell? ⟨(w17.heap.size + 1), 0, none⟩ = some (.slice AB rsC.length cB) ∧ w'.cell? ⟨(w17.heap.size + 1), 1, none⟩ = some (.int .i64 rC) ∧ w'.cell? ⟨(w17.heap.size + 1), 2, none⟩ = some (.slice LB lsC.length clB) ∧ w'.cell? ⟨(w17.heap.size + 1), 3, none⟩ = some (.slice BB esC.length dB))
    (refine ⟨?_, ?_, ?_, ?_⟩ <;> (repeat (with_reducible first | exact s0 | exact s1 | exact s2 | exact s3 | refine cell_drew ?_ | refine cell_later hbQ ?_ | refine cell_later hbP ?_)))
    (first
      | (go_at_call 36
         refine (HX.out _).mono ?_
         rintro e wP ⟨vP, rfl, hvP, hbP⟩
         obtain ⟨AP, cP, LP, clP, BP, dP, rfl, _, _, _, _⟩ := id hvP
         simp only [spcV] at hvP ⊢)
      | (go_at_call 24
         refine (HD1.out _ _ _ hvP ((hvb9.to (below_drew (Below.refl _ _))).to hbP) (hL.drew.below hbP)).mono ?_
         rintro e wQ ⟨vQ, rfl, ⟨AQ, cQ, rfl, hrQ⟩, hbQ⟩))
  all_goals
    have hcQ := bnext (bnext (below_drew (Below.refl _ _)) hbP) hbQ
    clear s0 s1 s2 s3 hvb9
    clear kb
    clear hvP hbP hbQ hrQ
    replace hvy := hvy.to hcQ
    replace kc := kc.to hcQ
    replace hL := hL.below hcQ
    replace hB0 := bnext hB0 hcQ
    replace hBK := bnext hBK hcQ
    clear hcQ
    obtain ⟨c_kc, f_kc, l_kc⟩ := kc.facts
    go_wp2_with fail
    clear c_kc f_kc l_kc
    refine (HX.out _).mono ?_
    rintro e w26 ⟨v5, rfl, hv5, hb26⟩
    replace hvy := hvy.to hb26
    replace kc := kc.to hb26
    replace hL := hL.below hb26
    replace hB0 := bnext hB0 hb26
    replace hBK := bnext hBK hb26
    clear hb26
    obtain ⟨A5, c5, L5, cl5, B5, d5, rfl, _, _, _, _⟩ := id hv5
    simp only [spcV] at hv5 ⊢
    obtain ⟨c_kc, f_kc, l_kc⟩ := kc.facts
    go_wp2_with fail
    clear c_kc f_kc l_kc
    refine (bare28_any 0 _).mono ?_
    rintro e w27 ⟨gA, cA9, gB, cB9, rfl, hO9, hb27⟩
    replace hvy := hvy.to hb27
    replace hv5 := hv5.to hb27
    replace kc := kc.to hb27
    replace hL := hL.below hb27
    replace hB0 := bnext hB0 hb27
    replace hBK := bnext hBK hb27
    clear hb27
    have hv6 := own2_spv (r := 0) hO9
    clear hO9
    obtain ⟨c_kc, f_kc, l_kc⟩ := kc.facts
    go_wp2_with fail
    clear c_kc f_kc l_kc
    refine (HD2.out _ _ _ hv5 hv6 hL).mono ?_
    rintro e w28 ⟨vR, rfl, hvR, hb28⟩
    replace hvy := hvy.to hb28
    replace hv5 := hv5.to hb28
    replace hv6 := hv6.to hb28
    replace kc := kc.to hb28
    replace hL := hL.below hb28
    replace hB0 := bnext hB0 hb28
    replace hBK := bnext hBK hb28
    clear hb28
    clear hv5 hv6
    obtain ⟨AR, cR, rfl, hrR⟩ := id hvR
    clear hrR
    obtain ⟨c_kc, f_kc, l_kc⟩ := kc.facts
    go_wp2_with fail
    clear c_kc f_kc l_kc
    refine (HI.out _ _ hvy).mono ?_
    rintro e w29 ⟨rfl, hb29⟩
    replace hvy := hvy.to hb29
    replace hvR := hvR.to hb29
    replace kc := kc.to hb29
    replace hL := hL.below hb29
    replace hB0 := bnext hB0 hb29
    replace hBK := bnext hBK hb29
    clear hb29
    clear hvy kc
    go_wp2_with fail
    have kr430 := Bk.new w29 #[.int .i64 3, .int .i64 4, .int .i64 5] 3
    have hcN := balloc (Below.refl _ w29) (.cells #[.int .i64 3, .int .i64 4, .int .i64 5] 3)
    generalize w29.alloc (.cells #[.int .i64 3, .int .i64 4, .int .i64 5] 3) = w30 at *
    replace hvR := hvR.to hcN
    replace hL := hL.below hcN
    replace hB0 := bnext hB0 hcN
    replace hBK := bnext hBK hcN
    clear hcN
    refine (HS3.out _ _ _ hvR (ct_is (cs := [3, 4, 5]) kr430 rfl)).mono ?_
    rintro e w31 ⟨rfl, hb31⟩
    replace hvR := hvR.to hb31
    replace kr430 := kr430.to hb31
    replace hL := hL.below hb31
    replace hB0 := bnext hB0 hb31
    replace hBK := bnext hBK hb31
    clear hb31
    clear hvR kr430
    go_wp2_with fail
    refine (awake28_any _ hL).mono ?_
    rintro e w32 ⟨rfl, hb32⟩
    replace hL := hL.below hb32
    replace hB0 := bnext hB0 hb32
    replace hBK := bnext hBK hb32
    clear hb32
    go_wp2_with fail
    go_ret
    exact ⟨rfl, hB0⟩
end Go.Proofs.YtmjahjdnfijpkaaDoor
