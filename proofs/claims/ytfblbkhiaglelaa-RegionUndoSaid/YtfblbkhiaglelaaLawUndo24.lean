/- RegionUndo: Unmap undoes Map, and Map what Unmap did. -/
import Derived.Test.YtfblbkhiaglelaaCut24
import Derived.Deep.RegionHeld3
import Derived.Deep.DeepCutAuto
namespace Go.Proofs.Ytfblbkhiaglelaa
open Go Go.Proofs Go.RowKit
set_option linter.unusedSimpArgs false
set_option linter.unusedVariables false
set_option maxRecDepth 100000

theorem rd_drewU {w : World} {sz n : Nat} {A : Option Addr} {xs : List Value} (h : Rd w sz A n xs) : Rd w.drew sz A n xs := h
theorem gaps_undo (f : Nat → Bool) : ∃ rs G : List (Int × Int), regs f = rs ∧ RgV rs ∧ RgV G ∧ rs.length ≤ 64 ∧ G.length ≤ 64 ∧ gapR rs = (G, 0) ∧ ∀ p, p < 64 → hasP G p = true → hasP rs p = false := by
  have hv := regs_v f
  refine ⟨regs f, regs (fun p => !hasP (regs f) p), rfl, hv, regs_v _, regs_le _, regs_le _, gapR_ok hv, fun p hp h => ?_⟩
  rw [regs_has _ p hp] at h
  simpa using h
set_option maxHeartbeats 8000000 in
theorem undo_true (A : Option Addr) (n c : Nat) (zs : List Int) (x y : Int) (w : World) (hr : Rd w 1 A n (zs.map (Value.int .i64))) (hn : n ≤ maxLen) :
    Calls Try.prog 5 #[.slice A n c, .int .i64 x, .int .i64 y] w fun e w' => e = .returned (.bool true) ∧ Below w.heap.size w w' := by
  go_enter Try.func5, Try.ntmps5
  go_wp2_with fail
  go_at_call 18
  refine (Regions_any A n c zs _ hr hn).mono ?_
  rintro e w1 ⟨f, v, rfl, hown, B1⟩
  obtain ⟨rs, G, hrs, hv, hvG, hl1, hl2, hg1, hPG⟩ := gaps_undo f
  rw [hrs] at hown
  obtain ⟨A1, c1, rfl, r1⟩ := own_slice hown
  have HG1 := Lib.hid (fun w h => Gaps_any A1 rs.length c1 rs w h (by omega))
  rw [hg1] at HG1
  have HPG := Lib.hid hPG
  have HV := Lib.hid hv
  have HVG := Lib.hid hvG
  clear hg1 hPG hown hrs hr hv hvG
  go_wp2_with fail
  go_at_call 21
  refine (HG1.out _ r1).mono ?_
  intro e w2 h2
  obtain ⟨A2, c2, rfl, g2, b2⟩ := h2.open
  have r2 := r1.below b2 (Nat.le_refl _)
  have B2 := bnext B1 b2
  clear h2 HG1 r1 B1 b2
  obtain ⟨N, hN⟩ : ∃ N, rs.length = N := ⟨_, rfl⟩
  obtain ⟨M, hM⟩ : ∃ M, G.length = M := ⟨_, rfl⟩
  have HN := Lib.hid hN
  have HM := Lib.hid hM
  rw [hN] at r2 hl1 ⊢
  rw [hM] at g2 hl2 ⊢
  clear hN hM
  by_cases hM0 : M = 0
  · have hmI : ¬ (0 : Int) < (M : Int) := by omega
    by_cases hN0Z : N = 0
    · have hnIZ : ¬ (0 : Int) < (N : Int) := by omega
      go_wp2_with fail
      go_at_call 9
      refine (awake_true _).mono ?_
      rintro e w11 ⟨rfl, b11⟩
      go_wp2_with fail
      go_ret
      exact ⟨rfl, bnext B2 b11⟩
    · have hl0Z : 0 < N := by omega
      have hlIZ : (0 : Int) < (N : Int) := by omega
      obtain ⟨iZ, hiZ⟩ : ∃ i : Nat, y % (N : Int) = i := ⟨(y % (N : Int)).toNat, by have := Int.emod_nonneg y (show (N : Int) ≠ 0 by omega); omega⟩
      have hilZ : iZ < N := by have := Int.emod_lt_of_pos y (show (0 : Int) < (N : Int) by omega); omega
      have HMdZ := Lib.hid (fun w => Mod_any y (N : Int) w (by omega) (by omega))
      rw [hiZ] at HMdZ
      clear hiZ
      obtain ⟨gbZ, offZ, aZ, bZ, eAZ, hgbZ, hgZ, caZ, cbZ⟩ := r2.pr hilZ
      subst eAZ
      obtain ⟨q0Z, q1Z, q2Z, _⟩ := rgE_one (HV.out iZ (by rw [HN.out]; exact hilZ))
      rw [hgZ] at q0Z q1Z q2Z
      simp only at q0Z q1Z q2Z
      have HINZ := Lib.hid (fun F T (hF : aZ ≤ F) (hT : T ≤ bZ) => part_in (HV.out) (by rw [HN.out]; exact hilZ) hgZ hF hT)
      clear hgZ
      go_wp2_with (go_at_call 19; refine (HMdZ.out _).mono ?_; rintro e wx ⟨rfl, rfl⟩)
      go_at_call 22
      refine (cut_any aZ bZ x y _ q0Z q1Z q2Z).mono ?_
      rintro e w3Z ⟨FZ, TZ, rfl, hFZ, hFTZ, hTZ, b3Z⟩
      obtain ⟨LZ, hLlZ, hLmZ, hLuZ⟩ := undo2 rs FZ TZ HV.out (by omega) hFTZ (by omega) (fun p p1 p2 => HINZ.out FZ TZ hFZ hTZ p p1 p2)
      have HMpZ := Lib.hid (fun A c w h => Unmap_any A N c rs FZ TZ w h (by omega))
      rw [hLmZ] at HMpZ
      have HUnZ := Lib.hid (fun A c w h => Map_any A LZ.length c LZ FZ TZ 64 w h (by omega))
      rw [hLuZ] at HUnZ
      clear hLmZ hLuZ HINZ caZ cbZ
      have r3Z := (r2.below b3Z (Nat.le_refl _)).alloc (.cells #[.int .i64 FZ, .int .i64 TZ] 43)
      have B3Z : Below w.heap.size w (w3Z.alloc (.cells #[.int .i64 FZ, .int .i64 TZ] 43)) := balloc (bnext B2 b3Z) _
      have K3Z := Bk.new w3Z #[.int .i64 FZ, .int .i64 TZ] 43
      go_wp2_with fail
      generalize w3Z.alloc (.cells #[.int .i64 FZ, .int .i64 TZ] 43) = w4Z at *
      generalize w3Z.heap.size = pbZ at *
      have d0Z : w4Z.cell? ⟨pbZ, 0, none⟩ = some (.int .i64 FZ) := K3Z.cell 0
      have d1Z : w4Z.cell? ⟨pbZ, 1, none⟩ = some (.int .i64 TZ) := K3Z.cell 1
      go_cut [16, 17] (fun sa sb wx => ∃ A5 c5, sa = .slice A5 LZ.length c5 ∧ sb = .int .i64 0 ∧ Rd wx 2 A5 LZ.length (flat2 .i64 LZ) ∧ Below w4Z.heap.size w4Z wx)
      case first =>
        go_region_held3 (fun w' => w'.cell? ⟨pbZ, 0, none⟩ = some (.int .i64 FZ) ∧ w'.cell? ⟨pbZ, 1, none⟩ = some (.int .i64 TZ))
          (refine ⟨?_, ?_⟩ <;> (repeat (with_reducible first | exact d0Z | exact d1Z | refine rcell_later hbC ?_ | refine rcell_alloc _ ?_ | refine rcell_drew ?_ | refine rcell_later hbB ?_)))
          (first
            | (go_at_call 10; refine (OwnRanges_own _ N _ rs _ (by omega) (by repeat (with_reducible first | exact r3Z | refine rd_drewU ?_))).mono ?_; rintro e wB ⟨AB, cB, rfl, hownB, hbB⟩)
            | (go_at_call 16; refine (HMpZ.out AB cB _ (Rd.own hownB)).mono ?_; intro e wC hC; obtain ⟨AC, cC, rfl, rC, hbC⟩ := hC.open; clear hC))
        all_goals
          go_wp2_with fail
          go_meet
          exact ⟨AC, cC, rfl, rfl, rC, by repeat (with_reducible first | exact Below.refl _ _ | refine bnext ?_ hbC | refine bnext ?_ hbB | refine below_drew ?_)⟩
      case rest =>
        obtain ⟨A5, c5, rfl, rfl, r5Z, b5Z⟩ := hcut
        have K5Z := K3Z.to b5Z
        have q5Z := r3Z.below b5Z (Nat.le_refl _)
        have B5Z := bnext B3Z b5Z
        clear d0Z d1Z K3Z r3Z B3Z
        obtain ⟨ccZ, fcZ, lcZ⟩ := K5Z.facts
        go_wp2_with fail
        go_at_call 13
        refine (HUnZ.out A5 c5 _ r5Z).mono ?_
        intro e w6Z h6
        obtain ⟨A6, c6, rfl, r6Z, b6Z⟩ := h6.open
        rw [HN.out] at r6Z ⊢
        have q6Z := q5Z.below b6Z (Nat.le_refl _)
        have B6Z := bnext B5Z b6Z
        clear h6 ccZ fcZ lcZ
        go_wp2_with fail
        go_at_call 15
        refine (SameRanges_eq A6 _ N c6 _ rs _ r6Z q6Z (by omega)).mono ?_
        rintro e w7Z ⟨rfl, b7Z⟩
        have q7Z := q6Z.below b7Z (Nat.le_refl _)
        have B7Z := bnext B6Z b7Z
        clear q6Z q5Z r5Z r6Z K5Z b6Z b7Z b5Z HMpZ HUnZ B5Z B6Z
        go_wp2_with fail
        go_at_call 9
        refine (awake_true _).mono ?_
        rintro e w11 ⟨rfl, b11⟩
        go_wp2_with fail
        go_ret
        exact ⟨rfl, bnext B7Z b11⟩
  · have hl0X : 0 < M := by omega
    have hlIX : (0 : Int) < (M : Int) := by omega
    obtain ⟨iX, hiX⟩ : ∃ i : Nat, x % (M : Int) = i := ⟨(x % (M : Int)).toNat, by have := Int.emod_nonneg x (show (M : Int) ≠ 0 by omega); omega⟩
    have hilX : iX < M := by have := Int.emod_lt_of_pos x (show (0 : Int) < (M : Int) by omega); omega
    have HMdX := Lib.hid (fun w => Mod_any x (M : Int) w (by omega) (by omega))
    rw [hiX] at HMdX
    clear hiX
    obtain ⟨gbX, offX, aX, bX, eAX, hgbX, hgX, caX, cbX⟩ := g2.pr hilX
    subst eAX
    obtain ⟨q0X, q1X, q2X, _⟩ := rgE_one (HVG.out iX (by rw [HM.out]; exact hilX))
    rw [hgX] at q0X q1X q2X
    simp only at q0X q1X q2X
    have HINX := Lib.hid (fun F T (hF : aX ≤ F) (hT : T ≤ bX) => part_in (HVG.out) (by rw [HM.out]; exact hilX) hgX hF hT)
    clear hgX
    go_wp2_with (go_at_call 19; refine (HMdX.out _).mono ?_; rintro e wx ⟨rfl, rfl⟩)
    go_at_call 22
    refine (cut_any aX bX x y _ q0X q1X q2X).mono ?_
    rintro e w3X ⟨FX, TX, rfl, hFX, hFTX, hTX, b3X⟩
    obtain ⟨LX, hLlX, hLmX, hLuX⟩ := undo1 rs FX TX HV.out (by omega) hFTX (by omega) (fun p p1 p2 => HPG.out p (by omega) (HINX.out FX TX hFX hTX p p1 p2))
    have HMpX := Lib.hid (fun A c w h => Map_any A N c rs FX TX 64 w h (by omega))
    rw [hLmX] at HMpX
    have HUnX := Lib.hid (fun A c w h => Unmap_any A LX.length c LX FX TX w h (by omega))
    rw [hLuX] at HUnX
    clear hLmX hLuX HINX caX cbX
    have r3X := (r2.below b3X (Nat.le_refl _)).alloc (.cells #[.int .i64 FX, .int .i64 TX] 43)
    have B3X : Below w.heap.size w (w3X.alloc (.cells #[.int .i64 FX, .int .i64 TX] 43)) := balloc (bnext B2 b3X) _
    have K3X := Bk.new w3X #[.int .i64 FX, .int .i64 TX] 43
    go_wp2_with fail
    generalize w3X.alloc (.cells #[.int .i64 FX, .int .i64 TX] 43) = w4X at *
    generalize w3X.heap.size = pbX at *
    have d0X : w4X.cell? ⟨pbX, 0, none⟩ = some (.int .i64 FX) := K3X.cell 0
    have d1X : w4X.cell? ⟨pbX, 1, none⟩ = some (.int .i64 TX) := K3X.cell 1
    go_cut [11, 12] (fun sa sb wx => ∃ A5 c5, sa = .slice A5 LX.length c5 ∧ sb = .int .i64 0 ∧ Rd wx 2 A5 LX.length (flat2 .i64 LX) ∧ Below w4X.heap.size w4X wx)
    case first =>
      go_region_held3 (fun w' => w'.cell? ⟨pbX, 0, none⟩ = some (.int .i64 FX) ∧ w'.cell? ⟨pbX, 1, none⟩ = some (.int .i64 TX))
        (refine ⟨?_, ?_⟩ <;> (repeat (with_reducible first | exact d0X | exact d1X | refine rcell_later hbC ?_ | refine rcell_alloc _ ?_ | refine rcell_drew ?_ | refine rcell_later hbB ?_)))
        (first
          | (go_at_call 10; refine (OwnRanges_own _ N _ rs _ (by omega) (by repeat (with_reducible first | exact r3X | refine rd_drewU ?_))).mono ?_; rintro e wB ⟨AB, cB, rfl, hownB, hbB⟩)
          | (go_at_call 13; refine (HMpX.out AB cB _ (Rd.own hownB)).mono ?_; intro e wC hC; obtain ⟨AC, cC, rfl, rC, hbC⟩ := hC.open; clear hC))
      all_goals
        go_wp2_with fail
        go_meet
        exact ⟨AC, cC, rfl, rfl, rC, by repeat (with_reducible first | exact Below.refl _ _ | refine bnext ?_ hbC | refine bnext ?_ hbB | refine below_drew ?_)⟩
    case rest =>
      obtain ⟨A5, c5, rfl, rfl, r5X, b5X⟩ := hcut
      have K5X := K3X.to b5X
      have q5X := r3X.below b5X (Nat.le_refl _)
      have B5X := bnext B3X b5X
      clear d0X d1X K3X r3X B3X
      obtain ⟨ccX, fcX, lcX⟩ := K5X.facts
      go_wp2_with fail
      go_at_call 16
      refine (HUnX.out A5 c5 _ r5X).mono ?_
      intro e w6X h6
      obtain ⟨A6, c6, rfl, r6X, b6X⟩ := h6.open
      rw [HN.out] at r6X ⊢
      have q6X := q5X.below b6X (Nat.le_refl _)
      have B6X := bnext B5X b6X
      clear h6 ccX fcX lcX
      go_wp2_with fail
      go_at_call 15
      refine (SameRanges_eq A6 _ N c6 _ rs _ r6X q6X (by omega)).mono ?_
      rintro e w7X ⟨rfl, b7X⟩
      have q7X := q6X.below b7X (Nat.le_refl _)
      have B7X := bnext B6X b7X
      clear q6X q5X r5X r6X K5X b6X b7X b5X HMpX HUnX B5X B6X
      by_cases hN0Y : N = 0
      · have hnIY : ¬ (0 : Int) < (N : Int) := by omega
        go_wp2_with fail
        go_at_call 9
        refine (awake_true _).mono ?_
        rintro e w11 ⟨rfl, b11⟩
        go_wp2_with fail
        go_ret
        exact ⟨rfl, bnext B7X b11⟩
      · have hl0Y : 0 < N := by omega
        have hlIY : (0 : Int) < (N : Int) := by omega
        obtain ⟨iY, hiY⟩ : ∃ i : Nat, y % (N : Int) = i := ⟨(y % (N : Int)).toNat, by have := Int.emod_nonneg y (show (N : Int) ≠ 0 by omega); omega⟩
        have hilY : iY < N := by have := Int.emod_lt_of_pos y (show (0 : Int) < (N : Int) by omega); omega
        have HMdY := Lib.hid (fun w => Mod_any y (N : Int) w (by omega) (by omega))
        rw [hiY] at HMdY
        clear hiY
        obtain ⟨gbY, offY, aY, bY, eAY, hgbY, hgY, caY, cbY⟩ := q7X.pr hilY
        subst eAY
        obtain ⟨q0Y, q1Y, q2Y, _⟩ := rgE_one (HV.out iY (by rw [HN.out]; exact hilY))
        rw [hgY] at q0Y q1Y q2Y
        simp only at q0Y q1Y q2Y
        have HINY := Lib.hid (fun F T (hF : aY ≤ F) (hT : T ≤ bY) => part_in (HV.out) (by rw [HN.out]; exact hilY) hgY hF hT)
        clear hgY
        go_wp2_with (go_at_call 19; refine (HMdY.out _).mono ?_; rintro e wx ⟨rfl, rfl⟩)
        go_at_call 22
        refine (cut_any aY bY x y _ q0Y q1Y q2Y).mono ?_
        rintro e w3Y ⟨FY, TY, rfl, hFY, hFTY, hTY, b3Y⟩
        obtain ⟨LY, hLlY, hLmY, hLuY⟩ := undo2 rs FY TY HV.out (by omega) hFTY (by omega) (fun p p1 p2 => HINY.out FY TY hFY hTY p p1 p2)
        have HMpY := Lib.hid (fun A c w h => Unmap_any A N c rs FY TY w h (by omega))
        rw [hLmY] at HMpY
        have HUnY := Lib.hid (fun A c w h => Map_any A LY.length c LY FY TY 64 w h (by omega))
        rw [hLuY] at HUnY
        clear hLmY hLuY HINY caY cbY
        have r3Y := (q7X.below b3Y (Nat.le_refl _)).alloc (.cells #[.int .i64 FY, .int .i64 TY] 43)
        have B3Y : Below w.heap.size w (w3Y.alloc (.cells #[.int .i64 FY, .int .i64 TY] 43)) := balloc (bnext B7X b3Y) _
        have K3Y := Bk.new w3Y #[.int .i64 FY, .int .i64 TY] 43
        go_wp2_with fail
        generalize w3Y.alloc (.cells #[.int .i64 FY, .int .i64 TY] 43) = w4Y at *
        generalize w3Y.heap.size = pbY at *
        have d0Y : w4Y.cell? ⟨pbY, 0, none⟩ = some (.int .i64 FY) := K3Y.cell 0
        have d1Y : w4Y.cell? ⟨pbY, 1, none⟩ = some (.int .i64 TY) := K3Y.cell 1
        go_cut [16, 17] (fun sa sb wx => ∃ A5 c5, sa = .slice A5 LY.length c5 ∧ sb = .int .i64 0 ∧ Rd wx 2 A5 LY.length (flat2 .i64 LY) ∧ Below w4Y.heap.size w4Y wx)
        case first =>
          go_region_held3 (fun w' => w'.cell? ⟨pbY, 0, none⟩ = some (.int .i64 FY) ∧ w'.cell? ⟨pbY, 1, none⟩ = some (.int .i64 TY))
            (refine ⟨?_, ?_⟩ <;> (repeat (with_reducible first | exact d0Y | exact d1Y | refine rcell_later hbC ?_ | refine rcell_alloc _ ?_ | refine rcell_drew ?_ | refine rcell_later hbB ?_)))
            (first
              | (go_at_call 10; refine (OwnRanges_own _ N _ rs _ (by omega) (by repeat (with_reducible first | exact r3Y | refine rd_drewU ?_))).mono ?_; rintro e wB ⟨AB, cB, rfl, hownB, hbB⟩)
              | (go_at_call 16; refine (HMpY.out AB cB _ (Rd.own hownB)).mono ?_; intro e wC hC; obtain ⟨AC, cC, rfl, rC, hbC⟩ := hC.open; clear hC))
          all_goals
            go_wp2_with fail
            go_meet
            exact ⟨AC, cC, rfl, rfl, rC, by repeat (with_reducible first | exact Below.refl _ _ | refine bnext ?_ hbC | refine bnext ?_ hbB | refine below_drew ?_)⟩
        case rest =>
          obtain ⟨A5, c5, rfl, rfl, r5Y, b5Y⟩ := hcut
          have K5Y := K3Y.to b5Y
          have q5Y := r3Y.below b5Y (Nat.le_refl _)
          have B5Y := bnext B3Y b5Y
          clear d0Y d1Y K3Y r3Y B3Y
          obtain ⟨ccY, fcY, lcY⟩ := K5Y.facts
          go_wp2_with fail
          go_at_call 13
          refine (HUnY.out A5 c5 _ r5Y).mono ?_
          intro e w6Y h6
          obtain ⟨A6, c6, rfl, r6Y, b6Y⟩ := h6.open
          rw [HN.out] at r6Y ⊢
          have q6Y := q5Y.below b6Y (Nat.le_refl _)
          have B6Y := bnext B5Y b6Y
          clear h6 ccY fcY lcY
          go_wp2_with fail
          go_at_call 15
          refine (SameRanges_eq A6 _ N c6 _ rs _ r6Y q6Y (by omega)).mono ?_
          rintro e w7Y ⟨rfl, b7Y⟩
          have q7Y := q6Y.below b7Y (Nat.le_refl _)
          have B7Y := bnext B6Y b7Y
          clear q6Y q5Y r5Y r6Y K5Y b6Y b7Y b5Y HMpY HUnY B5Y B6Y
          go_wp2_with fail
          go_at_call 9
          refine (awake_true _).mono ?_
          rintro e w11 ⟨rfl, b11⟩
          go_wp2_with fail
          go_ret
          exact ⟨rfl, bnext B7Y b11⟩
end Go.Proofs.Ytfblbkhiaglelaa
