/- CowLooks returns true, whatever the sharing. -/
import Derived.Test.YtomndlnfidkdcaaDoorQJ
namespace Go.Proofs.YtomndlnfidkdcaaDoor
open Go Go.Proofs Go.RowKit Go.Maps
set_option linter.unusedSimpArgs false
set_option linter.unusedVariables false
set_option maxRecDepth 100000

set_option maxHeartbeats 16000000 in
theorem CowLooks_true (A : Option Addr) (n c : Nat) (t : Sh) (table page : Int) (w : World) (hR : RR uw 1 w A n t) (hn : n ≤ maxLen) (hs : shsmall t) (hL : LayOK w) :
    Calls Tryd.prog 4 #[.slice A n c, .int .i64 table, .int .i64 page] w fun e w' => e = .returned (.bool true) ∧ Below w.heap.size w w' := by
  unfold maxLen at hn
  have HLG := Lib.hid (large_any A n c t w hR (by unfold maxLen; omega))
  have hB0 := Below.refl w.heap.size w
  have HR := Lib.hid hR
  have HS := Lib.hid hs
  clear hR hs
  go_enter Tryd.func4, Tryd.ntmps4
  go_wp2_with fail
  refine HLG.out.mono ?_
  rintro e w' ⟨b, rfl, hb, rfl⟩
  cases b with
  | true =>
    clear hb
    go_wp2_with fail
    refine (awake_true _ hL).mono ?_
    rintro e w1 ⟨rfl, hb1⟩
    go_wp2
    go_ret
    exact ⟨rfl, hb1⟩
  | false =>
    obtain ⟨h70, h10⟩ := hb rfl
    have hIn : InS w A n t := ⟨HR.out, HS.out, h70, by rw [HR.out.len] at h10; omega⟩
    have FT : Hid (FitS t) := Lib.hid hIn.fit
    have hT := hIn.sho c
    clear hb h70 h10
    rcases h1 : shE t with ⟨z1, z2⟩
    rcases h2 : cntsR t with ⟨m1, m2, z3⟩
    rcases h3 : decR t table page with ⟨d1, d2⟩
    rcases h4 : shR t table page with ⟨L, z4⟩
    have hm : m1.length ≤ 256 ∧ m2.length ≤ 256 := by
      unfold cntsR at h2
      split at h2
      · injection h2 with e1 e2; injection e2 with e2 e3; rw [← e1, ← e2]; simp
      · injection h2 with e1 e2; injection e2 with e2 e3; rw [← e1, ← e2, mapsL_len, mapsL_len]; omega
    have hLl : L.length ≤ 2000 := by
      have h5 := shAll_le t table.toNat page.toNat 70 FT.out.rows t.length (Nat.le_refl _)
      have h6 : t.length * 70 ≤ 11 * 70 := Nat.mul_le_mul_right _ FT.out.few
      unfold shR at h4
      split at h4
      · injection h4 with e1 e2; rw [← e1]; simp
      · injection h4 with e1 e2
        rw [← e1]
        unfold shL
        split
        · simp
        · omega
    have H1 := Lib.hid h1
    have H2 := Lib.hid h2
    have H3 := Lib.hid h3
    have H4 := Lib.hid h4
    clear h1 h2 h3 h4
    obtain ⟨M1, hM1⟩ : ∃ M, M = m1.length := ⟨_, rfl⟩
    obtain ⟨M2, hM2⟩ : ∃ M, M = m2.length := ⟨_, rfl⟩
    obtain ⟨N, hN⟩ : ∃ M, M = L.length := ⟨_, rfl⟩
    rw [← hM1, ← hM2] at hm
    rw [← hN] at hLl
    obtain ⟨hm1, hm2⟩ := hm
    have HM1 := Lib.hid hM1
    have HM2 := Lib.hid hM2
    have HN := Lib.hid hN
    clear hM1 hM2 hN
    go_wp2_with fail
    refine (OwnSh_any A n c t _ hIn).mono ?_
    rintro e w1 ⟨v1, rfl, hO, hb1⟩
    have hI := hO.sho
    clear hO
    replace hIn := hIn.to hb1
    replace hT := hT.to hb1
    replace hL := hL.below hb1
    replace hB0 := bnext hB0 hb1
    clear hb1
    go_wp2_with fail
    have hcall := oCheck_any _ _ _ hI FT.out hL
    rw [H1.out] at hcall
    simp only at hcall
    refine hcall.mono ?_
    clear hcall
    rintro e w2 ⟨rfl, hb2⟩
    replace hIn := hIn.to hb2
    replace hT := hT.to hb2
    replace hI := hI.to hb2
    replace hL := hL.below hb2
    replace hB0 := bnext hB0 hb2
    clear hb2
    go_wp2_with fail
    have hcall := qCheck_any A n c t _ hIn
    rw [H1.out] at hcall
    simp only at hcall
    refine hcall.mono ?_
    clear hcall
    rintro e w3 ⟨rfl, hb3⟩
    replace hIn := hIn.to hb3
    replace hT := hT.to hb3
    replace hI := hI.to hb3
    replace hL := hL.below hb3
    replace hB0 := bnext hB0 hb3
    clear hb3
    go_wp2_with fail
    have hcall := oCounts_any _ _ _ hI FT.out hL
    unfold CntR at hcall
    rw [H2.out] at hcall
    simp only [← HM1.out, ← HM2.out] at hcall
    refine hcall.mono ?_
    clear hcall
    rintro e w4 ⟨A1, c1, B1, d1, rfl, hA1, hB1, hb4⟩
    replace hIn := hIn.to hb4
    replace hT := hT.to hb4
    replace hI := hI.to hb4
    replace hL := hL.below hb4
    replace hB0 := bnext hB0 hb4
    clear hb4
    go_wp2_with fail
    have hcall := qCounts_any A n c t _ hIn
    unfold CntR at hcall
    rw [H2.out] at hcall
    simp only [← HM1.out, ← HM2.out] at hcall
    refine hcall.mono ?_
    clear hcall
    rintro e w5 ⟨A2, c2, B2, d2, rfl, hA2, hB2, hb5⟩
    replace hA1 := hA1.below hb5 (Nat.le_refl _)
    replace hB1 := hB1.below hb5 (Nat.le_refl _)
    replace hIn := hIn.to hb5
    replace hT := hT.to hb5
    replace hI := hI.to hb5
    replace hL := hL.below hb5
    replace hB0 := bnext hB0 hb5
    clear hb5
    go_wp2_with fail
    refine (SameInts_eq _ _ _ _ _ m1 _ hA1 hA2 (by omega)).mono ?_
    rintro e w6 ⟨rfl, hb6⟩
    replace hA1 := hA1.below hb6 (Nat.le_refl _)
    replace hB1 := hB1.below hb6 (Nat.le_refl _)
    replace hA2 := hA2.below hb6 (Nat.le_refl _)
    replace hB2 := hB2.below hb6 (Nat.le_refl _)
    replace hIn := hIn.to hb6
    replace hT := hT.to hb6
    replace hI := hI.to hb6
    replace hL := hL.below hb6
    replace hB0 := bnext hB0 hb6
    clear hb6
    go_wp2_with fail
    refine (SameInts_eq _ _ _ _ _ m2 _ hB1 hB2 (by omega)).mono ?_
    rintro e w7 ⟨rfl, hb7⟩
    replace hA1 := hA1.below hb7 (Nat.le_refl _)
    replace hB1 := hB1.below hb7 (Nat.le_refl _)
    replace hA2 := hA2.below hb7 (Nat.le_refl _)
    replace hB2 := hB2.below hb7 (Nat.le_refl _)
    replace hIn := hIn.to hb7
    replace hT := hT.to hb7
    replace hI := hI.to hb7
    replace hL := hL.below hb7
    replace hB0 := bnext hB0 hb7
    clear hb7
    clear hA1 hA2 hB1 hB2
    go_wp2_with fail
    have hcall := oDecide_any _ _ table page _ hI FT.out hL
    rw [H3.out] at hcall
    simp only at hcall
    refine hcall.mono ?_
    clear hcall
    rintro e w8 ⟨rfl, hb8⟩
    replace hIn := hIn.to hb8
    replace hT := hT.to hb8
    replace hI := hI.to hb8
    replace hL := hL.below hb8
    replace hB0 := bnext hB0 hb8
    clear hb8
    go_wp2_with fail
    have hcall := qDecide_any A n c t table page _ hIn
    rw [H3.out] at hcall
    simp only at hcall
    refine hcall.mono ?_
    clear hcall
    rintro e w9 ⟨rfl, hb9⟩
    replace hIn := hIn.to hb9
    replace hT := hT.to hb9
    replace hI := hI.to hb9
    replace hL := hL.below hb9
    replace hB0 := bnext hB0 hb9
    clear hb9
    go_wp2_with fail
    have hcall := oSharers_any _ _ table page _ hI FT.out hL
    unfold ShrR at hcall
    rw [H4.out] at hcall
    simp only [← HN.out] at hcall
    refine hcall.mono ?_
    clear hcall
    rintro e w10 ⟨X, cX, rfl, hX, hb10⟩
    replace hIn := hIn.to hb10
    replace hT := hT.to hb10
    replace hI := hI.to hb10
    replace hL := hL.below hb10
    replace hB0 := bnext hB0 hb10
    clear hb10
    go_wp2_with fail
    have hcall := qSharers_any A n c t table page _ hIn
    unfold ShrR at hcall
    rw [H4.out] at hcall
    simp only [← HN.out] at hcall
    refine hcall.mono ?_
    clear hcall
    rintro e w11 ⟨Y, cY, rfl, hY, hb11⟩
    replace hX := hX.below hb11 (Nat.le_refl _)
    replace hIn := hIn.to hb11
    replace hT := hT.to hb11
    replace hI := hI.to hb11
    replace hL := hL.below hb11
    replace hB0 := bnext hB0 hb11
    clear hb11
    have HX := Lib.hid hX
    have HY := Lib.hid hY
    have HI := Lib.hid hI
    have HT := Lib.hid hT
    have HLay := Lib.hid hL
    have HB0 := Lib.hid hB0
    clear hX hY hI hT hIn hL hB0
    go_wp2
    go_loopw [22] (fun i wr => ∃ k : Nat, k ≤ N ∧ i = .int .i64 k ∧ Below w11.heap.size w11 wr) (fun i _ => N - (intOf i).toNat)
    case atStart => exact ⟨0, Nat.zero_le _, rfl, Below.refl _ _⟩
    case round =>
      obtain ⟨k, hk, rfl, hbw⟩ := hrel
      by_cases hlt : k < N
      · obtain ⟨g1, o1, r1, rfl, hl1, hr1, hc1, hc1'⟩ := (HX.out.below hbw (Nat.le_refl _)).pair hlt
        obtain ⟨g2, o2, r2, rfl, hl2, hr2, hc2, hc2'⟩ := (HY.out.below hbw (Nat.le_refl _)).pair hlt
        rw [hr1] at hr2
        injection hr2 with hr2
        subst hr2
        have hlt2 : (k : Int) < (N : Int) := by omega
        clear hr1
        go_wp2_with fail
        go_quiet (fail)
        go_wp2
        go_roundw
        case rel => exact ⟨k + 1, by omega, by go_num, below_drawn hbw _⟩
        case measure => simp [intOf]; omega
      · have hnlt : ¬ (k : Int) < (N : Int) := by omega
        have HBW := Lib.hid hbw
        go_wp2_with fail
        refine (oSame _ _ _ _ (HI.out.to hbw) (HT.out.to hbw) FT.out).mono ?_
        rintro e w30 ⟨rfl, hb30⟩
        go_wp2_with fail
        refine (awake_true _ ((HLay.out.below hbw).below hb30)).mono ?_
        rintro e w31 ⟨rfl, hb31⟩
        go_wp2
        go_ret
        exact ⟨rfl, bnext (bnext (bnext HB0.out hbw) hb30) hb31⟩
end Go.Proofs.YtomndlnfidkdcaaDoor
