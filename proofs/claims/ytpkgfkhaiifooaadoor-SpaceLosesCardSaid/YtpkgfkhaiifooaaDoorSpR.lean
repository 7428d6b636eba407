/- What the reference of chapter 27 returns: Check, Access, Size. -/
import Derived.Test.YtpkgfkhaiifooaaDoorSpO
import Derived.Test.YtpkgfkhaiifooaaDoorGC
import Derived.Test.YtpkgfkhaiifooaaDoorGY
namespace Go.Proofs.YtpkgfkhaiifooaaDoor
open Go Go.Proofs Go.RowKit
set_option linter.unusedSimpArgs false
set_option linter.unusedVariables false
set_option maxRecDepth 100000

theorem out_step {rs : List (Int × Int)} {es : List Nat} {k : Nat} (h : fst0 (outE rs es) k = 0) (hk : outE rs es k = 0) : fst0 (outE rs es) (k + 1) = 0 := fst0_step _ k h hk
set_option maxHeartbeats 4000000 in
theorem rSpCheck_any (rs : List (Int × Int)) (r : Int) (ls : List Int) (es : List Nat) (v : Value) (w : World) (hv : SpV w v (rs, r, ls, es)) (hn : rs.length ≤ 1000000) (hs : wsmall es) :
    Calls Tryd.prog 24 #[v] w fun e w' => e = .returned (.int .i64 (spcE (rs, r, ls, es))) ∧ Below w.heap.size w w' := by
  obtain ⟨A, c, L, cl, B, d, rfl, hA, hLs, hB, hcc⟩ := hv
  simp only at hA hLs hB hcc
  unfold spcV
  simp only
  have kS := Bk.new w #[.slice A rs.length c, .int .i64 r, .slice L ls.length cl, .slice B es.length d] 28
  have hB1 := balloc (Below.refl _ w) (.cells #[.slice A rs.length c, .int .i64 r, .slice L ls.length cl, .slice B es.length d] 28)
  generalize hw1 : w.alloc (.cells #[.slice A rs.length c, .int .i64 r, .slice L ls.length cl, .slice B es.length d] 28) = w1 at *
  have hA1 := hA.below hB1 (Nat.le_refl _)
  have hT1 : TbV w1 (.agg #[.int .i64 r, .slice L ls.length cl, .slice B es.length d]) (r, ls, es) := tbv_of (hLs.below hB1 (Nat.le_refl _)) (hB.below hB1 (Nat.le_refl _)) hcc
  obtain ⟨cS, fS, lS⟩ := kS.facts
  by_cases hE1 : (regE rs).1 = 0
  case neg =>
    have HV := Lib.hid (spc_bad1 (s := (rs, r, ls, es)) hE1)
    have hd : ((regE rs).1 != 0) = true := by simpa using hE1
    go_enter Tryd.func24, Tryd.ntmps24
    go_wp2_with fail
    refine (rCheckR_any A rs.length c rs _ hA1 hn).mono ?_
    rintro e w2 ⟨rfl, hb2⟩
    go_wp2_with fail
    go_ret
    exact ⟨by rw [HV.out]; rfl, bnext hB1 hb2⟩
  by_cases hE2 : tabE r ls es = 0
  case neg =>
    have HV := Lib.hid (spc_bad2 (s := (rs, r, ls, es)) hE1 hE2)
    have hd : (tabE r ls es != 0) = true := by simpa using hE2
    go_enter Tryd.func24, Tryd.ntmps24
    go_wp2_with fail
    refine (rCheckR_any A rs.length c rs _ hA1 hn).mono ?_
    rw [hE1]
    rintro e w2 ⟨rfl, hb2⟩
    clear cS fS lS hE1
    obtain ⟨cS, fS, lS⟩ := (kS.to hb2).facts
    go_wp2_with fail
    refine (rTCheck_any r ls es _ _ (hT1.to hb2) hs).mono ?_
    rintro e w3 ⟨rfl, hb3⟩
    clear hE2
    go_wp2_with fail
    go_ret
    exact ⟨by rw [HV.out]; rfl, bnext (bnext hB1 hb2) hb3⟩
  have HV := Lib.hid (spc_rest (s := (rs, r, ls, es)) hE1 hE2)
  simp only at HV
  have hg := regE_zero rs hE1
  have HTab := Lib.hid hE2
  go_enter Tryd.func24, Tryd.ntmps24
  go_wp2_with fail
  refine (rCheckR_any A rs.length c rs _ hA1 hn).mono ?_
  rw [hE1]
  rintro e w2 ⟨rfl, hb2⟩
  clear cS fS lS hE1
  obtain ⟨cS, fS, lS⟩ := (kS.to hb2).facts
  go_wp2_with fail
  refine (rTCheck_any r ls es _ _ (hT1.to hb2) hs).mono ?_
  rw [hE2]
  rintro e w3 ⟨rfl, hb3⟩
  clear hE2 cS fS lS
  have hb13 := bnext hb2 hb3
  clear hb2 hb3 hw1
  go_wp2_with fail
  go_loopw [6] (fun i wr => ∃ k : Nat, k ≤ 64 ∧ i = .int .i64 k ∧ Hid (fst0 (outE rs es) k = 0) ∧ Below w1.heap.size w1 wr) (fun i _ => 64 - (intOf i).toNat)
  case atStart => exact ⟨0, by omega, rfl, Lib.hid rfl, hb13⟩
  case round =>
    clear hb13
    obtain ⟨k, hk, rfl, Hno, hbr⟩ := hrel
    obtain ⟨cS, fS, lS⟩ := (kS.to hbr).facts
    by_cases hlt : k < 64
    · have HG := Lib.hid (fun W h1 => rGet_any r ls es (.agg #[.int .i64 r, .slice L ls.length cl, .slice B es.length d]) k W h1 hs)
      rw [get_in HTab.out k hlt] at HG
      have HH := Lib.hid (fun W h => rHas_any A rs.length c rs k W h hn)
      rw [hasRg_ok rs k hg hlt] at HH
      have her := unp_in HTab.out k hlt
      have hun : unpK (es.getD k 0) = (unpR (es.getD k 0)).1.1 := rfl
      have Hout0 := Lib.hid (fun (h : unpK (es.getD k 0) = 0 ∨ hasP rs k = true) => out_step Hno.out (outE_no h))
      have Hout9 := Lib.hid (fun (h1 : unpK (es.getD k 0) ≠ 0) (h2 : hasP rs k = false) => (fst0_9 _ (outE_9 rs es) 64 k hlt (by rw [outE_yes h1 h2]; decide)))
      rw [hun] at Hout0 Hout9
      clear hun
      rcases hu : unpR (es.getD k 0) with ⟨⟨ek, en, ea, eb, ec⟩, er⟩
      rw [hu] at HG her Hout0 Hout9
      simp only at her HG Hout0 Hout9
      subst her
      clear hu
      have hArr := hA1.below hbr (Nat.le_refl _)
      have hTr := hT1.to hbr
      generalize hasP rs k = m at *
      by_cases hk0 : ek = 0
      · subst hk0
        have H0 := Lib.hid (Hout0.out (.inl rfl))
        clear Hout0 Hout9
        go_wp2_with (first
          | (go_at_call 62; refine (HG.out _ hTr).mono ?_; rintro e w4 ⟨rfl, hb4⟩; clear cS fS lS; obtain ⟨cS, fS, lS⟩ := ((kS.to hbr).to hb4).facts)
          | (go_at_call 52; refine (HH.out _ ((hArr.below hb4 (Nat.le_refl _)).alloc _)).mono ?_; rintro e w5 ⟨rfl, hb5⟩; obtain ⟨cE, fE, lE⟩ := ((Bk.new w4 _ _).to hb5).facts))
        go_roundw
        case rel => exact ⟨k + 1, by omega, by go_num, H0, bnext (balloc (bnext hbr hb4) _) hb5⟩
        case measure => simp [intOf]; omega
      · have hd : (ek != 0) = true := by simpa using hk0
        cases m
        · have H9 := Lib.hid (Hout9.out hk0 rfl)
          clear Hout0 Hout9 hk0
          go_wp2_with (first
            | (go_at_call 62; refine (HG.out _ hTr).mono ?_; rintro e w4 ⟨rfl, hb4⟩; clear cS fS lS; obtain ⟨cS, fS, lS⟩ := ((kS.to hbr).to hb4).facts)
            | (go_at_call 52; refine (HH.out _ ((hArr.below hb4 (Nat.le_refl _)).alloc _)).mono ?_; rintro e w5 ⟨rfl, hb5⟩; obtain ⟨cE, fE, lE⟩ := ((Bk.new w4 _ _).to hb5).facts))
          go_ret
          exact ⟨by rw [HV.out, H9.out]; rfl, bnext hB1 (bnext (balloc (bnext hbr hb4) _) hb5)⟩
        · have H0 := Lib.hid (Hout0.out (.inr rfl))
          clear Hout0 Hout9 hk0
          go_wp2_with (first
            | (go_at_call 62; refine (HG.out _ hTr).mono ?_; rintro e w4 ⟨rfl, hb4⟩; clear cS fS lS; obtain ⟨cS, fS, lS⟩ := ((kS.to hbr).to hb4).facts)
            | (go_at_call 52; refine (HH.out _ ((hArr.below hb4 (Nat.le_refl _)).alloc _)).mono ?_; rintro e w5 ⟨rfl, hb5⟩; obtain ⟨cE, fE, lE⟩ := ((Bk.new w4 _ _).to hb5).facts))
          go_roundw
          case rel => exact ⟨k + 1, by omega, by go_num, H0, bnext (balloc (bnext hbr hb4) _) hb5⟩
          case measure => simp [intOf]; omega
    · obtain rfl : k = 64 := by omega
      go_wp2_with fail
      go_ret
      exact ⟨by rw [HV.out, Hno.out]; rfl, bnext hB1 hbr⟩

set_option maxHeartbeats 4000000 in
theorem rSize_any (rs : List (Int × Int)) (r : Int) (ls : List Int) (es : List Nat) (v : Value) (w : World) (hv : SpV w v (rs, r, ls, es)) (hn : rs.length ≤ 1000000) (hs : wsmall es) :
    Calls Tryd.prog 28 #[v] w fun e w' => e = .returned (.tuple #[.int .i64 (sizR (rs, r, ls, es)).1, .int .i64 (sizR (rs, r, ls, es)).2]) ∧ Below w.heap.size w w' := by
  obtain ⟨A, c, L, cl, B, d, hve, hA, hLs, hB, hcc⟩ := id hv
  subst hve
  unfold spcV at hv ⊢
  simp only at hv ⊢ hA hLs hB hcc
  have kS := Bk.new w #[.slice A rs.length c, .int .i64 r, .slice L ls.length cl, .slice B es.length d] 28
  have hB1 := balloc (Below.refl _ w) (.cells #[.slice A rs.length c, .int .i64 r, .slice L ls.length cl, .slice B es.length d] 28)
  generalize hw1 : w.alloc (.cells #[.slice A rs.length c, .int .i64 r, .slice L ls.length cl, .slice B es.length d] 28) = w1 at *
  have hT1 : TbV w1 (.agg #[.int .i64 r, .slice L ls.length cl, .slice B es.length d]) (r, ls, es) := tbv_of (hLs.below hB1 (Nat.le_refl _)) (hB.below hB1 (Nat.le_refl _)) hcc
  have HC := Lib.hid (rSpCheck_any rs r ls es _ _ (hv.to hB1) hn hs)
  obtain ⟨cS, fS, lS⟩ := kS.facts
  by_cases hE : spcE (rs, r, ls, es) = 0
  case neg =>
    have hR : sizR (rs, r, ls, es) = (0, spcE (rs, r, ls, es)) := by unfold sizR; rw [if_pos hE]
    rw [hR]
    have hd : (spcE (rs, r, ls, es) != 0) = true := by simpa using hE
    generalize spcE (rs, r, ls, es) = z at *
    clear hR hE
    go_enter Tryd.func28, Tryd.ntmps28
    go_wp2_with (go_at_call 24; refine HC.out.mono ?_; rintro e w2 ⟨rfl, hb2⟩)
    go_ret2
    exact ⟨rfl, bnext hB1 hb2⟩
  obtain ⟨_, hT, _⟩ := spc_zero hE
  simp only at hT
  have hl : ∀ kd, (kinL es kd 64).length ≤ 64 := fun kd => by unfold kinL; rw [List.length_map]; have := List.length_filter_le (fun p => unpK (es.getD p 0) == kd) (List.range 64); simpa using this
  have h1 := hl 1
  have h2 := hl 2
  have hc : cntR r ls es = (((kinL es 1 64).length : Int), ((kinL es 2 64).length : Int), (0 : Int)) := by unfold cntR; rw [if_neg (by simp [hT])]
  have hR : sizR (rs, r, ls, es) = (((kinL es 1 64).length : Int) + (kinL es 2 64).length, 0) := by unfold sizR; rw [if_neg (by simpa using hE)]
  rw [hR]
  rw [hE] at HC
  have HK := Lib.hid (fun W h => rCounts_any r ls es (.agg #[.int .i64 r, .slice L ls.length cl, .slice B es.length d]) W h hs)
  rw [hc] at HK
  simp only at HK
  generalize (kinL es 1 64).length = a at *
  generalize (kinL es 2 64).length = b at *
  clear hR hE hT hc hl
  go_enter Tryd.func28, Tryd.ntmps28
  go_wp2_with (first
    | (go_at_call 24; refine HC.out.mono ?_; rintro e w2 ⟨rfl, hb2⟩; clear cS fS lS; obtain ⟨cS, fS, lS⟩ := (kS.to hb2).facts)
    | (go_at_call 66; refine (HK.out _ (hT1.to hb2)).mono ?_; rintro e w3 ⟨rfl, hb3⟩))
  go_ret2
  exact ⟨rfl, bnext (bnext hB1 hb2) hb3⟩

set_option maxHeartbeats 4000000 in
theorem rAccess_any (rs : List (Int × Int)) (r : Int) (ls : List Int) (es : List Nat) (v : Value) (page : Int) (wr : Bool) (count : Int) (w : World) (hv : SpV w v (rs, r, ls, es)) (hn : rs.length ≤ 1000000) (hs : wsmall es) :
    Calls Tryd.prog 23 #[v, .int .i64 page, .bool wr, .int .i64 count] w fun e w' => e = .returned (.tuple #[.int .i64 (accR (rs, r, ls, es) page wr count).1, .int .i64 (accR (rs, r, ls, es) page wr count).2]) ∧ Below w.heap.size w w' := by
  obtain ⟨A, c, L, cl, B, d, hve, hA, hLs, hB, hcc⟩ := id hv
  subst hve
  unfold spcV at hv ⊢
  simp only at hv ⊢ hA hLs hB hcc
  have kS := Bk.new w #[.slice A rs.length c, .int .i64 r, .slice L ls.length cl, .slice B es.length d] 28
  have hB1 := balloc (Below.refl _ w) (.cells #[.slice A rs.length c, .int .i64 r, .slice L ls.length cl, .slice B es.length d] 28)
  generalize hw1 : w.alloc (.cells #[.slice A rs.length c, .int .i64 r, .slice L ls.length cl, .slice B es.length d] 28) = w1 at *
  have hA1 := hA.below hB1 (Nat.le_refl _)
  have hT1 : TbV w1 (.agg #[.int .i64 r, .slice L ls.length cl, .slice B es.length d]) (r, ls, es) := tbv_of (hLs.below hB1 (Nat.le_refl _)) (hB.below hB1 (Nat.le_refl _)) hcc
  have HC := Lib.hid (rSpCheck_any rs r ls es _ _ (hv.to hB1) hn hs)
  obtain ⟨cS, fS, lS⟩ := kS.facts
  by_cases hE : spcE (rs, r, ls, es) = 0
  case neg =>
    have hR : accR (rs, r, ls, es) page wr count = (0, spcE (rs, r, ls, es)) := by unfold accR; rw [if_pos hE]
    rw [hR]
    have hd : (spcE (rs, r, ls, es) != 0) = true := by simpa using hE
    generalize spcE (rs, r, ls, es) = z at *
    clear hR hE
    go_enter Tryd.func23, Tryd.ntmps23
    go_wp2_with (go_at_call 24; refine HC.out.mono ?_; rintro e w2 ⟨rfl, hb2⟩)
    go_ret2
    exact ⟨rfl, bnext hB1 hb2⟩
  by_cases hr : page < 0 ∨ 63 < page ∨ count < 0 ∨ 256 < count
  · have hR : accR (rs, r, ls, es) page wr count = (0, 2) := by unfold accR; rw [if_neg (by simpa using hE), if_pos hr]
    rw [hR]
    rw [hE] at HC
    have hcs : (page < 0) ∨ (¬ page < 0 ∧ 64 ≤ page) ∨ (¬ page < 0 ∧ ¬ 64 ≤ page ∧ count < 0) ∨ (¬ page < 0 ∧ ¬ 64 ≤ page ∧ ¬ count < 0 ∧ 256 < count) := by omega
    clear hR hr
    rcases hcs with h1 | ⟨h1, h2⟩ | ⟨h1, h2, h3⟩ | ⟨h1, h2, h3, h4⟩
    all_goals
      go_enter Tryd.func23, Tryd.ntmps23
      go_wp2_with (go_at_call 24; refine HC.out.mono ?_; rintro e w2 ⟨rfl, hb2⟩)
      go_ret2
      exact ⟨rfl, bnext hB1 hb2⟩
  have hR : accR (rs, r, ls, es) page wr count = (finR (rs, r, ls, es) page.toNat wr count, 0) := by unfold accR; rw [if_neg (by simpa using hE), if_neg hr]
  rw [hR, finR_eq]
  simp only
  have q1 : ¬ page < 0 := by omega
  have q2 : ¬ 64 ≤ page := by omega
  have q3 : ¬ count < 0 := by omega
  have q4 : ¬ 256 < count := by omega
  clear hr hR
  obtain ⟨p, rfl⟩ : ∃ p : Nat, page = p := ⟨page.toNat, by omega⟩
  have hp : p < 64 := by omega
  rw [Int.toNat_natCast]
  rw [hE] at HC
  obtain ⟨hg, hT, _⟩ := spc_zero hE
  simp only at hg hT
  have HH := Lib.hid (fun W h => rHas_any A rs.length c rs p W h hn)
  rw [hasRg_ok rs p hg hp] at HH
  have HG := Lib.hid (fun W h => rGet_any r ls es (.agg #[.int .i64 r, .slice L ls.length cl, .slice B es.length d]) p W h hs)
  rw [get_in hT p hp] at HG
  have HLk := Lib.hid (fun W h => rLacks_any r ls es (.agg #[.int .i64 r, .slice L ls.length cl, .slice B es.length d]) p W h hs)
  have hlk : lackR r ls es p = (decide (ls.getD (p / 8) 0 = -1), 0) := by
    have ha : askE r ls es p = 0 := by unfold askE; rw [orE_r _ hT, if_neg (by omega)]
    unfold lackR
    rw [if_neg (by simp [ha]), Int.toNat_natCast]
  rw [hlk] at HLk
  clear hlk
  have hent : entP es p = (unpR (es.getD p 0)).1 := rfl
  have her := unp_in hT p hp
  rw [hent]
  rcases hu : unpR (es.getD p 0) with ⟨⟨ek, en, ea, eb, ec⟩, er⟩
  rw [hu] at HG her
  simp only at her HG ⊢
  subst her
  clear hu hent hT hE hLs hB
  generalize decide (ls.getD (p / 8) 0 = -1) = lk at *
  generalize hasP rs p = m at *
  have hcs : (∃ z, z = finV m lk wr ea ek count) ∧ (m = false ∨ (m = true ∧ ek = 2) ∨ (m = true ∧ ek ≠ 2 ∧ ek = 0 ∧ wr = false) ∨ (m = true ∧ ek ≠ 2 ∧ ek = 0 ∧ wr = true ∧ lk = true) ∨ (m = true ∧ ek ≠ 2 ∧ ek = 0 ∧ wr = true ∧ lk = false) ∨ (m = true ∧ ek ≠ 2 ∧ ek ≠ 0 ∧ wr = false) ∨ (m = true ∧ ek ≠ 2 ∧ ek ≠ 0 ∧ wr = true ∧ ea = true) ∨ (m = true ∧ ek ≠ 2 ∧ ek ≠ 0 ∧ wr = true ∧ ea = false ∧ count ≤ 1) ∨ (m = true ∧ ek ≠ 2 ∧ ek ≠ 0 ∧ wr = true ∧ ea = false ∧ ¬ count ≤ 1)) := by
    refine ⟨⟨_, rfl⟩, ?_⟩
    cases m <;> cases wr <;> cases lk <;> cases ea <;> simp <;> omega
  obtain ⟨⟨z, hz⟩, hcs⟩ := hcs
  rw [← hz]
  have HZ := Lib.hid hz
  clear hz
  rcases hcs with h0 | ⟨h0, h1⟩ | ⟨h0, h1, h2, h3⟩ | ⟨h0, h1, h2, h3, h4⟩ | ⟨h0, h1, h2, h3, h4⟩ | ⟨h0, h1, h2, h3⟩ | ⟨h0, h1, h2, h3, h4⟩ | ⟨h0, h1, h2, h3, h4, h5⟩ | ⟨h0, h1, h2, h3, h4, h5⟩
  · subst h0
    have HZ2 := Lib.hid (show z = 1 from by rw [HZ.out]; simp [finV])
    clear HZ
    go_enter Tryd.func23, Tryd.ntmps23
    go_wp2_with (first
      | (go_at_call 24; refine HC.out.mono ?_; rintro e w2 ⟨rfl, hb2⟩; clear cS fS lS; obtain ⟨cS, fS, lS⟩ := (kS.to hb2).facts)
      | (go_at_call 52; refine (HH.out _ (hA1.below hb2 (Nat.le_refl _))).mono ?_; rintro e w3 ⟨rfl, hb3⟩; clear cS fS lS; obtain ⟨cS, fS, lS⟩ := ((kS.to hb2).to hb3).facts)
      | (go_at_call 62; refine (HG.out _ ((hT1.to hb2).to hb3)).mono ?_; rintro e w4 ⟨rfl, hb4⟩; clear cS fS lS; obtain ⟨cS, fS, lS⟩ := (((kS.to hb2).to hb3).to hb4).facts)
      | (go_at_call 63; refine (HLk.out _ ((((hT1.to hb2).to hb3).to hb4).alloc _)).mono ?_; rintro e w5 ⟨rfl, hb5⟩; obtain ⟨cE, fE, lE⟩ := ((Bk.new w4 _ _).to hb5).facts))
    go_ret2
    exact ⟨by rw [HZ2.out]; rfl, bnext (balloc (bnext (bnext (bnext hB1 hb2) hb3) hb4) _) hb5⟩
  · subst h0 h1
    have HZ2 := Lib.hid (show z = 8 from by rw [HZ.out]; simp [finV])
    clear HZ
    go_enter Tryd.func23, Tryd.ntmps23
    go_wp2_with (first
      | (go_at_call 24; refine HC.out.mono ?_; rintro e w2 ⟨rfl, hb2⟩; clear cS fS lS; obtain ⟨cS, fS, lS⟩ := (kS.to hb2).facts)
      | (go_at_call 52; refine (HH.out _ (hA1.below hb2 (Nat.le_refl _))).mono ?_; rintro e w3 ⟨rfl, hb3⟩; clear cS fS lS; obtain ⟨cS, fS, lS⟩ := ((kS.to hb2).to hb3).facts)
      | (go_at_call 62; refine (HG.out _ ((hT1.to hb2).to hb3)).mono ?_; rintro e w4 ⟨rfl, hb4⟩; clear cS fS lS; obtain ⟨cS, fS, lS⟩ := (((kS.to hb2).to hb3).to hb4).facts)
      | (go_at_call 63; refine (HLk.out _ ((((hT1.to hb2).to hb3).to hb4).alloc _)).mono ?_; rintro e w5 ⟨rfl, hb5⟩; obtain ⟨cE, fE, lE⟩ := ((Bk.new w4 _ _).to hb5).facts))
    go_ret2
    exact ⟨by rw [HZ2.out]; rfl, bnext (balloc (bnext (bnext (bnext hB1 hb2) hb3) hb4) _) hb5⟩
  · subst h0 h2 h3
    have HZ2 := Lib.hid (show z = 2 from by rw [HZ.out]; simp [finV])
    clear h1
    clear HZ
    go_enter Tryd.func23, Tryd.ntmps23
    go_wp2_with (first
      | (go_at_call 24; refine HC.out.mono ?_; rintro e w2 ⟨rfl, hb2⟩; clear cS fS lS; obtain ⟨cS, fS, lS⟩ := (kS.to hb2).facts)
      | (go_at_call 52; refine (HH.out _ (hA1.below hb2 (Nat.le_refl _))).mono ?_; rintro e w3 ⟨rfl, hb3⟩; clear cS fS lS; obtain ⟨cS, fS, lS⟩ := ((kS.to hb2).to hb3).facts)
      | (go_at_call 62; refine (HG.out _ ((hT1.to hb2).to hb3)).mono ?_; rintro e w4 ⟨rfl, hb4⟩; clear cS fS lS; obtain ⟨cS, fS, lS⟩ := (((kS.to hb2).to hb3).to hb4).facts)
      | (go_at_call 63; refine (HLk.out _ ((((hT1.to hb2).to hb3).to hb4).alloc _)).mono ?_; rintro e w5 ⟨rfl, hb5⟩; obtain ⟨cE, fE, lE⟩ := ((Bk.new w4 _ _).to hb5).facts))
    go_ret2
    exact ⟨by rw [HZ2.out]; rfl, bnext (balloc (bnext (bnext (bnext hB1 hb2) hb3) hb4) _) hb5⟩
  · subst h0 h2 h3 h4
    have HZ2 := Lib.hid (show z = 5 from by rw [HZ.out]; simp [finV])
    clear h1
    clear HZ
    go_enter Tryd.func23, Tryd.ntmps23
    go_wp2_with (first
      | (go_at_call 24; refine HC.out.mono ?_; rintro e w2 ⟨rfl, hb2⟩; clear cS fS lS; obtain ⟨cS, fS, lS⟩ := (kS.to hb2).facts)
      | (go_at_call 52; refine (HH.out _ (hA1.below hb2 (Nat.le_refl _))).mono ?_; rintro e w3 ⟨rfl, hb3⟩; clear cS fS lS; obtain ⟨cS, fS, lS⟩ := ((kS.to hb2).to hb3).facts)
      | (go_at_call 62; refine (HG.out _ ((hT1.to hb2).to hb3)).mono ?_; rintro e w4 ⟨rfl, hb4⟩; clear cS fS lS; obtain ⟨cS, fS, lS⟩ := (((kS.to hb2).to hb3).to hb4).facts)
      | (go_at_call 63; refine (HLk.out _ ((((hT1.to hb2).to hb3).to hb4).alloc _)).mono ?_; rintro e w5 ⟨rfl, hb5⟩; obtain ⟨cE, fE, lE⟩ := ((Bk.new w4 _ _).to hb5).facts))
    go_ret2
    exact ⟨by rw [HZ2.out]; rfl, bnext (balloc (bnext (bnext (bnext hB1 hb2) hb3) hb4) _) hb5⟩
  · subst h0 h2 h3 h4
    have HZ2 := Lib.hid (show z = 6 from by rw [HZ.out]; simp [finV])
    clear h1
    clear HZ
    go_enter Tryd.func23, Tryd.ntmps23
    go_wp2_with (first
      | (go_at_call 24; refine HC.out.mono ?_; rintro e w2 ⟨rfl, hb2⟩; clear cS fS lS; obtain ⟨cS, fS, lS⟩ := (kS.to hb2).facts)
      | (go_at_call 52; refine (HH.out _ (hA1.below hb2 (Nat.le_refl _))).mono ?_; rintro e w3 ⟨rfl, hb3⟩; clear cS fS lS; obtain ⟨cS, fS, lS⟩ := ((kS.to hb2).to hb3).facts)
      | (go_at_call 62; refine (HG.out _ ((hT1.to hb2).to hb3)).mono ?_; rintro e w4 ⟨rfl, hb4⟩; clear cS fS lS; obtain ⟨cS, fS, lS⟩ := (((kS.to hb2).to hb3).to hb4).facts)
      | (go_at_call 63; refine (HLk.out _ ((((hT1.to hb2).to hb3).to hb4).alloc _)).mono ?_; rintro e w5 ⟨rfl, hb5⟩; obtain ⟨cE, fE, lE⟩ := ((Bk.new w4 _ _).to hb5).facts))
    go_ret2
    exact ⟨by rw [HZ2.out]; rfl, bnext (balloc (bnext (bnext (bnext hB1 hb2) hb3) hb4) _) hb5⟩
  · subst h0 h3
    have HZ2 := Lib.hid (show z = 3 from by rw [HZ.out]; simp [finV, h1, h2])
    have d1 : (ek == 2) = false := by simpa using h1
    have d2 : (ek == 0) = false := by simpa using h2
    clear h1 h2
    clear HZ
    go_enter Tryd.func23, Tryd.ntmps23
    go_wp2_with (first
      | (go_at_call 24; refine HC.out.mono ?_; rintro e w2 ⟨rfl, hb2⟩; clear cS fS lS; obtain ⟨cS, fS, lS⟩ := (kS.to hb2).facts)
      | (go_at_call 52; refine (HH.out _ (hA1.below hb2 (Nat.le_refl _))).mono ?_; rintro e w3 ⟨rfl, hb3⟩; clear cS fS lS; obtain ⟨cS, fS, lS⟩ := ((kS.to hb2).to hb3).facts)
      | (go_at_call 62; refine (HG.out _ ((hT1.to hb2).to hb3)).mono ?_; rintro e w4 ⟨rfl, hb4⟩; clear cS fS lS; obtain ⟨cS, fS, lS⟩ := (((kS.to hb2).to hb3).to hb4).facts)
      | (go_at_call 63; refine (HLk.out _ ((((hT1.to hb2).to hb3).to hb4).alloc _)).mono ?_; rintro e w5 ⟨rfl, hb5⟩; obtain ⟨cE, fE, lE⟩ := ((Bk.new w4 _ _).to hb5).facts))
    go_ret2
    exact ⟨by rw [HZ2.out]; rfl, bnext (balloc (bnext (bnext (bnext hB1 hb2) hb3) hb4) _) hb5⟩
  · subst h0 h3 h4
    have HZ2 := Lib.hid (show z = 3 from by rw [HZ.out]; simp [finV, h1, h2])
    have d1 : (ek == 2) = false := by simpa using h1
    have d2 : (ek == 0) = false := by simpa using h2
    clear h1 h2
    clear HZ
    go_enter Tryd.func23, Tryd.ntmps23
    go_wp2_with (first
      | (go_at_call 24; refine HC.out.mono ?_; rintro e w2 ⟨rfl, hb2⟩; clear cS fS lS; obtain ⟨cS, fS, lS⟩ := (kS.to hb2).facts)
      | (go_at_call 52; refine (HH.out _ (hA1.below hb2 (Nat.le_refl _))).mono ?_; rintro e w3 ⟨rfl, hb3⟩; clear cS fS lS; obtain ⟨cS, fS, lS⟩ := ((kS.to hb2).to hb3).facts)
      | (go_at_call 62; refine (HG.out _ ((hT1.to hb2).to hb3)).mono ?_; rintro e w4 ⟨rfl, hb4⟩; clear cS fS lS; obtain ⟨cS, fS, lS⟩ := (((kS.to hb2).to hb3).to hb4).facts)
      | (go_at_call 63; refine (HLk.out _ ((((hT1.to hb2).to hb3).to hb4).alloc _)).mono ?_; rintro e w5 ⟨rfl, hb5⟩; obtain ⟨cE, fE, lE⟩ := ((Bk.new w4 _ _).to hb5).facts))
    go_ret2
    exact ⟨by rw [HZ2.out]; rfl, bnext (balloc (bnext (bnext (bnext hB1 hb2) hb3) hb4) _) hb5⟩
  · subst h0 h3 h4
    have HZ2 := Lib.hid (show z = 4 from by rw [HZ.out]; simp [finV, h1, h2, h5])
    have d1 : (ek == 2) = false := by simpa using h1
    have d2 : (ek == 0) = false := by simpa using h2
    have d5 : decide (count ≤ 1) = true := by simpa using h5
    clear h5
    clear h1 h2
    clear HZ
    go_enter Tryd.func23, Tryd.ntmps23
    go_wp2_with (first
      | (go_at_call 24; refine HC.out.mono ?_; rintro e w2 ⟨rfl, hb2⟩; clear cS fS lS; obtain ⟨cS, fS, lS⟩ := (kS.to hb2).facts)
      | (go_at_call 52; refine (HH.out _ (hA1.below hb2 (Nat.le_refl _))).mono ?_; rintro e w3 ⟨rfl, hb3⟩; clear cS fS lS; obtain ⟨cS, fS, lS⟩ := ((kS.to hb2).to hb3).facts)
      | (go_at_call 62; refine (HG.out _ ((hT1.to hb2).to hb3)).mono ?_; rintro e w4 ⟨rfl, hb4⟩; clear cS fS lS; obtain ⟨cS, fS, lS⟩ := (((kS.to hb2).to hb3).to hb4).facts)
      | (go_at_call 63; refine (HLk.out _ ((((hT1.to hb2).to hb3).to hb4).alloc _)).mono ?_; rintro e w5 ⟨rfl, hb5⟩; obtain ⟨cE, fE, lE⟩ := ((Bk.new w4 _ _).to hb5).facts))
    go_ret2
    exact ⟨by rw [HZ2.out]; rfl, bnext (balloc (bnext (bnext (bnext hB1 hb2) hb3) hb4) _) hb5⟩
  · subst h0 h3 h4
    have HZ2 := Lib.hid (show z = 7 from by rw [HZ.out]; simp [finV, h1, h2, h5])
    have d1 : (ek == 2) = false := by simpa using h1
    have d2 : (ek == 0) = false := by simpa using h2
    have d5 : decide (count ≤ 1) = false := by simpa using h5
    clear h5
    clear h1 h2
    clear HZ
    go_enter Tryd.func23, Tryd.ntmps23
    go_wp2_with (first
      | (go_at_call 24; refine HC.out.mono ?_; rintro e w2 ⟨rfl, hb2⟩; clear cS fS lS; obtain ⟨cS, fS, lS⟩ := (kS.to hb2).facts)
      | (go_at_call 52; refine (HH.out _ (hA1.below hb2 (Nat.le_refl _))).mono ?_; rintro e w3 ⟨rfl, hb3⟩; clear cS fS lS; obtain ⟨cS, fS, lS⟩ := ((kS.to hb2).to hb3).facts)
      | (go_at_call 62; refine (HG.out _ ((hT1.to hb2).to hb3)).mono ?_; rintro e w4 ⟨rfl, hb4⟩; clear cS fS lS; obtain ⟨cS, fS, lS⟩ := (((kS.to hb2).to hb3).to hb4).facts)
      | (go_at_call 63; refine (HLk.out _ ((((hT1.to hb2).to hb3).to hb4).alloc _)).mono ?_; rintro e w5 ⟨rfl, hb5⟩; obtain ⟨cE, fE, lE⟩ := ((Bk.new w4 _ _).to hb5).facts))
    go_ret2
    exact ⟨by rw [HZ2.out]; rfl, bnext (balloc (bnext (bnext (bnext hB1 hb2) hb3) hb4) _) hb5⟩
end Go.Proofs.YtpkgfkhaiifooaaDoor
