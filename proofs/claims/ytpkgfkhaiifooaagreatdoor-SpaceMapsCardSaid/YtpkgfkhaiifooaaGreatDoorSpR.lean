/- What the reference of chapter 27 returns: Check, Access, Size. -/
import Derived.Test.YtpkgfkhaiifooaaGreatDoorSpO
import Derived.Test.YtpkgfkhaiifooaaGreatDoorGC
import Derived.Test.YtpkgfkhaiifooaaGreatDoorGY
namespace Go.Proofs.YtpkgfkhaiifooaaGreatDoor
open Go Go.Proofs Go.RowKit
set_option linter.unusedSimpArgs false
set_option linter.unusedVariables false
set_option maxRecDepth 100000

theorem out_step {rs : List (Int × Int)} {es : List Nat} {k : Nat} (h : fst0 (outE rs es) k = 0) (hk : outE rs es k = 0) : fst0 (outE rs es) (k + 1) = 0 := fst0_step _ k h hk
set_option maxHeartbeats 4000000 in
theorem rSpCheck_any (rs : List (Int × Int)) (r : Int) (ls : List Int) (es : List Nat) (v : Value) (w : World) (hv : SpV w v (rs, r, ls, es)) (hn : rs.length ≤ 1000000) (hs : wsmall es) :
    Calls Tryz.prog 23 #[v] w fun e w' => e = .returned (.int .i64 (spcE (rs, r, ls, es))) ∧ Below w.heap.size w w' := by
  obtain ⟨A, c, L, cl, B, d, rfl, hA, hLs, hB, hcc⟩ := hv
  simp only at hA hLs hB hcc
  unfold spcV
  simp only
  have kS := Bk.new w #[.slice A rs.length c, .int .i64 r, .slice L ls.length cl, .slice B es.length d] 28
  have hB1 := balloc (Below.refl _ w) (.cells #[.slice A rs.length c, .int .i64 r, .slice L ls.length cl, .slice B es.length d] 28)
  generalize hw1 : w.alloc (.cells #[.slice A rs.length c, .int .i64 r, .slice L ls.length cl, .slice B es.length d] 28) = w1 at *
  have hA1 := hA.below hB1 (Nat.le_refl _)
  have hT1 : TbV w1 (.agg #[.int .i64 r, .slice L ls.length cl, .slice B es.length d]) (r, ls, es) := tbv_of (hLs.below hB1 (Nat.le_refl _)) (hB.below hB1 (Nat.le_refl _)) hcc
  obtain ⟨cS, fS, lS⟩ := kS.facts
  by_cases hE1 : (regE rs).1 = 0
  case neg =>
    have HV := Lib.hid (spc_bad1 (s := (rs, r, ls, es)) hE1)
    have hd : ((regE rs).1 != 0) = true := by simpa using hE1
    go_enter Tryz.func23, Tryz.ntmps23
    go_wp2_with fail
    refine (rCheckR_any A rs.length c rs _ hA1 hn).mono ?_
    rintro e w2 ⟨rfl, hb2⟩
    go_wp2_with fail
    go_ret
    exact ⟨by rw [HV.out]; rfl, bnext hB1 hb2⟩
  by_cases hE2 : tabE r ls es = 0
  case neg =>
    have HV := Lib.hid (spc_bad2 (s := (rs, r, ls, es)) hE1 hE2)
    have hd : (tabE r ls es != 0) = true := by simpa using hE2
    go_enter Tryz.func23, Tryz.ntmps23
    go_wp2_with fail
    refine (rCheckR_any A rs.length c rs _ hA1 hn).mono ?_
    rw [hE1]
    rintro e w2 ⟨rfl, hb2⟩
    clear cS fS lS hE1
    obtain ⟨cS, fS, lS⟩ := (kS.to hb2).facts
    go_wp2_with fail
    refine (rTCheck_any r ls es _ _ (hT1.to hb2) hs).mono ?_
    rintro e w3 ⟨rfl, hb3⟩
    clear hE2
    go_wp2_with fail
    go_ret
    exact ⟨by rw [HV.out]; rfl, bnext (bnext hB1 hb2) hb3⟩
  have HV := Lib.hid (spc_rest (s := (rs, r, ls, es)) hE1 hE2)
  simp only at HV
  have hg := regE_zero rs hE1
  have HTab := Lib.hid hE2
  go_enter Tryz.func23, Tryz.ntmps23
  go_wp2_with fail
  refine (rCheckR_any A rs.length c rs _ hA1 hn).mono ?_
  rw [hE1]
  rintro e w2 ⟨rfl, hb2⟩
  clear cS fS lS hE1
  obtain ⟨cS, fS, lS⟩ := (kS.to hb2).facts
  go_wp2_with fail
  refine (rTCheck_any r ls es _ _ (hT1.to hb2) hs).mono ?_
  rw [hE2]
  rintro e w3 ⟨rfl, hb3⟩
  clear hE2 cS fS lS
  have hb13 := bnext hb2 hb3
  clear hb2 hb3 hw1
  go_wp2_with fail
  go_loopw [6] (fun i wr => ∃ k : Nat, k ≤ 64 ∧ i = .int .i64 k ∧ Hid (fst0 (outE rs es) k = 0) ∧ Below w1.heap.size w1 wr) (fun i _ => 64 - (intOf i).toNat)
  case atStart => exact ⟨0, by omega, rfl, Lib.hid rfl, hb13⟩
  case round =>
    clear hb13
    obtain ⟨k, hk, rfl, Hno, hbr⟩ := hrel
    obtain ⟨cS, fS, lS⟩ := (kS.to hbr).facts
    by_cases hlt : k < 64
    · have HG := Lib.hid (fun W h1 => rGet_any r ls es (.agg #[.int .i64 r, .slice L ls.length cl, .slice B es.length d]) k W h1 hs)
      rw [get_in HTab.out k hlt] at HG
      have HH := Lib.hid (fun W h => rHas_any A rs.length c rs k W h hn)
      rw [hasRg_ok rs k hg hlt] at HH
      have her := unp_in HTab.out k hlt
      have hun : unpK (es.getD k 0) = (unpR (es.getD k 0)).1.1 := rfl
      have Hout0 := Lib.hid (fun (h : unpK (es.getD k 0) = 0 ∨ hasP rs k = true) => out_step Hno.out (outE_no h))
      have Hout9 := Lib.hid (fun (h1 : unpK (es.getD k 0) ≠ 0) (h2 : hasP rs k = false) => (fst0_9 _ (outE_9 rs es) 64 k hlt (by rw [outE_yes h1 h2]; decide)))
      rw [hun] at Hout0 Hout9
      clear hun
      rcases hu : unpR (es.getD k 0) with ⟨⟨ek, en, ea, eb, ec⟩, er⟩
      rw [hu] at HG her Hout0 Hout9
      simp only at her HG Hout0 Hout9
      subst her
      clear hu
      have hArr := hA1.below hbr (Nat.le_refl _)
      have hTr := hT1.to hbr
      generalize hasP rs k = m at *
      by_cases hk0 : ek = 0
      · subst hk0
        have H0 := Lib.hid (Hout0.out (.inl rfl))
        clear Hout0 Hout9
        go_wp2_with (first
          | (go_at_call 32; refine (HG.out _ hTr).mono ?_; rintro e w4 ⟨rfl, hb4⟩; clear cS fS lS; obtain ⟨cS, fS, lS⟩ := ((kS.to hbr).to hb4).facts)
          | (go_at_call 57; refine (HH.out _ ((hArr.below hb4 (Nat.le_refl _)).alloc _)).mono ?_; rintro e w5 ⟨rfl, hb5⟩; obtain ⟨cE, fE, lE⟩ := ((Bk.new w4 _ _).to hb5).facts))
        go_roundw
        case rel => exact ⟨k + 1, by omega, by go_num, H0, bnext (balloc (bnext hbr hb4) _) hb5⟩
        case measure => simp [intOf]; omega
      · have hd : (ek != 0) = true := by simpa using hk0
        cases m
        · have H9 := Lib.hid (Hout9.out hk0 rfl)
          clear Hout0 Hout9 hk0
          go_wp2_with (first
            | (go_at_call 32; refine (HG.out _ hTr).mono ?_; rintro e w4 ⟨rfl, hb4⟩; clear cS fS lS; obtain ⟨cS, fS, lS⟩ := ((kS.to hbr).to hb4).facts)
            | (go_at_call 57; refine (HH.out _ ((hArr.below hb4 (Nat.le_refl _)).alloc _)).mono ?_; rintro e w5 ⟨rfl, hb5⟩; obtain ⟨cE, fE, lE⟩ := ((Bk.new w4 _ _).to hb5).facts))
          go_ret
          exact ⟨by rw [HV.out, H9.out]; rfl, bnext hB1 (bnext (balloc (bnext hbr hb4) _) hb5)⟩
        · have H0 := Lib.hid (Hout0.out (.inr rfl))
          clear Hout0 Hout9 hk0
          go_wp2_with (first
            | (go_at_call 32; refine (HG.out _ hTr).mono ?_; rintro e w4 ⟨rfl, hb4⟩; clear cS fS lS; obtain ⟨cS, fS, lS⟩ := ((kS.to hbr).to hb4).facts)
            | (go_at_call 57; refine (HH.out _ ((hArr.below hb4 (Nat.le_refl _)).alloc _)).mono ?_; rintro e w5 ⟨rfl, hb5⟩; obtain ⟨cE, fE, lE⟩ := ((Bk.new w4 _ _).to hb5).facts))
          go_roundw
          case rel => exact ⟨k + 1, by omega, by go_num, H0, bnext (balloc (bnext hbr hb4) _) hb5⟩
          case measure => simp [intOf]; omega
    · obtain rfl : k = 64 := by omega
      go_wp2_with fail
      go_ret
      exact ⟨by rw [HV.out, Hno.out]; rfl, bnext hB1 hbr⟩

end Go.Proofs.YtpkgfkhaiifooaaGreatDoor
