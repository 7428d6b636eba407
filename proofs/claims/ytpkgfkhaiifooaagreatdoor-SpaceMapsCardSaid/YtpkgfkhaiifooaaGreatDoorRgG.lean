/- Pages that are mapped and unmapped, by the reference. -/
import Derived.Test.YtpkgfkhaiifooaaGreatDoorGD
namespace Go.Proofs.YtpkgfkhaiifooaaGreatDoor
open Go Go.Proofs Go.RowKit
set_option linter.unusedSimpArgs false
set_option linter.unusedVariables false
set_option maxRecDepth 100000

theorem rMap_bad (A : Option Addr) (n c : Nat) (rs : List (Int × Int)) (a b most : Int) (w : World) (hr : Rd w 2 A n (flat2 .i64 rs)) (hn : n ≤ 1000000) (hE : begE rs a b ≠ 0) :
    Calls Tryz.prog 24 #[.slice A n c, .int .i64 a, .int .i64 b, .int .i64 most] w fun e w' => RgRes w w' [] (begE rs a b) e := by
  rcases begE_two hE with ⟨h1, h2⟩ | ⟨h1, h2, h3⟩
  · rw [h1]
    have HC := Lib.hid (rCheckR_any A n c rs w hr hn)
    have hE' : ((regE rs).1 == 0) = false := by simpa using h2
    clear h1 h2 hE
    generalize (regE rs).1 = z at *
    generalize (regE rs).2 = z2 at *
    go_enter Tryz.func24, Tryz.ntmps24
    go_wp2_with (go_at_call 55; refine HC.out.mono ?_; rintro e w1 ⟨rfl, hb1⟩)
    go_ret2
    exact RgRes.nil rfl hb1
  · rw [h2]
    have HC := Lib.hid (rCheckR_any A n c rs w hr hn)
    rw [h1] at HC
    have HO := Lib.hid (fun w => one_any a b w)
    rw [h3] at HO
    clear h1 h2 h3 hE
    go_enter Tryz.func24, Tryz.ntmps24
    go_wp2_with (first | (go_at_call 55; refine HC.out.mono ?_; rintro e w1 ⟨rfl, hb1⟩) | (go_at_call 58; refine (HO.out _).mono ?_; rintro e w2 ⟨rfl, hb2⟩))
    go_ret2
    exact RgRes.nil rfl (bnext hb1 hb2)
def M1R (w : World) (rs : List (Int × Int)) (x y : Nat) (v : Value) (i : Value) (wr : World) : Prop := ∃ p : Nat, x ≤ p ∧ p ≤ y + 1 ∧ i = .int .i64 p ∧ (∀ q, x ≤ q → q < p → hasP rs q = false) ∧ wr.ownsRow w.heap.size 4 1 v 64 (bw (bl (hasP rs))) ∧ Below w.heap.size w wr
def M2R (w : World) (rs : List (Int × Int)) (z : Bool) (x y : Nat) (v : Value) (i : Value) (wr : World) : Prop := ∃ p : Nat, x ≤ p ∧ p ≤ y + 1 ∧ i = .int .i64 p ∧ (z = false → ∀ q, x ≤ q → q < p → hasP rs q = true) ∧ wr.ownsRow w.heap.size 4 1 v 64 (bw (bl (puF rs z x p))) ∧ Below w.heap.size w wr
set_option maxHeartbeats 4000000 in
theorem rMap_go (A : Option Addr) (n c : Nat) (rs : List (Int × Int)) (a b most : Int) (w : World) (hr : Rd w 2 A n (flat2 .i64 rs)) (hn : n ≤ 1000000) (hE : begE rs a b = 0) :
    Calls Tryz.prog 24 #[.slice A n c, .int .i64 a, .int .i64 b, .int .i64 most] w fun e w' => RgRes w w' (mapR rs a b most).1 (mapR rs a b most).2 e := by
  obtain ⟨hv, h0, h1, h2⟩ := begE_zero hE
  obtain ⟨hE1, hE2⟩ := begE_parts hE
  obtain ⟨x, rfl⟩ : ∃ x : Nat, a = x := ⟨a.toNat, by omega⟩
  obtain ⟨y, rfl⟩ : ∃ y : Nat, b = y := ⟨b.toNat, by omega⟩
  have Hany := Lib.hid (anyIn_iff rs x y h2)
  have HM1 : Hid (anyIn rs x y = true → mapR rs x y most = ([], 7)) := Lib.hid (fun h => by unfold mapR; rw [if_neg (by simp [hE]), if_pos h])
  have HM2 : Hid (anyIn rs x y = false → most < (cntP (addF rs x y) : Int) → mapR rs x y most = ([], 5)) := Lib.hid (fun h h' => by unfold mapR; rw [if_neg (by simp [hE]), if_neg (by simp [h]), if_pos h'])
  have HM3 : Hid (anyIn rs x y = false → ¬ most < (cntP (addF rs x y) : Int) → mapR rs x y most = (regs (addF rs x y), 0)) := Lib.hid (fun h h' => by unfold mapR; rw [if_neg (by simp [hE]), if_neg (by simp [h]), if_neg h'])
  have HC := Lib.hid (rCheckR_any A n c rs w hr hn)
  rw [hE1] at HC
  have HO := Lib.hid (fun w => one_any x y w)
  rw [hE2] at HO
  have HS := Lib.hid (fun w1 h => rset_any A n c rs w1 h hn hv)
  have hxy : x ≤ y := by omega
  have hy : y ≤ 63 := by omega
  clear hE hE1 hE2 hv h0 h1 h2
  go_enter Tryz.func24, Tryz.ntmps24
  go_wp2_with (first | (go_at_call 55; refine HC.out.mono ?_; rintro e w1 ⟨rfl, hb1⟩) | (go_at_call 58; refine (HO.out _).mono ?_; rintro e w2 ⟨rfl, hb2⟩) | (go_at_call 59; refine (HS.out _ (hr.below (bnext hb1 hb2) (Nat.le_refl _))).mono ?_; rintro e w3 ⟨v, rfl, hown, hb3⟩))
  have hB := bnext (bnext hb1 hb2) hb3
  replace hown := own_less hown (bnext hb1 hb2).size
  obtain ⟨g, cap, rfl, hg1, hg2⟩ := hown.form (by omega)
  clear hb1 hb2 hb3 HS HC HO
  go_loopw [13] (M1R w rs x y (.slice (some ⟨g, 0, none⟩) 64 cap)) (fun i _ => 65 - (intOf i).toNat)
  case atStart => exact ⟨x, Nat.le_refl _, by omega, rfl, fun q h3 h4 => by omega, hown, hB⟩
  case round =>
    clear hown hB
    obtain ⟨p, hp1, hp2, rfl, hno, hown, hB⟩ := hrel
    by_cases hpy : p ≤ y
    · have hpI : (p : Int) ≤ (y : Int) := by omega
      have hp64 : (p : Int) < 64 := by omega
      have hcw := own_boolAt hown (i := p) (by omega)
      rw [bl_get _ p (by omega)] at hcw
      rcases hp : hasP rs p with _ | _
      · rw [hp] at hcw
        have Hno : Hid (∀ q, x ≤ q → q < p + 1 → hasP rs q = false) := Lib.hid (fun q h3 h4 => by rcases Nat.lt_or_ge q p with h | h; exact hno q h3 h; rw [show q = p by omega]; exact hp)
        clear hno hp
        go_wp2_with fail
        go_roundw
        case rel => exact ⟨p + 1, by omega, by omega, by go_num, Hno.out, hown, hB⟩
        case measure => simp [intOf]; omega
      · rw [hp] at hcw
        have HR := Lib.hid (HM1.out (Hany.out.2 ⟨p, by omega, by omega, hp⟩))
        clear hno hp
        go_wp2_with fail
        go_ret2
        rw [HR.out]
        exact RgRes.nil rfl hB
    · have hpe : p = y + 1 := by omega
      have hpI : ¬ (p : Int) ≤ (y : Int) := by omega
      have hanyF : anyIn rs x y = false := by
        rw [Bool.eq_false_iff]
        intro h
        obtain ⟨q, h3, h4, h5⟩ := Hany.out.1 h
        rw [hno q (by omega) (by omega)] at h5
        cases h5
      have HA := Lib.hid hanyF
      rw [puF_start rs true x] at hown
      have HT := Lib.hid (puF_step rs true x)
      clear hno hpe hanyF HM1 Hany
      go_wp2_with fail
      go_loopw [14] (M2R w rs true x y (.slice (some ⟨g, 0, none⟩) 64 cap)) (fun i _ => 65 - (intOf i).toNat)
      case atStart => exact ⟨x, Nat.le_refl _, by omega, rfl, (fun h => by cases h), hown, hB⟩
      case round =>
        clear hown hB hpI
        obtain ⟨p, hp1, hp2, rfl, _, hown, hB⟩ := hrel
        by_cases hpy : p ≤ y
        · have hpI : (p : Int) ≤ (y : Int) := by omega
          have hp64 : (p : Int) < 64 := by omega
          have hcw := own_boolAt hown (i := p) (by omega)
          have hfw := hown.frozenAt p
          generalize (bl (puF rs true x p)).getD p false = u at hcw
          go_wp2
          go_roundw
          case rel =>
            refine ⟨p + 1, by omega, by omega, by go_num, (fun h => by cases h), ?_, hB.setCell (p := ⟨g, p, none⟩) hg1 _⟩
            have := own_putB hown p true
            rw [HT.out p (by omega)] at this
            rw [Int.natCast_add]
            exact this
          case measure => simp [intOf]; omega
        · have hpI : ¬ (p : Int) ≤ (y : Int) := by omega
          have hpe : (p : Int) = (y : Int) + 1 := by omega
          rw [hpe, show bl (puF rs true x ((y : Int) + 1)) = bl (addF rs x y) from bl_congr _ _ (fun q _ => puF_add rs x y q)] at hown
          have hrd := Rd.own hown
          have HMn := Lib.hid (fun w h => many_any (some ⟨g, 0, none⟩) cap (addF rs x y) w h)
          have HRg := Lib.hid (fun w h => rregions_any (some ⟨g, 0, none⟩) cap (addF rs x y) true w h)
          rw [regs_eq (fun p => addF rs x y p == true) (addF rs x y) (fun p => by simp)] at HRg
          have hcl := cntP_le (addF rs x y)
          clear hown hpe
          by_cases hfull : most < (cntP (addF rs x y) : Int)
          · have HR := Lib.hid (HM2.out HA.out hfull)
            clear HM2 HM3
            generalize cntP (addF rs x y) = m at *
            go_wp2_with (go_at_call 60; refine (HMn.out _ hrd).mono ?_; rintro e w4 ⟨rfl, hb4⟩)
            go_ret2
            rw [HR.out]
            exact RgRes.nil rfl (bnext hB hb4)
          · have HR := Lib.hid (HM3.out HA.out (by omega))
            clear HM2 HM3
            generalize cntP (addF rs x y) = m at *
            go_wp2_with (first | (go_at_call 60; refine (HMn.out _ hrd).mono ?_; rintro e w4 ⟨rfl, hb4⟩) | (go_at_call 61; refine (HRg.out _ (hrd.below hb4 (Nat.le_refl _))).mono ?_; rintro e w5 ⟨v5, rfl, hown5, hb5⟩))
            go_ret2
            rw [HR.out]
            exact ⟨_, rfl, own_less hown5 (bnext hB hb4).size, bnext (bnext hB hb4) hb5⟩
theorem rMap_any (A : Option Addr) (n c : Nat) (rs : List (Int × Int)) (a b most : Int) (w : World) (hr : Rd w 2 A n (flat2 .i64 rs)) (hn : n ≤ 1000000) :
    Calls Tryz.prog 24 #[.slice A n c, .int .i64 a, .int .i64 b, .int .i64 most] w fun e w' => RgRes w w' (mapR rs a b most).1 (mapR rs a b most).2 e := by
  by_cases hE : begE rs a b = 0
  · exact rMap_go A n c rs a b most w hr hn hE
  · have : mapR rs a b most = ([], begE rs a b) := by unfold mapR; rw [if_pos hE]
    rw [this]
    exact rMap_bad A n c rs a b most w hr hn hE
theorem rUnmap_bad (A : Option Addr) (n c : Nat) (rs : List (Int × Int)) (a b : Int) (w : World) (hr : Rd w 2 A n (flat2 .i64 rs)) (hn : n ≤ 1000000) (hE : begE rs a b ≠ 0) :
    Calls Tryz.prog 31 #[.slice A n c, .int .i64 a, .int .i64 b] w fun e w' => RgRes w w' [] (begE rs a b) e := by
  rcases begE_two hE with ⟨h1, h2⟩ | ⟨h1, h2, h3⟩
  · rw [h1]
    have HC := Lib.hid (rCheckR_any A n c rs w hr hn)
    have hE' : ((regE rs).1 == 0) = false := by simpa using h2
    clear h1 h2 hE
    generalize (regE rs).1 = z at *
    generalize (regE rs).2 = z2 at *
    go_enter Tryz.func31, Tryz.ntmps31
    go_wp2_with (go_at_call 55; refine HC.out.mono ?_; rintro e w1 ⟨rfl, hb1⟩)
    go_ret2
    exact RgRes.nil rfl hb1
  · rw [h2]
    have HC := Lib.hid (rCheckR_any A n c rs w hr hn)
    rw [h1] at HC
    have HO := Lib.hid (fun w => one_any a b w)
    rw [h3] at HO
    clear h1 h2 h3 hE
    go_enter Tryz.func31, Tryz.ntmps31
    go_wp2_with (first | (go_at_call 55; refine HC.out.mono ?_; rintro e w1 ⟨rfl, hb1⟩) | (go_at_call 58; refine (HO.out _).mono ?_; rintro e w2 ⟨rfl, hb2⟩))
    go_ret2
    exact RgRes.nil rfl (bnext hb1 hb2)
set_option maxHeartbeats 4000000 in
theorem rUnmap_go (A : Option Addr) (n c : Nat) (rs : List (Int × Int)) (a b : Int) (w : World) (hr : Rd w 2 A n (flat2 .i64 rs)) (hn : n ≤ 1000000) (hE : begE rs a b = 0) :
    Calls Tryz.prog 31 #[.slice A n c, .int .i64 a, .int .i64 b] w fun e w' => RgRes w w' (unmR rs a b).1 (unmR rs a b).2 e := by
  obtain ⟨hv, h0, h1, h2⟩ := begE_zero hE
  obtain ⟨hE1, hE2⟩ := begE_parts hE
  obtain ⟨x, rfl⟩ : ∃ x : Nat, a = x := ⟨a.toNat, by omega⟩
  obtain ⟨y, rfl⟩ : ∃ y : Nat, b = y := ⟨b.toNat, by omega⟩
  have Hall := Lib.hid (allIn_iff rs x y h2)
  have HM1 : Hid (allIn rs x y = false → unmR rs x y = ([], 6)) := Lib.hid (fun h => by unfold unmR; rw [if_neg (by simp [hE]), if_pos h])
  have HM2 : Hid (allIn rs x y = true → unmR rs x y = (regs (subF rs x y), 0)) := Lib.hid (fun h => by unfold unmR; rw [if_neg (by simp [hE]), if_neg (by simp [h])])
  have HC := Lib.hid (rCheckR_any A n c rs w hr hn)
  rw [hE1] at HC
  have HO := Lib.hid (fun w => one_any x y w)
  rw [hE2] at HO
  have HS := Lib.hid (fun w1 h => rset_any A n c rs w1 h hn hv)
  have hxy : x ≤ y := by omega
  have hy : y ≤ 63 := by omega
  clear hE hE1 hE2 hv h0 h1 h2
  go_enter Tryz.func31, Tryz.ntmps31
  go_wp2_with (first | (go_at_call 55; refine HC.out.mono ?_; rintro e w1 ⟨rfl, hb1⟩) | (go_at_call 58; refine (HO.out _).mono ?_; rintro e w2 ⟨rfl, hb2⟩) | (go_at_call 59; refine (HS.out _ (hr.below (bnext hb1 hb2) (Nat.le_refl _))).mono ?_; rintro e w3 ⟨v, rfl, hown, hb3⟩))
  have hB := bnext (bnext hb1 hb2) hb3
  replace hown := own_less hown (bnext hb1 hb2).size
  obtain ⟨g, cap, rfl, hg1, hg2⟩ := hown.form (by omega)
  rw [puF_start rs false x] at hown
  have HT := Lib.hid (puF_step rs false x)
  clear hb1 hb2 hb3 HS HC HO
  go_loopw [11] (M2R w rs false x y (.slice (some ⟨g, 0, none⟩) 64 cap)) (fun i _ => 65 - (intOf i).toNat)
  case atStart => exact ⟨x, Nat.le_refl _, by omega, rfl, fun _ q h3 h4 => by omega, hown, hB⟩
  case round =>
    clear hown hB
    obtain ⟨p, hp1, hp2, rfl, hno, hown, hB⟩ := hrel
    replace hno := hno rfl
    by_cases hpy : p ≤ y
    · have hpI : (p : Int) ≤ (y : Int) := by omega
      have hp64 : (p : Int) < 64 := by omega
      have hcw := own_boolAt hown (i := p) (by omega)
      have hfw := hown.frozenAt p
      rw [bl_get _ p (by omega), show puF rs false x p p = hasP rs p by unfold puF; rw [if_neg (by omega)]] at hcw
      rcases hp : hasP rs p with _ | _
      · rw [hp] at hcw
        have HR := Lib.hid (HM1.out (by
          rw [Bool.eq_false_iff]
          intro h
          have := Hall.out.1 h p (by omega) (by omega)
          rw [hp] at this
          cases this))
        clear hno hp
        go_wp2_with fail
        go_ret2
        rw [HR.out]
        exact RgRes.nil rfl hB
      · rw [hp] at hcw
        have Hno : Hid (∀ q, x ≤ q → q < p + 1 → hasP rs q = true) := Lib.hid (fun q h3 h4 => by rcases Nat.lt_or_ge q p with h | h; exact hno q h3 h; rw [show q = p by omega]; exact hp)
        clear hno hp
        go_wp2
        go_roundw
        case rel =>
          refine ⟨p + 1, by omega, by omega, by go_num, fun _ => Hno.out, ?_, hB.setCell (p := ⟨g, p, none⟩) hg1 _⟩
          have := own_putB hown p false
          rw [HT.out p (by omega)] at this
          rw [Int.natCast_add]
          exact this
        case measure => simp [intOf]; omega
    · have hpI : ¬ (p : Int) ≤ (y : Int) := by omega
      have hpe : (p : Int) = (y : Int) + 1 := by omega
      have HR := Lib.hid (HM2.out (Hall.out.2 (fun q h3 h4 => hno q (by omega) (by omega))))
      rw [hpe, show bl (puF rs false x ((y : Int) + 1)) = bl (subF rs x y) from bl_congr _ _ (fun q _ => puF_sub rs x y q)] at hown
      have hrd := Rd.own hown
      have HRg := Lib.hid (fun w h => rregions_any (some ⟨g, 0, none⟩) cap (subF rs x y) true w h)
      rw [regs_eq (fun p => subF rs x y p == true) (subF rs x y) (fun p => by simp)] at HRg
      clear hown hpe hno HM1 HM2 Hall
      go_wp2_with (go_at_call 61; refine (HRg.out _ hrd).mono ?_; rintro e w5 ⟨v5, rfl, hown5, hb5⟩)
      go_ret2
      rw [HR.out]
      exact ⟨_, rfl, own_less hown5 hB.size, bnext hB hb5⟩
theorem rUnmap_any (A : Option Addr) (n c : Nat) (rs : List (Int × Int)) (a b : Int) (w : World) (hr : Rd w 2 A n (flat2 .i64 rs)) (hn : n ≤ 1000000) :
    Calls Tryz.prog 31 #[.slice A n c, .int .i64 a, .int .i64 b] w fun e w' => RgRes w w' (unmR rs a b).1 (unmR rs a b).2 e := by
  by_cases hE : begE rs a b = 0
  · exact rUnmap_go A n c rs a b w hr hn hE
  · have : unmR rs a b = ([], begE rs a b) := by unfold unmR; rw [if_pos hE]
    rw [this]
    exact rUnmap_bad A n c rs a b w hr hn hE
end Go.Proofs.YtpkgfkhaiifooaaGreatDoor
