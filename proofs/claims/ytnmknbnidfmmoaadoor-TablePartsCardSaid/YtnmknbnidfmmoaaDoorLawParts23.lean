/- TableParts returns true for all numbers. -/
import Derived.Test.YtnmknbnidfmmoaaDoorMade3
import Derived.Deep.RegionHeld3
import Derived.Deep.DeepCutAuto
import Derived.BigQuiet
namespace Go.Proofs.YtnmknbnidfmmoaaDoor
open Go Go.Proofs Go.RowKit
set_option linter.unusedSimpArgs false
set_option linter.unusedVariables false
set_option maxRecDepth 100000

set_option maxHeartbeats 8000000 in
theorem TableParts_true (nums : List Int) (A : Option Addr) (c : Nat) (w : World) (hr : Rd w 1 A nums.length (iw nums)) (hL : LayOK w) :
    Calls Tryd.prog 4 #[.slice A nums.length c] w fun e w' => e = .returned (.bool true) ∧ Below w.heap.size w w' := by
  go_enter Tryd.func4, Tryd.ntmps4
  go_wp2_with fail
  refine (made_any nums A c _ hr hL).mono ?_
  rintro e w1 ⟨es, v1, rfl, hE, hs, hv1, hb1⟩
  obtain ⟨A1, c1, B1, d1, rfl, _, _, _⟩ := id hv1
  have e8 : (mdL 8).length = 8 := md_len 8
  have e64 := (tab_zero hE).2.1
  simp only [tabV, e8, e64] at hv1 ⊢
  replace hL := (hL.below hb1)
  have kT := Bk.new w1 #[.int .i64 1, .slice A1 8 c1, .slice B1 64 d1] 25
  have hcS := balloc (Below.refl _ w1) (.cells #[.int .i64 1, .slice A1 8 c1, .slice B1 64 d1] 25)
  go_upto_region 2 with fail
  replace hv1 := hv1.below hcS
  replace hL := hL.below hcS
  have hBS := bnext hb1 hcS
  generalize w1.alloc (.cells #[.int .i64 1, .slice A1 8 c1, .slice B1 64 d1] 25) = wS at *
  generalize w1.heap.size = b0 at *
  clear hb1 hcS hr
  go_wp2_with fail
  go_loopw [5, 6] (fun s i wr => ∃ k : Nat, k ≤ 3 ∧ s = .int .i64 (sumL es k : Nat) ∧ i = .int .i64 k ∧ Below wS.heap.size wS wr) (fun _ i _ => 3 - (intOf i).toNat)
  case atStart => exact ⟨0, by omega, rfl, rfl, Below.refl _ _⟩
  case round =>
    obtain ⟨k, hk, rfl, rfl, hBx⟩ := hrel
    have hsl := sumL_le es k
    replace kT := kT.to hBx
    replace hv1 := hv1.to hBx
    replace hL := hL.below hBx
    replace hBS := bnext hBS hBx
    obtain ⟨cT, fT, lT⟩ := kT.facts
    by_cases hlt : k < 3
    · have HP := Lib.hid (TPages_any 1 (mdL 8) es _ k _ hv1 hs hL)
      rw [pag_at hE k hlt] at HP
      go_wp2_with (first | (go_at_call 23; refine HP.out.mono ?_; rintro e w2 ⟨v2, rfl, hi2, hb2⟩; obtain ⟨A2, c2, rfl, hi2'⟩ := id hi2))
      have hll := kinL_len es k 64
      have hsu := sumL_succ es k
      replace kT := kT.to hb2
      replace hv1 := hv1.to hb2
      replace hL := hL.below hb2
      replace hBx := bnext hBx hb2
      clear cT fT lT HP hBS
      go_loopw [9] (fun s wq => ∃ j : Nat, j ≤ (kinL es k 64).length ∧ s = .int .i64 j ∧ Below w2.heap.size w2 wq) (fun s _ => (kinL es k 64).length - (intOf s).toNat)
      case atStart => exact ⟨0, by omega, rfl, Below.refl _ _⟩
      case round =>
        obtain ⟨j, hj, rfl, hBy⟩ := hrel
        by_cases hjl : j < (kinL es k 64).length
        · have dj : decide ((j : Int) < ((kinL es k 64).length : Int)) = true := by simp; omega
          obtain ⟨p, hp, hp64, hpk⟩ := kin_at es k 64 j hjl
          obtain ⟨g, off, z, rfl, hg, hz, hc⟩ := (hi2'.below hBy (Nat.le_refl _)).numb hjl
          rw [hp] at hz
          subst hz
          obtain ⟨gk, gn, ga, gb, gc, hG, _, hGk⟩ := get_at hE p hp64
          rw [hpk] at hGk
          subst hGk
          have HG := Lib.hid (fun W h1 h2 => TGet_any 1 (mdL 8) es (.agg #[.int .i64 1, .slice A1 8 c1, .slice B1 64 d1]) p W h1 hs h2)
          rw [hG] at HG
          replace kT := kT.to hBy
          replace hv1 := hv1.to hBy
          replace hL := hL.below hBy
          have c0 := kT.cell 0
          have c1' := kT.cell 1
          have c2' := kT.cell 2
          simp at c0 c1' c2'
          have hpr : 0 < j → ∃ q : Int, wr.cell? ⟨g, off + (j - 1), none⟩ = some (.int .i64 q) ∧ decide ((p : Int) ≤ q) = false := by
            intro h0
            obtain ⟨g', off', z, he, _, hz, hc'⟩ := (hi2'.below hBy (Nat.le_refl _)).numb (i := j - 1) (by omega)
            obtain ⟨rfl, rfl⟩ : g = g' ∧ off = off' := by injection he with he; injection he with e1 e2; exact ⟨e1, e2⟩
            have := kin_asc es k 64 (j - 1) j (by omega) hjl
            refine ⟨z, hc', ?_⟩
            rw [hz, hp] at this
            simp only [decide_eq_false_iff_not]
            omega
          have lT := kT.lt
          clear hp hpk hG
          go_upto_region 14 with fail
          go_cut [10, 11] from 38 to 76 (fun sa sb wx => ∃ q, sa = .pointer (some ⟨q, 0, none⟩) ∧ sb = .int .i64 0 ∧ Bk wx q #[.int .i64 k, .int .i64 gn, .bool ga, .bool gb, .bool gc] 35 ∧ Below wr.heap.size wr wx)
          case first =>
            go_region_held3 (fun w' => w'.cell? ⟨b0, 0, none⟩ = some (.int .i64 1) ∧ w'.cell? ⟨b0, 1, none⟩ = some (.slice A1 8 c1) ∧ w'.cell? ⟨b0, 2, none⟩ = some (.slice B1 64 d1) ∧ w'.cell? ⟨g, off + j, none⟩ = some (.int .i64 p))
              (refine ⟨?_, ?_, ?_, ?_⟩ <;> (repeat (with_reducible first | exact c0 | exact c1' | exact c2' | exact hc | refine cell_drew ?_ | refine cell_later hbG ?_ | refine cell_alloc _ ?_ | refine cell_far ?_ (Nat.ne_of_lt lT) _ | refine cell_far ?_ (Nat.ne_of_lt hg) _)))
              (first
                | (go_at_call 17; refine (HG.out _ (by repeat (with_reducible first | exact hv1 | refine TbV.drew ?_ | refine TbV.alloc ?_ _)) (by repeat (with_reducible first | exact hL | refine LayOK.drew ?_ | refine LayOK.alloc ?_ _))).mono ?_; rintro e wG ⟨rfl, hbG⟩; have hsG : wr.heap.size ≤ wG.heap.size := Nat.le_trans (by first | exact Nat.le_refl _ | (simp only [World.size_alloc, World.size_drew]; omega)) hbG.size
                   first
                     | (have kN := (Bk.newd wr #[.int .i64 0, .int .i64 0, .bool false, .bool false, .bool false] 35).to hbG; obtain ⟨cN, fN, lN⟩ := kN.facts)
                     | skip))
            all_goals
              go_wp2_with fail
              go_meet
              first
                | exact ⟨_, rfl, rfl, kN.put5 _ _ _ _ _, below_put5 (by repeat (with_reducible first | exact Below.refl _ _ | refine bnext ?_ hbG | refine below_drew ?_ | refine balloc ?_ _)) (Nat.le_refl _) _ _ _ _ _⟩
                | exact ⟨_, rfl, rfl, Bk.new _ _ _, by repeat (with_reducible first | exact Below.refl _ _ | refine bnext ?_ hbG | refine below_drew ?_ | refine balloc ?_ _)⟩
          case rest =>
            obtain ⟨q, rfl, rfl, kQ, hbx⟩ := hcut
            obtain ⟨cQ, fQ, lQ⟩ := kQ.facts
            have hcx := cell_later hbx hc
            have hkk : ((k : Int) != (k : Int)) = false := by simp
            rcases Nat.eq_zero_or_pos j with h0 | h0
            · have hd0 : decide ((0 : Int) < (j : Int)) = false := by simp; omega
              have hd1 : decide (0 < j) = false := by simp; omega
              clear hpr c0 c1' c2' hc HG h0
              go_upto_region 15 with fail
              go_quiet (fail)
              go_wp2_with fail
              go_roundw
              case rel => exact ⟨j + 1, by omega, by go_num, below_drawn (hBy.trans (hbx.mono hBy.size)) _⟩
              case measure => simp [intOf]; omega
            · obtain ⟨z, hcz, hdz⟩ := hpr h0
              have hcy := cell_later hbx hcz
              have hd0 : decide ((0 : Int) < (j : Int)) = true := by simp; omega
              have hd1 : decide (0 < j) = true := by simp; omega
              have hj1 : ((j : Int) - 1).toNat = j - 1 := by omega
              clear hpr c0 c1' c2' hc hcz HG
              go_upto_region 15 with fail
              go_quiet (fail)
              go_wp2_with fail
              go_roundw
              case rel => exact ⟨j + 1, by omega, by go_num, below_drawn (hBy.trans (hbx.mono hBy.size)) _⟩
              case measure => simp [intOf]; omega
        · obtain rfl : j = (kinL es k 64).length := by omega
          go_wp2_with fail
          go_roundw
          case rel => exact ⟨k + 1, by omega, by rw [hsu]; go_num, by go_num, hBx.trans (hBy.mono hBx.size)⟩
          case measure => simp [intOf]; omega
    · obtain rfl : k = 3 := by omega
      have h64 := sumL_three hE
      rw [h64]
      have d3 : decide ((3 : Int) ≤ 2) = false := by decide
      have HC := Lib.hid (fun W h1 h2 => TCounts_any 1 (mdL 8) es (.agg #[.int .i64 1, .slice A1 8 c1, .slice B1 64 d1]) W h1 hs h2)
      rw [cnt_at hE] at HC
      have HP1 := Lib.hid (fun W h1 h2 => TPages_any 1 (mdL 8) es (.agg #[.int .i64 1, .slice A1 8 c1, .slice B1 64 d1]) (1 : Nat) W h1 hs h2)
      have HP2 := Lib.hid (fun W h1 h2 => TPages_any 1 (mdL 8) es (.agg #[.int .i64 1, .slice A1 8 c1, .slice B1 64 d1]) (2 : Nat) W h1 hs h2)
      rw [pag_at hE 1 (by omega)] at HP1
      rw [pag_at hE 2 (by omega)] at HP2
      clear hsl hlt hk hE
      go_wp2_with (first
        | (go_at_call 26; refine (HC.out _ hv1 hL).mono ?_; rintro e w3 ⟨rfl, hb3⟩; replace kT := kT.to hb3; clear cT fT lT; obtain ⟨cT, fT, lT⟩ := kT.facts)
        | (go_at_call 23; refine (HP1.out _ (hv1.to hb3) (hL.below hb3)).mono ?_; rintro e w4 ⟨v4, rfl, ⟨A4, c4, rfl, _⟩, hb4⟩; clear HP1; replace kT := kT.to hb4; clear cT fT lT; obtain ⟨cT, fT, lT⟩ := kT.facts)
        | (go_at_call 23; refine (HP2.out _ ((hv1.to hb3).to hb4) ((hL.below hb3).below hb4)).mono ?_; rintro e w5 ⟨v5, rfl, ⟨A5, c5, rfl, _⟩, hb5⟩)
        | (go_at_call 10; refine (awake_true _ (((hL.below hb3).below hb4).below hb5)).mono ?_; rintro e w6 ⟨rfl, hb6⟩))
      all_goals
        go_ret
        exact ⟨rfl, bnext (bnext (bnext (bnext hBS hb3) hb4) hb5) hb6⟩
end Go.Proofs.YtnmknbnidfmmoaaDoor
