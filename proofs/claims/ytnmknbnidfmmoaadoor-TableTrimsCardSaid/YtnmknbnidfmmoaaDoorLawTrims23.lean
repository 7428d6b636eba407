/- TableTrims returns true for all numbers. -/
import Derived.Test.YtnmknbnidfmmoaaDoorTrimP
import Derived.Deep.RegionHeld3
import Derived.Deep.DeepCutAuto
namespace Go.Proofs.YtnmknbnidfmmoaaDoor
open Go Go.Proofs Go.RowKit
set_option linter.unusedSimpArgs false
set_option linter.unusedVariables false
set_option maxRecDepth 100000

set_option maxHeartbeats 8000000 in
theorem TableTrims_true (nums : List Int) (A : Option Addr) (c : Nat) (w : World) (hr : Rd w 1 A nums.length (iw nums)) (hL : LayOK w) :
    Calls Tryd.prog 7 #[.slice A nums.length c] w fun e w' => e = .returned (.bool true) ∧ Below w.heap.size w w' := by
  go_enter Tryd.func7, Tryd.ntmps7
  go_wp2_with fail
  refine (made_any nums A c _ hr hL).mono ?_
  rintro e w1 ⟨es, v1, rfl, hE, hs, hv1, hb1⟩
  have hc1 : Below w.heap.size w w1 := bnext (Below.refl _ _) hb1
  replace hL := hL.below hc1
  have e8 : (mdL 8).length = 8 := md_len 8
  have e64 := (tab_zero hE).2.1
  clear hr
  obtain ⟨A1, c1, B1, d1, rfl, _, _, _⟩ := id hv1
  simp only [tabV, e8, e64] at hv1 ⊢
  have hEt := trim_valid hE 8 (Nat.le_refl _)
  have hct := trim_count (mdL 8) es e8 8 (Nat.le_refl _)
  have htw := trim_twice (mdL 8) es e8 8 (Nat.le_refl _)
  have HFb := Lib.hid (frm_made hE)
  have HFa := Lib.hid (frm_made hEt)
  have HU := Lib.hid (fun l hl => trim_used hE l hl)
  have HF := Lib.hid (fun j hj => trim_frames es j hj)
  have HT1 : Hid (trimR 1 (mdL 8) es = ((1, trimL (mdL 8) es 8, es), trimG (mdL 8) es 8, 0)) := Lib.hid (by unfold trimR; rw [if_neg (by simp [hE])])
  have HT2 : Hid (trimR 1 (trimL (mdL 8) es 8) es = ((1, trimL (mdL 8) es 8, es), [], 0)) := Lib.hid (by unfold trimR; rw [if_neg (by simp [hEt]), htw.1, htw.2])
  have hGl := trimG_len (mdL 8) es 8
  have hfl1 := frmL_len (mdL 8) 8
  have hfl2 := frmL_len (trimL (mdL 8) es 8) 8
  have e8t := (tab_zero hEt).1
  generalize trimL (mdL 8) es 8 = lt at *
  generalize trimG (mdL 8) es 8 = lg at *
  have hlb : (frmL (mdL 8) 8 ++ [(1 : Int)]).length = (frmL (mdL 8) 8).length + 1 := by simp
  have hla : (frmL lt 8 ++ [(1 : Int)]).length = (frmL lt 8).length + 1 := by simp
  generalize frmL (mdL 8) 8 ++ [(1 : Int)] = fb at *
  generalize frmL lt 8 ++ [(1 : Int)] = fa at *
  have hlen : lg.length + fa.length = fb.length := by omega
  have hfb9 : fb.length ≤ 9 := by omega
  have hfa9 : fa.length ≤ 9 := by omega
  clear hct htw hfl1 hfl2 hlb hla
  go_wp2_with fail
  refine (TTrim_any 1 (mdL 8) es _ _ (hv1.alloc _) hs (hL.alloc _)).mono ?_
  rw [HT1.out]
  rintro e w2 ⟨v2, u2, rfl, hv2, hi2, hb2⟩
  have hc2 : Below w1.heap.size w1 w2 := bnext (balloc (Below.refl _ _) _) hb2
  replace hL := hL.below hc2
  replace hv1 := hv1.below hc2
  have kT1 := (Bk.new w1 #[.int .i64 1, .slice A1 8 c1, .slice B1 64 d1] 25).to hb2
  obtain ⟨U2, k2, rfl, hi2'⟩ := id hi2
  obtain ⟨cT1, fT1, lT1⟩ := kT1.facts
  obtain ⟨A2, c2, B2, d2, rfl, _, _, _⟩ := id hv2
  simp only [tabV, e8t, e64] at hv2 ⊢
  go_wp2_with fail
  refine (TTrim_any 1 lt es _ _ (hv2.alloc _) hs (hL.alloc _)).mono ?_
  rw [HT2.out]
  rintro e w3 ⟨v3, u3, rfl, hv3, hi3, hb3⟩
  clear cT1 fT1 lT1
  have hc3 : Below w2.heap.size w2 w3 := bnext (balloc (Below.refl _ _) _) hb3
  replace kT1 := kT1.to hc3
  replace hL := hL.below hc3
  replace hv1 := hv1.below hc3
  replace hv2 := hv2.below hc3
  replace hi2 := hi2.below hc3
  have kT2 := (Bk.new w2 #[.int .i64 1, .slice A2 8 c2, .slice B2 64 d2] 25).to hb3
  obtain ⟨U3, k3, rfl, hi3'⟩ := id hi3
  obtain ⟨cT1, fT1, lT1⟩ := kT1.facts
  obtain ⟨cT2, fT2, lT2⟩ := kT2.facts
  obtain ⟨A3, c3, B3, d3, rfl, _, _, _⟩ := id hv3
  simp only [tabV, e8t, e64] at hv3 ⊢
  go_wp2_with fail
  refine (TFrames_any 1 (mdL 8) es _ _ (hv1.alloc _) hs (hL.alloc _)).mono ?_
  rw [HFb.out]
  rintro e w4 ⟨v4, rfl, hi4, hb4⟩
  clear cT1 fT1 lT1 cT2 fT2 lT2
  have hc4 : Below w3.heap.size w3 w4 := bnext (balloc (Below.refl _ _) _) hb4
  replace kT1 := kT1.to hc4
  replace kT2 := kT2.to hc4
  replace hL := hL.below hc4
  replace hv1 := hv1.below hc4
  replace hv2 := hv2.below hc4
  replace hi2 := hi2.below hc4
  replace hv3 := hv3.below hc4
  have kT3 := (Bk.new w3 #[.int .i64 1, .slice A3 8 c3, .slice B3 64 d3] 25).to hb4
  obtain ⟨U4, k4, rfl, hi4'⟩ := id hi4
  obtain ⟨cT1, fT1, lT1⟩ := kT1.facts
  obtain ⟨cT2, fT2, lT2⟩ := kT2.facts
  obtain ⟨cT3, fT3, lT3⟩ := kT3.facts
  go_wp2_with fail
  refine (TFrames_any 1 lt es _ _ hv2 hs hL).mono ?_
  rw [HFa.out]
  rintro e w5 ⟨v5, rfl, hi5, hb5⟩
  clear cT1 fT1 lT1 cT2 fT2 lT2 cT3 fT3 lT3
  have hc5 : Below w4.heap.size w4 w5 := bnext (Below.refl _ _) hb5
  replace kT1 := kT1.to hc5
  replace kT2 := kT2.to hc5
  replace kT3 := kT3.to hc5
  replace hL := hL.below hc5
  replace hv1 := hv1.below hc5
  replace hv2 := hv2.below hc5
  replace hi2 := hi2.below hc5
  replace hv3 := hv3.below hc5
  replace hi4 := hi4.below hc5
  obtain ⟨U5, k5, rfl, hi5'⟩ := id hi5
  obtain ⟨cT1, fT1, lT1⟩ := kT1.facts
  obtain ⟨cT2, fT2, lT2⟩ := kT2.facts
  obtain ⟨cT3, fT3, lT3⟩ := kT3.facts
  simp only [List.length_nil]
  have hne : (((lg.length : Int) + (fa.length : Int)) != (fb.length : Int)) = false := by simp; omega
  go_wp2_with fail
  refine (SameTable_eq 1 lt es _ _ _ hv2 hv3 hs (by omega) (by omega)).mono ?_
  rintro e w6 ⟨rfl, hb6⟩
  clear cT1 fT1 lT1 cT2 fT2 lT2 cT3 fT3 lT3
  have hc6 : Below w5.heap.size w5 w6 := bnext (Below.refl _ _) hb6
  replace kT1 := kT1.to hc6
  replace kT2 := kT2.to hc6
  replace kT3 := kT3.to hc6
  replace hL := hL.below hc6
  replace hv1 := hv1.below hc6
  replace hv2 := hv2.below hc6
  replace hi2 := hi2.below hc6
  replace hv3 := hv3.below hc6
  replace hi4 := hi4.below hc6
  replace hi5 := hi5.below hc6
  obtain ⟨cT1, fT1, lT1⟩ := kT1.facts
  obtain ⟨cT2, fT2, lT2⟩ := kT2.facts
  obtain ⟨cT3, fT3, lT3⟩ := kT3.facts
  go_wp2_with fail
  refine (others_any 1 1 lt (mdL 8) es es _ _ (-1) _ hv2 hv1 hs hs hEt hE hL (fun _ _ _ => rfl)).mono ?_
  rintro e w7 ⟨rfl, hb7⟩
  clear cT1 fT1 lT1 cT2 fT2 lT2 cT3 fT3 lT3
  have hc7 : Below w6.heap.size w6 w7 := bnext (Below.refl _ _) hb7
  replace kT1 := kT1.to hc7
  replace kT2 := kT2.to hc7
  replace kT3 := kT3.to hc7
  replace hL := hL.below hc7
  replace hv1 := hv1.below hc7
  replace hv2 := hv2.below hc7
  replace hi2 := hi2.below hc7
  replace hv3 := hv3.below hc7
  replace hi4 := hi4.below hc7
  replace hi5 := hi5.below hc7
  obtain ⟨cT1, fT1, lT1⟩ := kT1.facts
  obtain ⟨cT2, fT2, lT2⟩ := kT2.facts
  obtain ⟨cT3, fT3, lT3⟩ := kT3.facts
  go_wp2_with fail
  have hB7 : Below w.heap.size w w7 := bnext (bnext (bnext (bnext (bnext (bnext hc1 hc2) hc3) hc4) hc5) hc6) hc7
  clear cT1 fT1 lT1 cT2 fT2 lT2 cT3 fT3 lT3 kT1 kT3 hv1 hv3 hb1 hb2 hb3 hb4 hb5 hb6 hb7 hc1 hc2 hc3 hc4 hc5 hc6 hc7 hi2' hi3' hi4' hi5' hi3 hne hlen HT1 HT2 HFb HFa
  generalize w2.heap.size = b2 at *
  go_loopw [15] (fun s wr => ∃ l : Nat, l ≤ 8 ∧ s = .int .i64 l ∧ Below w7.heap.size w7 wr) (fun s _ => 8 - (intOf s).toNat)
  case atStart => exact ⟨0, by omega, rfl, Below.refl _ _⟩
  case round =>
    obtain ⟨l, hl, rfl, hBx⟩ := hrel
    by_cases hl8 : l < 8
    · replace kT2 := kT2.to hBx
      replace hv2 := hv2.to hBx
      replace hL := hL.below hBx
      clear hi2 hi4 hi5
      obtain ⟨cT2, fT2, lT2⟩ := kT2.facts
      have hla := lack_at hEt (l * 8) (by omega)
      rw [show l * 8 / 8 = l by omega, HU.out l hl8, show ((l * 8 : Nat) : Int) = (l : Int) * 8 by omega] at hla
      have H1 := Lib.hid (TLacks_any 1 lt es _ ((l : Int) * 8) _ hv2 hs hL)
      rw [hla] at H1
      clear hla
      go_wp2_with (first | (go_at_call 19; refine H1.out.mono ?_; rintro e w8 ⟨rfl, hb8⟩))
      clear H1 cT2 fT2 lT2
      replace kT2 := kT2.to hb8
      replace hv2 := hv2.to hb8
      replace hL := hL.below hb8
      replace hBx := bnext hBx hb8
      clear hb8
      go_loopw [18, 19] (fun s i wr => ∃ j : Nat, j ≤ 8 ∧ s = .bool (usedB es l j) ∧ i = .int .i64 ((l * 8 + j : Nat) : Int) ∧ Below w8.heap.size w8 wr) (fun _ i _ => 64 - (intOf i).toNat)
      case atStart => exact ⟨0, by omega, rfl, by go_num, Below.refl _ _⟩
      case round =>
        obtain ⟨j, hj, rfl, rfl, hBy⟩ := hrel
        replace kT2 := kT2.to hBy
        replace hv2 := hv2.to hBy
        replace hL := hL.below hBy
        obtain ⟨cT2, fT2, lT2⟩ := kT2.facts
        by_cases hj8 : j < 8
        · obtain ⟨gk, gn, ga, gb, gc, hG, _, hK⟩ := get_at hEt (l * 8 + j) (by omega)
          have H1 := Lib.hid (TGet_any 1 lt es _ (l * 8 + j : Nat) _ hv2 hs hL)
          rw [hG] at H1
          have hsu : usedB es l (j + 1) = (usedB es l j || (gk != 0)) := by rw [hK]; rfl
          clear hK hG
          have hi64 : l * 8 + j < 64 := by omega
          have hdl : decide (((l * 8 + j : Nat) : Int) < ((l : Int) + 1) * 8) = true := by rw [decide_eq_true_eq]; omega
          generalize hi : l * 8 + j = i at *
          rcases hu : usedB es l j with _ | _
          · rw [hu, Bool.false_or] at hsu
            go_wp2_with (first | (go_at_call 17; refine H1.out.mono ?_; rintro e w12 ⟨rfl, hb12⟩; have kE := Bk.new w12 #[.int .i64 gk, .int .i64 gn, .bool ga, .bool gb, .bool gc] 35))
            go_roundw
            case rel => exact ⟨j + 1, by omega, by rw [hsu], by go_num, balloc (bnext hBy hb12) _⟩
            case measure => simp [intOf]; omega
          · rw [hu, Bool.true_or] at hsu
            go_wp2_with (first | (go_at_call 17; refine H1.out.mono ?_; rintro e w12 ⟨rfl, hb12⟩))
            go_roundw
            case rel => exact ⟨j + 1, by omega, by rw [hsu], by go_num, balloc (bnext hBy hb12) _⟩
            case measure => simp [intOf]; omega
        · obtain rfl : j = 8 := by omega
          have hdl : decide (((l * 8 + 8 : Nat) : Int) < ((l : Int) + 1) * 8) = false := by rw [decide_eq_false_iff_not]; omega
          generalize hi : l * 8 + 8 = i at *
          generalize usedB es l 8 = u at *
          cases u
          all_goals
            go_wp2_with fail
            go_roundw
            case rel => exact ⟨l + 1, by omega, by go_num, bnext hBx hBy⟩
            case measure => simp [intOf]; omega
    · obtain rfl : l = 8 := by omega
      replace hL := hL.below hBx
      replace hi2 := hi2.below hBx
      replace hi4 := hi4.below hBx
      replace hi5 := hi5.below hBx
      replace hB7 := bnext hB7 hBx
      clear hBx HU kT2 hv2
      go_wp2_with fail
      go_loopw [22] (fun s wq => ∃ j : Nat, j ≤ lg.length ∧ s = .int .i64 j ∧ Below wr.heap.size wr wq) (fun s _ => lg.length - (intOf s).toNat)
      case atStart => exact ⟨0, by omega, rfl, Below.refl _ _⟩
      case round =>
        obtain ⟨j, hj, rfl, hBy⟩ := hrel
        replace hL := hL.below hBy
        replace hi2 := hi2.below hBy
        replace hi4 := hi4.below hBy
        replace hi5 := hi5.below hBy
        by_cases hjl : j < lg.length
        · have dj : decide ((j : Int) < (lg.length : Int)) = true := by simp; omega
          obtain ⟨hf1, hf2⟩ := HF.out j hjl
          obtain ⟨U, kk, he, hr2⟩ := hi2
          obtain ⟨rfl, rfl⟩ : U2 = U ∧ k2 = kk := by injection he with e1 e2 e3; exact ⟨e1, e3⟩
          obtain ⟨g, off, z, rfl, hg, hz, hc⟩ := hr2.numb hjl
          rw [hz] at hf1 hf2
          have HA := Lib.hid (Has_any fb z _ _ hi4 (by omega))
          have HB := Lib.hid (fun W h => Has_any fa z (.slice U5 fa.length k5) W h (by omega))
          rw [decide_eq_true hf1] at HA
          rw [decide_eq_false hf2] at HB
          clear hf1 hf2 hz HF
          go_wp2_with (first
            | (go_at_call 40; refine HA.out.mono ?_; rintro e w12 ⟨rfl, hb12⟩; clear HA; have hc2 := cell_later hb12 hc)
            | (go_at_call 40; refine (HB.out _ (hi5.to hb12)).mono ?_; rintro e w13 ⟨rfl, hb13⟩))
          go_roundw
          case rel => first | exact ⟨j + 1, by omega, by go_num, bnext (bnext hBy hb12) hb13⟩ | ((repeat apply Exists.intro); exact ⟨⟨j + 1, by omega, by go_num, bnext (bnext hBy hb12) hb13⟩, rfl⟩)
          case measure => simp [intOf]; omega
        · obtain rfl : j = lg.length := by omega
          go_wp2_with (first | (go_at_call 10; refine (awake_true _ hL).mono ?_; rintro e w12 ⟨rfl, hb12⟩))
          go_ret
          exact ⟨rfl, bnext (bnext hB7 hBy) hb12⟩
end Go.Proofs.YtnmknbnidfmmoaaDoor
