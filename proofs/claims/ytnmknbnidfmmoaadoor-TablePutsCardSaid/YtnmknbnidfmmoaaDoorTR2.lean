/- Page tables: the reference's Check. -/
import Derived.Test.YtnmknbnidfmmoaaDoorTR1
import Derived.Deep.RegionHeld3
namespace Go.Proofs.YtnmknbnidfmmoaaDoor
open Go Go.Proofs Go.RowKit
set_option linter.unusedSimpArgs false
set_option linter.unusedVariables false
set_option maxRecDepth 100000

set_option maxHeartbeats 4000000 in
theorem rTCheck_any (r : Int) (ls : List Int) (es : List Nat) (v : Value) (w : World) (hv : TbV w v (r, ls, es)) (hs : wsmall es) :
    Calls Tryd.prog 16 #[v] w fun e w' => e = .returned (.int .i64 (tabE r ls es)) ∧ Below w.heap.size w w' := by
  obtain ⟨A, c, B, d, rfl, hA, hB, hcc⟩ := hv
  simp only at hA hB hcc
  unfold tabV
  have kT := Bk.new w #[.int .i64 r, .slice A ls.length c, .slice B es.length d] 25
  have hB1 := balloc (Below.refl _ w) (.cells #[.int .i64 r, .slice A ls.length c, .slice B es.length d] 25)
  have hA1 := hA.alloc (.cells #[.int .i64 r, .slice A ls.length c, .slice B es.length d] 25)
  have hE1 := hB.alloc (.cells #[.int .i64 r, .slice A ls.length c, .slice B es.length d] 25)
  by_cases h1 : ls.length = 8
  case neg =>
    have hv : tabE r ls es = 3 := by unfold tabE; rw [if_pos (.inl h1)]
    rw [hv]
    have hd : ((ls.length : Int) != 8) = true := by simp; omega
    go_enter Tryd.func16, Tryd.ntmps16
    go_wp2_with fail
    go_ret
    exact ⟨rfl, hB1⟩
  by_cases h2 : es.length = 64
  case neg =>
    have hv : tabE r ls es = 3 := by unfold tabE; rw [if_pos (.inr h2)]
    rw [hv]
    have hd : ((es.length : Int) != 64) = true := by simp; omega
    rw [h1] at kT hB1 ⊢
    go_enter Tryd.func16, Tryd.ntmps16
    go_wp2_with fail
    go_ret
    exact ⟨rfl, hB1⟩
  have HE : Hid (tabE r ls es = orE (frmE r ls) (fst0 (entB ls es) 64)) := Lib.hid (by unfold tabE; rw [if_neg (by omega)])
  rw [h1] at kT hB1 hA1 hE1 ⊢
  rw [h2] at kT hB1 hA1 hE1 ⊢
  generalize hw1 : w.alloc (.cells #[.int .i64 r, .slice A 8 c, .slice B 64 d] 25) = w1 at *
  have c0 := kT.cell 0
  have c1 := kT.cell 1
  have c2 := kT.cell 2
  simp at c0 c1 c2
  obtain ⟨cT, fT, lT⟩ := kT.facts
  by_cases hr : r < -1 ∨ 256 ≤ r
  · have Hv : Hid (tabE r ls es = 2) := Lib.hid (by
      have : badF r = 2 := by unfold badF; rw [if_pos hr]
      have h3 : frmE r ls = 2 := by unfold frmE; rw [orE_l _ (by omega), this]
      rw [HE.out, h3, orE_l _ (by omega)])
    rcases hr with hr | hr
    all_goals
      go_enter Tryd.func16, Tryd.ntmps16
      go_wp2_with fail
      go_ret
      exact ⟨by rw [Hv.out]; rfl, hB1⟩
  have Hr : Hid (badF r = 0) := Lib.hid (by unfold badF; rw [if_neg hr])
  have hr1 : -1 ≤ r := by omega
  have hr2 : r < 256 := by omega
  clear hr
  go_enter Tryd.func16, Tryd.ntmps16
  go_wp2_with fail
  go_loop [3] (fun i => ∃ k : Nat, k ≤ 8 ∧ i = .int .i64 k ∧ Hid (fst0 (fun i => badF (ls.getD i 0)) k = 0)) (fun i => 8 - (intOf i).toNat)
  case atStart => exact ⟨0, by omega, rfl, Lib.hid rfl⟩
  case round =>
    obtain ⟨k, hk, rfl, Hno⟩ := hrel
    by_cases hlt : k < 8
    · obtain ⟨g, off, z, rfl, hg, hz, hc⟩ := hA1.numb hlt
      have hkI : (k : Int) < 8 := by omega
      by_cases hz3 : z < -1 ∨ 256 ≤ z
      · have Hv : Hid (tabE r ls es = 2) := Lib.hid (by
          have hb : badF (ls.getD k 0) = 2 := by rw [hz]; unfold badF; rw [if_pos hz3]
          have h3 : lsE ls = 2 := by unfold lsE; rw [fst0_hit _ k 8 Hno.out (by simp only [hb]; omega) hlt, hb]
          have h4 : frmE r ls = 2 := by unfold frmE; rw [orE_r _ Hr.out, h3, orE_l _ (by omega)]
          rw [HE.out, h4, orE_l _ (by omega)])
        clear hz
        rcases hz3 with hz3 | hz3
        all_goals
          go_wp2_with fail
          go_ret
          exact ⟨by rw [Hv.out]; rfl, hB1⟩
      · have Hn2 := Lib.hid (fst0_step (fun i => badF (ls.getD i 0)) k Hno.out (by simp only [hz]; unfold badF; rw [if_neg hz3]))
        have hz4 : -1 ≤ z := by omega
        have hz5 : z < 256 := by omega
        clear hz hz3
        go_wp2_with fail
        go_round
        case rel => exact ⟨k + 1, by omega, by go_num, Hn2⟩
        case measure => simp [intOf]; omega
    · obtain rfl : k = 8 := by omega
      have Hl : Hid (lsE ls = 0) := Lib.hid (by unfold lsE; exact Hno.out)
      have Hb : Hid (∀ i, i < 8 → -1 ≤ ls.getD i 0) := Lib.hid (fun i hi => (badF_zero ((fst0_zero _ _).1 Hno.out i hi)).1)
      clear Hno hk hlt
      go_wp2_with fail
      clear cT fT lT
      go_loopw [4] (fun i wr => ∃ k : Nat, k ≤ 8 ∧ i = .int .i64 k ∧ Hid (fst0 (dupE r ls) k = 0) ∧ Below w1.heap.size w1 wr) (fun i _ => 8 - (intOf i).toNat)
      case atStart => exact ⟨0, by omega, rfl, Lib.hid rfl, Below.refl _ _⟩
      case round =>
        obtain ⟨k, hk, rfl, Hno, hbr⟩ := hrel
        by_cases hlt : k < 8
        · obtain ⟨g, off, z, rfl, hg, hz, hc⟩ := (hA1.below hbr (Nat.le_refl _)).numb hlt
          have hkI : (k : Int) < 8 := by omega
          have kTr := kT.to hbr
          have r0 := kTr.cell 0
          have r1 := kTr.cell 1
          have r2 := kTr.cell 2
          simp at r0 r1 r2
          have hhit : 0 ≤ z → usesB r ls k z = true → tabE r ls es = 7 := fun h0 hu => by
            have hd : dupE r ls k = 7 := by
              unfold dupE
              rw [if_pos]
              rw [hz]
              refine ⟨h0, ?_⟩
              rcases (usesB_iff r ls k z).1 hu with h | h
              · exact .inl h.symm
              · exact .inr h
            have h4 : frmE r ls = 7 := by unfold frmE; rw [orE_r _ Hr.out, orE_r _ Hl.out, fst0_hit _ k 8 Hno.out (by omega) hlt, hd, orE_l _ (by omega)]
            rw [HE.out, h4, orE_l _ (by omega)]
          have hmiss : ¬ (0 ≤ z ∧ usesB r ls k z = true) → fst0 (dupE r ls) (k + 1) = 0 := fun h => fst0_step _ k Hno.out (by
            unfold dupE
            rw [if_neg]
            rw [hz]
            rintro ⟨h0, h3⟩
            apply h
            refine ⟨h0, (usesB_iff r ls k z).2 ?_⟩
            rcases h3 with h3 | h3
            · exact .inl h3.symm
            · exact .inr h3)
          clear hz
          by_cases hz0 : 0 ≤ z
          · have d0 : decide (0 ≤ z) = true := by simpa using hz0
            have HU := Lib.hid (fun W => rUses_any r ls (some ⟨g, off, none⟩) B c 64 d k z W)
            rw [h1] at HU
            rcases hub : usesB r ls k z with _ | _
            · have Hn2 := Lib.hid (hmiss (by rw [hub]; simp))
              rw [hub] at HU
              clear hhit hmiss hub hz0
              go_wp2_with fail
              go_region_held3 (fun w' => w'.cell? ⟨w.heap.size, 0, none⟩ = some (.int .i64 r) ∧ w'.cell? ⟨w.heap.size, 1, none⟩ = some (.slice (some ⟨g, off, none⟩) 8 c) ∧ w'.cell? ⟨w.heap.size, 2, none⟩ = some (.slice B 64 d) ∧ w'.cell? ⟨g, off + k, none⟩ = some (.int .i64 z))
                (refine ⟨?_, ?_, ?_, ?_⟩ <;> (repeat (with_reducible first | exact r0 | exact r1 | exact r2 | exact hc | refine cell_drew ?_ | refine cell_later hbU ?_)))
                (first | (go_at_call 49; refine (HU.out _ (by repeat (with_reducible first | exact hA1.below hbr (Nat.le_refl _) | refine Rd.drew1 ?_)) (by omega) (by omega)).mono ?_; rintro e wU ⟨rfl, hbU⟩))
              go_wp2_with fail
              go_roundw
              case rel => exact ⟨k + 1, by omega, by go_num, Hn2, bnext (below_drew hbr) hbU⟩
              case measure => simp [intOf]; omega
            · have Hv := Lib.hid (hhit hz0 hub)
              rw [hub] at HU
              clear hhit hmiss hub hz0
              go_wp2_with fail
              go_region_held3 (fun w' => w'.cell? ⟨w.heap.size, 0, none⟩ = some (.int .i64 r) ∧ w'.cell? ⟨w.heap.size, 1, none⟩ = some (.slice (some ⟨g, off, none⟩) 8 c) ∧ w'.cell? ⟨w.heap.size, 2, none⟩ = some (.slice B 64 d) ∧ w'.cell? ⟨g, off + k, none⟩ = some (.int .i64 z))
                (refine ⟨?_, ?_, ?_, ?_⟩ <;> (repeat (with_reducible first | exact r0 | exact r1 | exact r2 | exact hc | refine cell_drew ?_ | refine cell_later hbU ?_)))
                (first | (go_at_call 49; refine (HU.out _ (by repeat (with_reducible first | exact hA1.below hbr (Nat.le_refl _) | refine Rd.drew1 ?_)) (by omega) (by omega)).mono ?_; rintro e wU ⟨rfl, hbU⟩))
              go_wp2_with fail
              go_ret
              exact ⟨by rw [Hv.out]; rfl, bnext hB1 (bnext (below_drew hbr) hbU)⟩
          · have d0 : decide (0 ≤ z) = false := by simpa using hz0
            have Hn2 := Lib.hid (hmiss (fun h => hz0 h.1))
            clear hhit hmiss hz0
            go_wp2_with fail
            go_quiet (fail)
            go_wp2_with fail
            go_roundw
            case rel => exact ⟨k + 1, by omega, by go_num, Hn2, below_drawn hbr _⟩
            case measure => simp [intOf]; omega
        · obtain rfl : k = 8 := by omega
          have Hd := Hno
          clear Hno
          go_wp2_with fail
          have r0 := (kT.to hbr).cell 0
          have r1 := (kT.to hbr).cell 1
          have r2 := (kT.to hbr).cell 2
          simp at r0 r1 r2
          obtain ⟨wo, hwo⟩ : ∃ wo : World, wo = wr := ⟨_, rfl⟩
          subst hwo
          go_loop [5] (fun i => ∃ k : Nat, k ≤ 8 ∧ i = .int .i64 k ∧ Hid (fst0 (stE r ls) k = 0)) (fun i => 8 - (intOf i).toNat)
          case atStart => exact ⟨0, by omega, rfl, Lib.hid rfl⟩
          case round =>
            obtain ⟨k, hk, rfl, Hno⟩ := hrel
            by_cases hlt : k < 8
            · obtain ⟨g, off, z, rfl, hg, hz, hc⟩ := (hA1.below hbr (Nat.le_refl _)).numb hlt
              have hkI : (k : Int) < 8 := by omega
              by_cases hz3 : 0 ≤ z ∧ r < 0
              · have Hv : Hid (tabE r ls es = 9) := Lib.hid (by
                  have hb : stE r ls k = 9 := by unfold stE; rw [if_pos (by rw [hz]; exact hz3)]
                  have h4 : frmE r ls = 9 := by unfold frmE; rw [orE_r _ Hr.out, orE_r _ Hl.out, orE_r _ Hd.out, fst0_hit _ k 8 Hno.out (by omega) hlt, hb]
                  rw [HE.out, h4, orE_l _ (by omega)])
                obtain ⟨hz4, hz5⟩ := hz3
                have d0 : decide (0 ≤ z) = true := by simpa using hz4
                have d1 : decide (r < 0) = true := by simpa using hz5
                clear hz
                go_wp2_with fail
                go_ret
                exact ⟨by rw [Hv.out]; rfl, bnext hB1 hbr⟩
              · have Hn2 := Lib.hid (fst0_step (stE r ls) k Hno.out (by unfold stE; rw [if_neg (by rw [hz]; exact hz3)]))
                have hz4 : decide (0 ≤ z) = false ∨ decide (0 ≤ z) = true ∧ decide (r < 0) = false := by
                  by_cases h : 0 ≤ z
                  · right; exact ⟨by simpa using h, by simp; omega⟩
                  · left; simpa using h
                clear hz hz3
                rcases hz4 with hz4 | ⟨hz4, hz5⟩
                all_goals
                  go_wp2_with fail
                  go_round
                  case rel => exact ⟨k + 1, by omega, by go_num, Hn2⟩
                  case measure => simp [intOf]; omega
            · obtain rfl : k = 8 := by omega
              have Hv : Hid (tabE r ls es = fst0 (entB ls es) 64) := Lib.hid (by
                have h4 : frmE r ls = 0 := by unfold frmE; rw [orE_r _ Hr.out, orE_r _ Hl.out, orE_r _ Hd.out, Hno.out]
                rw [HE.out, orE_r _ h4])
              clear Hno
              go_wp2_with fail
              go_loopw [6] (fun i wr => ∃ k : Nat, k ≤ 64 ∧ i = .int .i64 k ∧ Hid (fst0 (entB ls es) k = 0) ∧ Below w1.heap.size w1 wr) (fun i _ => 64 - (intOf i).toNat)
              case atStart => exact ⟨0, by omega, rfl, Lib.hid rfl, hbr⟩
              case round =>
                clear r0 r1 r2 hbr
                obtain ⟨k, hk, rfl, Hno, hbr⟩ := hrel
                obtain ⟨cT, fT, lT⟩ := (kT.to hbr).facts
                by_cases hlt : k < 64
                · obtain ⟨g, off, x, rfl, hg, hx, hxs, hc⟩ := (hE1.below hbr (Nat.le_refl _)).word hs hlt
                  have hkI : (k : Int) < 64 := by omega
                  by_cases hu : unpE x = 0
                  · obtain ⟨g', off', z, rfl, hg', hz, hc'⟩ := (hA1.below hbr (Nat.le_refl _)).numb (show k / 8 < 8 by omega)
                    have hq1 : ((k / 8 : Nat) : Int) < 8 := by omega
                    have hun := rUnpack_any x
                    rw [unpR_ok0 x hu] at hun
                    obtain ⟨kk, hkk⟩ : ∃ kk : Int, kk = ((x % 4 : Nat) : Int) := ⟨_, rfl⟩
                    rw [← hkk] at hun
                    generalize ((x / 256 : Nat) : Int) = nn at hun
                    generalize decide (x / 4 % 2 = 1) = f1 at hun
                    generalize decide (x / 8 % 2 = 1) = f2 at hun
                    generalize decide (x / 16 % 2 = 1) = f3 at hun
                    have HU := Lib.hid hun
                    clear hun
                    have hzz := Hb.out (k / 8) (by omega)
                    rw [hz] at hzz
                    have Hz : Hid (entB ls es k = if x % 4 ≠ 0 ∧ z = -1 then 9 else 0) := Lib.hid (by unfold entB; rw [hx, orE_r _ hu, hz])
                    by_cases hc4 : x % 4 ≠ 0 ∧ z = -1
                    · have Hv2 : Hid (tabE r ls es = 9) := Lib.hid (by
                        have hb : entB ls es k = 9 := by rw [Hz.out, if_pos hc4]
                        rw [Hv.out, fst0_hit _ k 64 Hno.out (by omega) hlt, hb])
                      have d1 : (kk != 0) = true := by simp; omega
                      have d2 : decide (z < 0) = true := by simp; omega
                      clear hc4 hz hx hu hkk Hz
                      go_wp2_with (first
                        | (go_at_call 50; refine (HU.out _ hxs).mono ?_; rintro e w3 ⟨rfl, hb3⟩; simp only; obtain ⟨cT3, fT3, lT3⟩ := (kT.to (bnext hbr hb3)).facts; have hc3 := (hb3.cell (p := ⟨g', off' + k / 8, none⟩) hg').trans hc'; have hg3 := Nat.lt_of_lt_of_le hg' hb3.size))
                      go_ret
                      exact ⟨by rw [Hv2.out]; rfl, bnext hB1 (balloc (bnext hbr hb3) _)⟩
                    · have Hn2 : Hid (fst0 (entB ls es) (k + 1) = 0) := Lib.hid (fst0_step _ k Hno.out (by rw [Hz.out, if_neg hc4]))
                      have d1 : (kk != 0) = false ∨ (kk != 0) = true ∧ decide (z < 0) = false := by
                        by_cases h4 : x % 4 = 0
                        · left; rw [hkk, h4]; rfl
                        · right; exact ⟨by simp; omega, by simp; omega⟩
                      clear hc4 hz hx hu hkk Hz
                      rcases d1 with d1 | ⟨d1, d2⟩
                      all_goals
                        go_wp2_with (first
                          | (go_at_call 50; refine (HU.out _ hxs).mono ?_; rintro e w3 ⟨rfl, hb3⟩; simp only; obtain ⟨cT3, fT3, lT3⟩ := (kT.to (bnext hbr hb3)).facts; have hc3 := (hb3.cell (p := ⟨g', off' + k / 8, none⟩) hg').trans hc'; have hg3 := Nat.lt_of_lt_of_le hg' hb3.size))
                        go_roundw
                        case rel => first | exact ⟨k + 1, by omega, by go_num, Hn2, balloc (bnext hbr hb3) _⟩ | ((repeat apply Exists.intro); exact ⟨⟨k + 1, by omega, by go_num, Hn2, balloc (bnext hbr hb3) _⟩, rfl⟩)
                        case measure => simp [intOf]; omega
                  · have hun := rUnpack_any x
                    rw [unpR_bad x hu] at hun
                    have Hv2 : Hid (tabE r ls es = unpE x) := Lib.hid (by
                      have hb : entB ls es k = unpE x := by unfold entB; rw [hx, orE_l _ hu]
                      rw [Hv.out, fst0_hit _ k 64 Hno.out (by rw [hb]; exact hu) hlt, hb])
                    have d1 : (unpE x != 0) = true := by simpa using hu
                    have HU := Lib.hid hun
                    clear hun hu hx
                    go_wp2_with (first | (go_at_call 50; refine (HU.out _ hxs).mono ?_; rintro e w3 ⟨rfl, hb3⟩; simp only))
                    go_ret
                    exact ⟨by rw [Hv2.out]; rfl, bnext hB1 (balloc (bnext hbr hb3) _)⟩
                · obtain rfl : k = 64 := by omega
                  have Hv2 : Hid (tabE r ls es = 0) := Lib.hid (by rw [Hv.out, Hno.out])
                  go_wp2_with fail
                  go_ret
                  exact ⟨by rw [Hv2.out]; rfl, bnext hB1 hbr⟩
end Go.Proofs.YtnmknbnidfmmoaaDoor
