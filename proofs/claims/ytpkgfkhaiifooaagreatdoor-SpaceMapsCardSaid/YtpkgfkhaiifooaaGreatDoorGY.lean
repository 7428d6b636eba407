/- Several texts in one. -/
import Derived.Test.YtpkgfkhaiifooaaGreatDoorGX
import Derived.Deep.RegionHeld3
/- Page tables: the reference's uses and Check. -/
namespace Go.Proofs.YtpkgfkhaiifooaaGreatDoor
open Go Go.Proofs Go.RowKit
set_option linter.unusedSimpArgs false
set_option linter.unusedVariables false
set_option maxRecDepth 100000

def usesB (r : Int) (ls : List Int) (n : Nat) (f : Int) : Bool := (r == f) || (List.range n).any fun j => ls.getD j 0 == f
theorem usesB_iff (r : Int) (ls : List Int) (n : Nat) (f : Int) : usesB r ls n f = true ↔ r = f ∨ ∃ j, j < n ∧ ls.getD j 0 = f := by
  simp [usesB, List.any_eq_true]
theorem usesB_not (r : Int) (ls : List Int) (n : Nat) (f : Int) (h1 : r ≠ f) (h2 : ∀ j, j < n → ls.getD j 0 ≠ f) : usesB r ls n f = false := by
  rw [Bool.eq_false_iff]
  intro h
  rcases (usesB_iff r ls n f).1 h with h | ⟨j, hj, h⟩
  · exact h1 h
  · exact h2 j hj h
set_option maxHeartbeats 1000000 in
theorem rUses_any (r : Int) (ls : List Int) (A B : Option Addr) (c m d n : Nat) (f : Int) (w : World) (hA : Rd w 1 A ls.length (iw ls)) (hn : n ≤ ls.length) (hl : ls.length ≤ 1000) :
    Calls Tryz.prog 89 #[.agg #[.int .i64 r, .slice A ls.length c, .slice B m d], .int .i64 n, .int .i64 f] w fun e w' => e = .returned (.bool (usesB r ls n f)) ∧ Below w.heap.size w w' := by
  have kT := Bk.new w #[.int .i64 r, .slice A ls.length c, .slice B m d] 26
  have hB1 := balloc (Below.refl _ w) (.cells #[.int .i64 r, .slice A ls.length c, .slice B m d] 26)
  generalize hw1 : w.alloc (.cells #[.int .i64 r, .slice A ls.length c, .slice B m d] 26) = w1 at *
  obtain ⟨cT, fT, lT⟩ := kT.facts
  replace hA := hA.below hB1 (Nat.le_refl _)
  by_cases hr : r = f
  · have hd : (r == f) = true := by simp [hr]
    have HV : Hid (usesB r ls n f = true) := Lib.hid ((usesB_iff r ls n f).2 (.inl hr))
    clear hr
    go_enter Tryz.func89, Tryz.ntmps89
    go_wp2_with fail
    go_ret
    exact ⟨by rw [HV.out]; rfl, hB1⟩
  · have hd : (r == f) = false := by simp [hr]
    have Hr := Lib.hid hr
    clear hr
    go_enter Tryz.func89, Tryz.ntmps89
    go_wp2_with fail
    go_loop [7] (fun i => ∃ k : Nat, k ≤ n ∧ i = .int .i64 k ∧ Hid (∀ j, j < k → ls.getD j 0 ≠ f)) (fun i => n - (intOf i).toNat)
    case atStart => exact ⟨0, by omega, rfl, Lib.hid (fun j h => by omega)⟩
    case round =>
      obtain ⟨k, hk, rfl, Hno⟩ := hrel
      by_cases hlt : k < n
      · obtain ⟨g, off, z, rfl, hg, hz, hc⟩ := hA.numb (show k < ls.length by omega)
        have hkI : (k : Int) < (ls.length : Int) := by omega
        by_cases hzf : z = f
        · have hd2 : (z == f) = true := by simp [hzf]
          have HV : Hid (usesB r ls n f = true) := Lib.hid ((usesB_iff r ls n f).2 (.inr ⟨k, hlt, by rw [hz, hzf]⟩))
          clear hzf hz
          go_wp2_with fail
          go_ret
          exact ⟨by rw [HV.out]; rfl, hB1⟩
        · have hd2 : (z == f) = false := by simp [hzf]
          have Hn2 : Hid (∀ j, j < k + 1 → ls.getD j 0 ≠ f) := Lib.hid (fun j h => by
            rcases Nat.lt_or_ge j k with h' | h'
            · exact Hno.out j h'
            · rw [show j = k by omega, hz]; exact hzf)
          clear hzf hz
          go_wp2_with fail
          go_round
          case rel => exact ⟨k + 1, by omega, by go_num, Hn2⟩
          case measure => simp [intOf]; omega
      · have HV : Hid (usesB r ls n f = false) := Lib.hid (usesB_not r ls n f Hr.out (fun j hj => Hno.out j (by omega)))
        obtain rfl : k = n := by omega
        go_wp2_with fail
        go_ret
        exact ⟨by rw [HV.out]; rfl, hB1⟩
end Go.Proofs.YtpkgfkhaiifooaaGreatDoor
/- Page tables: the reference's Check. -/
namespace Go.Proofs.YtpkgfkhaiifooaaGreatDoor
open Go Go.Proofs Go.RowKit
set_option linter.unusedSimpArgs false
set_option linter.unusedVariables false
set_option maxRecDepth 100000

set_option maxHeartbeats 4000000 in
theorem rTCheck_any (r : Int) (ls : List Int) (es : List Nat) (v : Value) (w : World) (hv : TbV w v (r, ls, es)) (hs : wsmall es) :
    Calls Tryz.prog 56 #[v] w fun e w' => e = .returned (.int .i64 (tabE r ls es)) ∧ Below w.heap.size w w' := by
  obtain ⟨A, c, B, d, rfl, hA, hB, hcc⟩ := hv
  simp only at hA hB hcc
  unfold tabV
  have kT := Bk.new w #[.int .i64 r, .slice A ls.length c, .slice B es.length d] 26
  have hB1 := balloc (Below.refl _ w) (.cells #[.int .i64 r, .slice A ls.length c, .slice B es.length d] 26)
  have hA1 := hA.alloc (.cells #[.int .i64 r, .slice A ls.length c, .slice B es.length d] 26)
  have hE1 := hB.alloc (.cells #[.int .i64 r, .slice A ls.length c, .slice B es.length d] 26)
  by_cases h1 : ls.length = 8
  case neg =>
    have hv : tabE r ls es = 3 := by unfold tabE; rw [if_pos (.inl h1)]
    rw [hv]
    have hd : ((ls.length : Int) != 8) = true := by simp; omega
    go_enter Tryz.func56, Tryz.ntmps56
    go_wp2_with fail
    go_ret
    exact ⟨rfl, hB1⟩
  by_cases h2 : es.length = 64
  case neg =>
    have hv : tabE r ls es = 3 := by unfold tabE; rw [if_pos (.inr h2)]
    rw [hv]
    have hd : ((es.length : Int) != 64) = true := by simp; omega
    rw [h1] at kT hB1 ⊢
    go_enter Tryz.func56, Tryz.ntmps56
    go_wp2_with fail
    go_ret
    exact ⟨rfl, hB1⟩
  have HE : Hid (tabE r ls es = orE (frmE r ls) (fst0 (entB ls es) 64)) := Lib.hid (by unfold tabE; rw [if_neg (by omega)])
  rw [h1] at kT hB1 hA1 hE1 ⊢
  rw [h2] at kT hB1 hA1 hE1 ⊢
  generalize hw1 : w.alloc (.cells #[.int .i64 r, .slice A 8 c, .slice B 64 d] 26) = w1 at *
  have c0 := kT.cell 0
  have c1 := kT.cell 1
  have c2 := kT.cell 2
  simp at c0 c1 c2
  obtain ⟨cT, fT, lT⟩ := kT.facts
  by_cases hr : r < -1 ∨ 256 ≤ r
  · have Hv : Hid (tabE r ls es = 2) := Lib.hid (by
      have : badF r = 2 := by unfold badF; rw [if_pos hr]
      have h3 : frmE r ls = 2 := by unfold frmE; rw [orE_l _ (by omega), this]
      rw [HE.out, h3, orE_l _ (by omega)])
    rcases hr with hr | hr
    all_goals
      go_enter Tryz.func56, Tryz.ntmps56
      go_wp2_with fail
      go_ret
      exact ⟨by rw [Hv.out]; rfl, hB1⟩
  have Hr : Hid (badF r = 0) := Lib.hid (by unfold badF; rw [if_neg hr])
  have hr1 : -1 ≤ r := by omega
  have hr2 : r < 256 := by omega
  clear hr
  go_enter Tryz.func56, Tryz.ntmps56
  go_wp2_with fail
  go_loop [3] (fun i => ∃ k : Nat, k ≤ 8 ∧ i = .int .i64 k ∧ Hid (fst0 (fun i => badF (ls.getD i 0)) k = 0)) (fun i => 8 - (intOf i).toNat)
  case atStart => exact ⟨0, by omega, rfl, Lib.hid rfl⟩
  case round =>
    obtain ⟨k, hk, rfl, Hno⟩ := hrel
    by_cases hlt : k < 8
    · obtain ⟨g, off, z, rfl, hg, hz, hc⟩ := hA1.numb hlt
      have hkI : (k : Int) < 8 := by omega
      by_cases hz3 : z < -1 ∨ 256 ≤ z
      · have Hv : Hid (tabE r ls es = 2) := Lib.hid (by
          have hb : badF (ls.getD k 0) = 2 := by rw [hz]; unfold badF; rw [if_pos hz3]
          have h3 : lsE ls = 2 := by unfold lsE; rw [fst0_hit _ k 8 Hno.out (by simp only [hb]; omega) hlt, hb]
          have h4 : frmE r ls = 2 := by unfold frmE; rw [orE_r _ Hr.out, h3, orE_l _ (by omega)]
          rw [HE.out, h4, orE_l _ (by omega)])
        clear hz
        rcases hz3 with hz3 | hz3
        all_goals
          go_wp2_with fail
          go_ret
          exact ⟨by rw [Hv.out]; rfl, hB1⟩
      · have Hn2 := Lib.hid (fst0_step (fun i => badF (ls.getD i 0)) k Hno.out (by simp only [hz]; unfold badF; rw [if_neg hz3]))
        have hz4 : -1 ≤ z := by omega
        have hz5 : z < 256 := by omega
        clear hz hz3
        go_wp2_with fail
        go_round
        case rel => exact ⟨k + 1, by omega, by go_num, Hn2⟩
        case measure => simp [intOf]; omega
    · obtain rfl : k = 8 := by omega
      have Hl : Hid (lsE ls = 0) := Lib.hid (by unfold lsE; exact Hno.out)
      have Hb : Hid (∀ i, i < 8 → -1 ≤ ls.getD i 0) := Lib.hid (fun i hi => (badF_zero ((fst0_zero _ _).1 Hno.out i hi)).1)
      clear Hno hk hlt
      go_wp2_with fail
      clear cT fT lT
      go_loopw [4] (fun i wr => ∃ k : Nat, k ≤ 8 ∧ i = .int .i64 k ∧ Hid (fst0 (dupE r ls) k = 0) ∧ Below w1.heap.size w1 wr) (fun i _ => 8 - (intOf i).toNat)
      case atStart => exact ⟨0, by omega, rfl, Lib.hid rfl, Below.refl _ _⟩
      case round =>
        obtain ⟨k, hk, rfl, Hno, hbr⟩ := hrel
        by_cases hlt : k < 8
        · obtain ⟨g, off, z, rfl, hg, hz, hc⟩ := (hA1.below hbr (Nat.le_refl _)).numb hlt
          have hkI : (k : Int) < 8 := by omega
          have kTr := kT.to hbr
          have r0 := kTr.cell 0
          have r1 := kTr.cell 1
          have r2 := kTr.cell 2
          simp at r0 r1 r2
          have hhit : 0 ≤ z → usesB r ls k z = true → tabE r ls es = 7 := fun h0 hu => by
            have hd : dupE r ls k = 7 := by
              unfold dupE
              rw [if_pos]
              rw [hz]
              refine ⟨h0, ?_⟩
              rcases (usesB_iff r ls k z).1 hu with h | h
              · exact .inl h.symm
              · exact .inr h
            have h4 : frmE r ls = 7 := by unfold frmE; rw [orE_r _ Hr.out, orE_r _ Hl.out, fst0_hit _ k 8 Hno.out (by omega) hlt, hd, orE_l _ (by omega)]
            rw [HE.out, h4, orE_l _ (by omega)]
          have hmiss : ¬ (0 ≤ z ∧ usesB r ls k z = true) → fst0 (dupE r ls) (k + 1) = 0 := fun h => fst0_step _ k Hno.out (by
            unfold dupE
            rw [if_neg]
            rw [hz]
            rintro ⟨h0, h3⟩
            apply h
            refine ⟨h0, (usesB_iff r ls k z).2 ?_⟩
            rcases h3 with h3 | h3
            · exact .inl h3.symm
            · exact .inr h3)
          clear hz
          by_cases hz0 : 0 ≤ z
          · have d0 : decide (0 ≤ z) = true := by simpa using hz0
            have HU := Lib.hid (fun W => rUses_any r ls (some ⟨g, off, none⟩) B c 64 d k z W)
            rw [h1] at HU
            rcases hub : usesB r ls k z with _ | _
            · have Hn2 := Lib.hid (hmiss (by rw [hub]; simp))
              rw [hub] at HU
              clear hhit hmiss hub hz0
              go_wp2_with fail
              go_region_held3 (fun w' => w'.cell? ⟨w.heap.size, 0, none⟩ = some (.int .i64 r) ∧ w'.cell? ⟨w.heap.size, 1, none⟩ = some (.slice (some ⟨g, off, none⟩) 8 c) ∧ w'.cell? ⟨w.heap.size, 2, none⟩ = some (.slice B 64 d) ∧ w'.cell? ⟨g, off + k, none⟩ = some (.int .i64 z))
                (refine ⟨?_, ?_, ?_, ?_⟩ <;> (repeat (with_reducible first | exact r0 | exact r1 | exact r2 | exact hc | refine cell_drew ?_ | refine cell_later hbU ?_)))
                (first | (go_at_call 89; refine (HU.out _ (by repeat (with_reducible first | exact hA1.below hbr (Nat.le_refl _) | refine Rd.drew1 ?_)) (by omega) (by omega)).mono ?_; rintro e wU ⟨rfl, hbU⟩))
              go_wp2_with fail
              go_roundw
              case rel => exact ⟨k + 1, by omega, by go_num, Hn2, bnext (below_drew hbr) hbU⟩
              case measure => simp [intOf]; omega
            · have Hv := Lib.hid (hhit hz0 hub)
              rw [hub] at HU
              clear hhit hmiss hub hz0
              go_wp2_with fail
              go_region_held3 (fun w' => w'.cell? ⟨w.heap.size, 0, none⟩ = some (.int .i64 r) ∧ w'.cell? ⟨w.heap.size, 1, none⟩ = some (.slice (some ⟨g, off, none⟩) 8 c) ∧ w'.cell? ⟨w.heap.size, 2, none⟩ = some (.slice B 64 d) ∧ w'.cell? ⟨g, off + k, none⟩ = some (.int .i64 z))
                (refine ⟨?_, ?_, ?_, ?_⟩ <;> (repeat (with_reducible first | exact r0 | exact r1 | exact r2 | exact hc | refine cell_drew ?_ | refine cell_later hbU ?_)))
                (first | (go_at_call 89; refine (HU.out _ (by repeat (with_reducible first | exact hA1.below hbr (Nat.le_refl _) | refine Rd.drew1 ?_)) (by omega) (by omega)).mono ?_; rintro e wU ⟨rfl, hbU⟩))
              go_wp2_with fail
              go_ret
              exact ⟨by rw [Hv.out]; rfl, bnext hB1 (bnext (below_drew hbr) hbU)⟩
          · have d0 : decide (0 ≤ z) = false := by simpa using hz0
            have Hn2 := Lib.hid (hmiss (fun h => hz0 h.1))
            clear hhit hmiss hz0
            go_wp2_with fail
            go_quiet (fail)
            go_wp2_with fail
            go_roundw
            case rel => exact ⟨k + 1, by omega, by go_num, Hn2, below_drawn hbr _⟩
            case measure => simp [intOf]; omega
        · obtain rfl : k = 8 := by omega
          have Hd := Hno
          clear Hno
          go_wp2_with fail
          have r0 := (kT.to hbr).cell 0
          have r1 := (kT.to hbr).cell 1
          have r2 := (kT.to hbr).cell 2
          simp at r0 r1 r2
          obtain ⟨wo, hwo⟩ : ∃ wo : World, wo = wr := ⟨_, rfl⟩
          subst hwo
          go_loop [5] (fun i => ∃ k : Nat, k ≤ 8 ∧ i = .int .i64 k ∧ Hid (fst0 (stE r ls) k = 0)) (fun i => 8 - (intOf i).toNat)
          case atStart => exact ⟨0, by omega, rfl, Lib.hid rfl⟩
          case round =>
            obtain ⟨k, hk, rfl, Hno⟩ := hrel
            by_cases hlt : k < 8
            · obtain ⟨g, off, z, rfl, hg, hz, hc⟩ := (hA1.below hbr (Nat.le_refl _)).numb hlt
              have hkI : (k : Int) < 8 := by omega
              by_cases hz3 : 0 ≤ z ∧ r < 0
              · have Hv : Hid (tabE r ls es = 9) := Lib.hid (by
                  have hb : stE r ls k = 9 := by unfold stE; rw [if_pos (by rw [hz]; exact hz3)]
                  have h4 : frmE r ls = 9 := by unfold frmE; rw [orE_r _ Hr.out, orE_r _ Hl.out, orE_r _ Hd.out, fst0_hit _ k 8 Hno.out (by omega) hlt, hb]
                  rw [HE.out, h4, orE_l _ (by omega)])
                obtain ⟨hz4, hz5⟩ := hz3
                have d0 : decide (0 ≤ z) = true := by simpa using hz4
                have d1 : decide (r < 0) = true := by simpa using hz5
                clear hz
                go_wp2_with fail
                go_ret
                exact ⟨by rw [Hv.out]; rfl, bnext hB1 hbr⟩
              · have Hn2 := Lib.hid (fst0_step (stE r ls) k Hno.out (by unfold stE; rw [if_neg (by rw [hz]; exact hz3)]))
                have hz4 : decide (0 ≤ z) = false ∨ decide (0 ≤ z) = true ∧ decide (r < 0) = false := by
                  by_cases h : 0 ≤ z
                  · right; exact ⟨by simpa using h, by simp; omega⟩
                  · left; simpa using h
                clear hz hz3
                rcases hz4 with hz4 | ⟨hz4, hz5⟩
                all_goals
                  go_wp2_with fail
                  go_round
                  case rel => exact ⟨k + 1, by omega, by go_num, Hn2⟩
                  case measure => simp [intOf]; omega
            · obtain rfl : k = 8 := by omega
              have Hv : Hid (tabE r ls es = fst0 (entB ls es) 64) := Lib.hid (by
                have h4 : frmE r ls = 0 := by unfold frmE; rw [orE_r _ Hr.out, orE_r _ Hl.out, orE_r _ Hd.out, Hno.out]
                rw [HE.out, orE_r _ h4])
              clear Hno
              go_wp2_with fail
              go_loopw [6] (fun i wr => ∃ k : Nat, k ≤ 64 ∧ i = .int .i64 k ∧ Hid (fst0 (entB ls es) k = 0) ∧ Below w1.heap.size w1 wr) (fun i _ => 64 - (intOf i).toNat)
              case atStart => exact ⟨0, by omega, rfl, Lib.hid rfl, hbr⟩
              case round =>
                clear r0 r1 r2 hbr
                obtain ⟨k, hk, rfl, Hno, hbr⟩ := hrel
                obtain ⟨cT, fT, lT⟩ := (kT.to hbr).facts
                by_cases hlt : k < 64
                · obtain ⟨g, off, x, rfl, hg, hx, hxs, hc⟩ := (hE1.below hbr (Nat.le_refl _)).word hs hlt
                  have hkI : (k : Int) < 64 := by omega
                  by_cases hu : unpE x = 0
                  · obtain ⟨g', off', z, rfl, hg', hz, hc'⟩ := (hA1.below hbr (Nat.le_refl _)).numb (show k / 8 < 8 by omega)
                    have hq1 : ((k / 8 : Nat) : Int) < 8 := by omega
                    have hun := rUnpack_any x
                    rw [unpR_ok0 x hu] at hun
                    obtain ⟨kk, hkk⟩ : ∃ kk : Int, kk = ((x % 4 : Nat) : Int) := ⟨_, rfl⟩
                    rw [← hkk] at hun
                    generalize ((x / 256 : Nat) : Int) = nn at hun
                    generalize decide (x / 4 % 2 = 1) = f1 at hun
                    generalize decide (x / 8 % 2 = 1) = f2 at hun
                    generalize decide (x / 16 % 2 = 1) = f3 at hun
                    have HU := Lib.hid hun
                    clear hun
                    have hzz := Hb.out (k / 8) (by omega)
                    rw [hz] at hzz
                    have Hz : Hid (entB ls es k = if x % 4 ≠ 0 ∧ z = -1 then 9 else 0) := Lib.hid (by unfold entB; rw [hx, orE_r _ hu, hz])
                    by_cases hc4 : x % 4 ≠ 0 ∧ z = -1
                    · have Hv2 : Hid (tabE r ls es = 9) := Lib.hid (by
                        have hb : entB ls es k = 9 := by rw [Hz.out, if_pos hc4]
                        rw [Hv.out, fst0_hit _ k 64 Hno.out (by omega) hlt, hb])
                      have d1 : (kk != 0) = true := by simp; omega
                      have d2 : decide (z < 0) = true := by simp; omega
                      clear hc4 hz hx hu hkk Hz
                      go_wp2_with (first
                        | (go_at_call 67; refine (HU.out _ hxs).mono ?_; rintro e w3 ⟨rfl, hb3⟩; simp only; obtain ⟨cT3, fT3, lT3⟩ := (kT.to (bnext hbr hb3)).facts; have hc3 := (hb3.cell (p := ⟨g', off' + k / 8, none⟩) hg').trans hc'; have hg3 := Nat.lt_of_lt_of_le hg' hb3.size))
                      go_ret
                      exact ⟨by rw [Hv2.out]; rfl, bnext hB1 (balloc (bnext hbr hb3) _)⟩
                    · have Hn2 : Hid (fst0 (entB ls es) (k + 1) = 0) := Lib.hid (fst0_step _ k Hno.out (by rw [Hz.out, if_neg hc4]))
                      have d1 : (kk != 0) = false ∨ (kk != 0) = true ∧ decide (z < 0) = false := by
                        by_cases h4 : x % 4 = 0
                        · left; rw [hkk, h4]; rfl
                        · right; exact ⟨by simp; omega, by simp; omega⟩
                      clear hc4 hz hx hu hkk Hz
                      rcases d1 with d1 | ⟨d1, d2⟩
                      all_goals
                        go_wp2_with (first
                          | (go_at_call 67; refine (HU.out _ hxs).mono ?_; rintro e w3 ⟨rfl, hb3⟩; simp only; obtain ⟨cT3, fT3, lT3⟩ := (kT.to (bnext hbr hb3)).facts; have hc3 := (hb3.cell (p := ⟨g', off' + k / 8, none⟩) hg').trans hc'; have hg3 := Nat.lt_of_lt_of_le hg' hb3.size))
                        go_roundw
                        case rel => first | exact ⟨k + 1, by omega, by go_num, Hn2, balloc (bnext hbr hb3) _⟩ | ((repeat apply Exists.intro); exact ⟨⟨k + 1, by omega, by go_num, Hn2, balloc (bnext hbr hb3) _⟩, rfl⟩)
                        case measure => simp [intOf]; omega
                  · have hun := rUnpack_any x
                    rw [unpR_bad x hu] at hun
                    have Hv2 : Hid (tabE r ls es = unpE x) := Lib.hid (by
                      have hb : entB ls es k = unpE x := by unfold entB; rw [hx, orE_l _ hu]
                      rw [Hv.out, fst0_hit _ k 64 Hno.out (by rw [hb]; exact hu) hlt, hb])
                    have d1 : (unpE x != 0) = true := by simpa using hu
                    have HU := Lib.hid hun
                    clear hun hu hx
                    go_wp2_with (first | (go_at_call 67; refine (HU.out _ hxs).mono ?_; rintro e w3 ⟨rfl, hb3⟩; simp only))
                    go_ret
                    exact ⟨by rw [Hv2.out]; rfl, bnext hB1 (balloc (bnext hbr hb3) _)⟩
                · obtain rfl : k = 64 := by omega
                  have Hv2 : Hid (tabE r ls es = 0) := Lib.hid (by rw [Hv.out, Hno.out])
                  go_wp2_with fail
                  go_ret
                  exact ⟨by rw [Hv2.out]; rfl, bnext hB1 hbr⟩
end Go.Proofs.YtpkgfkhaiifooaaGreatDoor
/- Page tables: the reference's asks, Get and Lacks. -/
namespace Go.Proofs.YtpkgfkhaiifooaaGreatDoor
open Go Go.Proofs Go.RowKit
set_option linter.unusedSimpArgs false
set_option linter.unusedVariables false
set_option maxRecDepth 100000

set_option maxHeartbeats 1000000 in
theorem rAsks_any (r : Int) (ls : List Int) (es : List Nat) (v : Value) (page : Int) (w : World) (hv : TbV w v (r, ls, es)) (hs : wsmall es) :
    Calls Tryz.prog 66 #[v, .int .i64 page] w fun e w' => e = .returned (.int .i64 (askE r ls es page)) ∧ Below w.heap.size w w' := by
  obtain ⟨A, c, B, d, rfl, hA, hB, hcc⟩ := id hv
  simp only at hA hB hcc
  unfold tabV at hv ⊢
  simp only at hv ⊢
  have kT := (Bk.new (w) #[.int .i64 r, .slice A ls.length c, .slice B es.length d] 26)
  have hB1 := balloc (Below.refl _ w) (.cells #[.int .i64 r, .slice A ls.length c, .slice B es.length d] 26)
  generalize hw_w1 : w.alloc (.cells #[.int .i64 r, .slice A ls.length c, .slice B es.length d] 26) = w1 at *
  obtain ⟨cT, fT, lT⟩ := kT.facts
  by_cases hE : tabE r ls es = 0
  · by_cases hp : page < 0 ∨ 64 ≤ page
    · have Hv : Hid (askE r ls es page = 2) := Lib.hid (by unfold askE; rw [orE_r _ hE, if_pos hp])
      rcases hp with hp | hp
      all_goals
        go_enter Tryz.func66, Tryz.ntmps66
        go_wp2_with fail
        refine (rTCheck_any r ls es _ _ (hv.to hB1) hs).mono ?_
        rw [hE]
        rintro e w2 ⟨rfl, hb2⟩
        go_wp2_with fail
        go_ret
        exact ⟨by rw [Hv.out]; rfl, bnext hB1 hb2⟩
    · have Hv : Hid (askE r ls es page = 0) := Lib.hid (by unfold askE; rw [orE_r _ hE, if_neg hp])
      have hp1 : 0 ≤ page := by omega
      have hp2 : page < 64 := by omega
      clear hp
      go_enter Tryz.func66, Tryz.ntmps66
      go_wp2_with fail
      refine (rTCheck_any r ls es _ _ (hv.to hB1) hs).mono ?_
      rw [hE]
      rintro e w2 ⟨rfl, hb2⟩
      go_wp2_with fail
      go_ret
      exact ⟨by rw [Hv.out]; rfl, bnext hB1 hb2⟩
  · have Hv : Hid (askE r ls es page = tabE r ls es) := Lib.hid (by unfold askE; rw [orE_l _ hE])
    have hd : (tabE r ls es == 0) = false := by simpa using hE
    go_enter Tryz.func66, Tryz.ntmps66
    go_wp2_with fail
    refine (rTCheck_any r ls es _ _ (hv.to hB1) hs).mono ?_
    rintro e w2 ⟨rfl, hb2⟩
    go_wp2_with fail
    go_ret
    exact ⟨by rw [Hv.out]; rfl, bnext hB1 hb2⟩

set_option maxHeartbeats 1000000 in
theorem rGet_bad (r : Int) (ls : List Int) (es : List Nat) (v : Value) (page : Int) (w : World) (hv : TbV w v (r, ls, es)) (hs : wsmall es) (hA : askE r ls es page ≠ 0) :
    Calls Tryz.prog 32 #[v, .int .i64 page] w fun e w' => EnRes w w' ((0, 0, false, false, false), askE r ls es page) e := by
  obtain ⟨A, c, B, d, rfl, hA', hB, hcc⟩ := id hv
  simp only at hA' hB hcc
  unfold tabV at hv ⊢
  simp only at hv ⊢
  have kT := ((Bk.new (w) #[.int .i64 r, .slice A ls.length c, .slice B es.length d] 26).alloc (.cells #[.int .i64 0, .int .i64 0, .bool false, .bool false, .bool false] 57))
  have kR := (Bk.new (w.alloc (.cells #[.int .i64 r, .slice A ls.length c, .slice B es.length d] 26)) #[.int .i64 0, .int .i64 0, .bool false, .bool false, .bool false] 57)
  rw [World.size_alloc] at kR
  have hB1 := balloc (balloc (Below.refl _ w) (.cells #[.int .i64 r, .slice A ls.length c, .slice B es.length d] 26)) (.cells #[.int .i64 0, .int .i64 0, .bool false, .bool false, .bool false] 57)
  generalize hw_w1 : (w.alloc (.cells #[.int .i64 r, .slice A ls.length c, .slice B es.length d] 26)).alloc (.cells #[.int .i64 0, .int .i64 0, .bool false, .bool false, .bool false] 57) = w1 at *
  have hd : (askE r ls es page != 0) = true := by simpa using hA
  obtain ⟨cT, fT, lT⟩ := kT.facts
  go_enter Tryz.func32, Tryz.ntmps32
  go_wp2_with fail
  refine (rAsks_any r ls es _ page _ (hv.to hB1) hs).mono ?_
  rintro e w2 ⟨rfl, hb2⟩
  replace kR := kR.to hb2
  replace hB1 := bnext hB1 hb2
  clear cT fT lT
  obtain ⟨cR, fR, lR⟩ := kR.facts
  go_wp2_with fail
  have kF := kR.put5 (.int .i64 0) (.int .i64 0) (.bool false) (.bool false) (.bool false)
  have hBF := below_put5 hB1 (b := w.heap.size + 1) (Nat.le_succ _) (.int .i64 0) (.int .i64 0) (.bool false) (.bool false) (.bool false)
  exact bodyPost_ret (kF.res2 (P := Tryz.prog) rfl _ rfl (by kernel_rfl) (by kernel_rfl)) rfl ⟨rfl, hBF⟩

set_option maxHeartbeats 1000000 in
theorem rGet_ok (r : Int) (ls : List Int) (es : List Nat) (v : Value) (p : Nat) (w : World) (hv : TbV w v (r, ls, es)) (hs : wsmall es) (hE : tabE r ls es = 0) (hp : p < 64) :
    Calls Tryz.prog 32 #[v, .int .i64 p] w fun e w' => EnRes w w' (unpR (es.getD p 0)) e := by
  have hask : askE r ls es p = 0 := by unfold askE; rw [orE_r _ hE, if_neg (by omega)]
  obtain ⟨h1, h2, hR, hLs, hDu, hSt, hUn, hMi⟩ := tab_zero hE
  obtain ⟨A, c, B, d, rfl, hA, hB, hcc⟩ := id hv
  simp only at hA hB hcc
  unfold tabV at hv ⊢
  simp only at hv ⊢
  rw [h1, h2] at hv ⊢
  rw [h1] at hA hcc
  rw [h2] at hB
  have kT := ((Bk.new (w) #[.int .i64 r, .slice A 8 c, .slice B 64 d] 26).alloc (.cells #[.int .i64 0, .int .i64 0, .bool false, .bool false, .bool false] 57))
  have kR := (Bk.new (w.alloc (.cells #[.int .i64 r, .slice A 8 c, .slice B 64 d] 26)) #[.int .i64 0, .int .i64 0, .bool false, .bool false, .bool false] 57)
  rw [World.size_alloc] at kR
  have hB1 := balloc (balloc (Below.refl _ w) (.cells #[.int .i64 r, .slice A 8 c, .slice B 64 d] 26)) (.cells #[.int .i64 0, .int .i64 0, .bool false, .bool false, .bool false] 57)
  generalize hw_w1 : (w.alloc (.cells #[.int .i64 r, .slice A 8 c, .slice B 64 d] 26)).alloc (.cells #[.int .i64 0, .int .i64 0, .bool false, .bool false, .bool false] 57) = w1 at *
  have hpI : (p : Int) < 64 := by omega
  obtain ⟨cT, fT, lT⟩ := kT.facts
  go_enter Tryz.func32, Tryz.ntmps32
  go_wp2_with fail
  refine (rAsks_any r ls es _ p _ (hv.to hB1) hs).mono ?_
  rw [hask]
  rintro e w2 ⟨rfl, hb2⟩
  replace kR := kR.to hb2
  replace kT := kT.to hb2
  replace hB1 := bnext hB1 hb2
  clear cT fT lT hw_w1
  obtain ⟨cT, fT, lT⟩ := kT.facts
  obtain ⟨g, off, x, rfl, hg, hx, hxs, hc⟩ := (hB.below hB1 (Nat.le_refl _)).word hs hp
  rcases hu : unpR (es.getD p 0) with ⟨⟨ek, en, ea, eb, ec⟩, er⟩
  have HX := Lib.hid hu
  rw [hx] at hu
  have HU := Lib.hid (rUnpack_any x)
  rw [hu] at HU
  clear hu hx
  go_wp2_with (first | (go_at_call 67; refine (HU.out _ hxs).mono ?_; rintro e w4 ⟨rfl, hb4⟩; simp only; obtain ⟨cR, fR, lR⟩ := (kR.to hb4).facts))
  have kF := (kR.to hb4).put5 (.int .i64 ek) (.int .i64 en) (.bool ea) (.bool eb) (.bool ec)
  have hBF := below_put5 (bnext hB1 hb4) (b := w.heap.size + 1) (Nat.le_succ _) (.int .i64 ek) (.int .i64 en) (.bool ea) (.bool eb) (.bool ec)
  exact bodyPost_ret (kF.res2 (P := Tryz.prog) rfl _ rfl (by kernel_rfl) (by kernel_rfl)) rfl ⟨by rw [HX.out]; rfl, hBF⟩
theorem rGet_any (r : Int) (ls : List Int) (es : List Nat) (v : Value) (page : Int) (w : World) (hv : TbV w v (r, ls, es)) (hs : wsmall es) :
    Calls Tryz.prog 32 #[v, .int .i64 page] w fun e w' => EnRes w w' (getR r ls es page) e := by
  by_cases h : askE r ls es page = 0
  · obtain ⟨h1, p, rfl, hp⟩ := ask_zero h
    unfold getR
    rw [if_neg (by simp [h])]
    exact rGet_ok r ls es v p w hv hs h1 hp
  · unfold getR
    rw [if_pos h]
    exact rGet_bad r ls es v page w hv hs h

end Go.Proofs.YtpkgfkhaiifooaaGreatDoor
/- Page tables: the reference's Frames, Pages and Counts. -/
namespace Go.Proofs.YtpkgfkhaiifooaaGreatDoor
open Go Go.Proofs Go.RowKit
set_option linter.unusedSimpArgs false
set_option linter.unusedVariables false
set_option maxRecDepth 100000

set_option maxHeartbeats 1000000 in
theorem rFrames_bad (r : Int) (ls : List Int) (es : List Nat) (v : Value) (w : World) (hv : TbV w v (r, ls, es)) (hs : wsmall es) (hE : tabE r ls es ≠ 0) :
    Calls Tryz.prog 37 #[v] w fun e w' => IsRes w w' [] (tabE r ls es) e := by
  obtain ⟨A, c, B, d, rfl, hA, hB, hcc⟩ := id hv
  simp only at hA hB hcc
  unfold tabV at hv ⊢
  simp only at hv ⊢
  have kT := (Bk.new (w) #[.int .i64 r, .slice A ls.length c, .slice B es.length d] 26)
  have hB1 := balloc (Below.refl _ w) (.cells #[.int .i64 r, .slice A ls.length c, .slice B es.length d] 26)
  generalize hw_w1 : w.alloc (.cells #[.int .i64 r, .slice A ls.length c, .slice B es.length d] 26) = w1 at *
  have hd : (tabE r ls es != 0) = true := by simpa using hE
  obtain ⟨cT, fT, lT⟩ := kT.facts
  go_enter Tryz.func37, Tryz.ntmps37
  go_wp2_with fail
  refine (rTCheck_any r ls es _ _ (hv.to hB1) hs).mono ?_
  rintro e w2 ⟨rfl, hb2⟩
  go_wp2_with fail
  go_ret2
  exact ⟨_, rfl, IsV.nil _, bnext hB1 hb2⟩

set_option maxHeartbeats 4000000 in
theorem rFrames_ok (r : Int) (ls : List Int) (es : List Nat) (v : Value) (w : World) (hv : TbV w v (r, ls, es)) (hs : wsmall es) (hE : tabE r ls es = 0) :
    Calls Tryz.prog 37 #[v] w fun e w' => IsRes w w' (frmA r ls) 0 e := by
  obtain ⟨h1, h2, hR, hLs, hDu, hSt, hUn, hMi⟩ := tab_zero hE
  obtain ⟨A, c, B, d, rfl, hA, hB, hcc⟩ := id hv
  simp only at hA hB hcc
  unfold tabV at hv ⊢
  simp only at hv ⊢
  rw [h1, h2] at hv ⊢
  rw [h1] at hA hcc
  rw [h2] at hB
  have kT := (Bk.new (w) #[.int .i64 r, .slice A 8 c, .slice B 64 d] 26)
  have hB1 := balloc (Below.refl _ w) (.cells #[.int .i64 r, .slice A 8 c, .slice B 64 d] 26)
  generalize hw_w1 : w.alloc (.cells #[.int .i64 r, .slice A 8 c, .slice B 64 d] 26) = w1 at *
  obtain ⟨i0, hi, hz0, hz1, hz2⟩ := info_parts infoInt
  obtain ⟨cT, fT, lT⟩ := kT.facts
  go_enter Tryz.func37, Tryz.ntmps37
  go_wp2_with fail
  refine (rTCheck_any r ls es _ _ (hv.to hB1) hs).mono ?_
  rw [hE]
  rintro e w2 ⟨rfl, hb2⟩
  replace kT := kT.to hb2
  replace hB1 := bnext hB1 hb2
  clear cT fT lT
  obtain ⟨cT, fT, lT⟩ := kT.facts
  replace hA := hA.below hB1 (Nat.le_refl _)
  clear hb2 hw_w1 hv hB
  go_wp2_with fail
  clear cT fT lT
  go_loopw [5, 6] (fun v i wr => ∃ k : Nat, k ≤ 8 ∧ i = .int .i64 k ∧ wr.ownsRow w2.heap.size 3 1 v (frmL ls k).length (iw (frmL ls k)) ∧ Below w2.heap.size w2 wr) (fun _ i _ => 8 - (intOf i).toNat)
  case atStart => exact ⟨0, by omega, rfl, World.ownsRow_nil _ _ _ _, Below.refl _ _⟩
  case round =>
    obtain ⟨k, hk, rfl, hown, hBx⟩ := hrel
    obtain ⟨cT, fT, lT⟩ := (kT.to hBx).facts
    have hfl := frmL_len ls k
    by_cases hlt : k < 8
    · obtain ⟨g, off, z, rfl, hg, hz, hc⟩ := (hA.below hBx (Nat.le_refl _)).numb hlt
      have hkI : (k : Int) < 8 := by omega
      have hzz := (hLs k hlt).1
      have HS := Lib.hid (frmL_succ ls k (by omega))
      rw [hz] at HS hzz
      by_cases hz1 : z = -1
      · have hz2' : decide (0 ≤ z) = false := by simp; omega
        have HS2 : Hid (frmL ls (k + 1) = frmL ls k) := Lib.hid (by rw [HS.out, if_pos hz1, List.append_nil])
        clear hz1 hz HS
        go_wp2_with fail
        go_roundw
        case rel => exact ⟨k + 1, by omega, by go_num, by rw [HS2.out]; exact hown, hBx⟩
        case measure => simp [intOf]; omega
      · have hz2' : decide (0 ≤ z) = true := by simp; omega
        have HS2 : Hid (frmL ls (k + 1) = frmL ls k ++ [z]) := Lib.hid (by rw [HS.out, if_neg hz1])
        clear hz1 hz HS
        go_wp2_with (first
          | (at_builtin; refine wpList_append_own _ rfl _ _ 23 rfl w2.heap.size 3 i0 (.int .i64 0) 1 8 Tryz.underlying23 hi hz0 hz1 hz2 rfl (by decide) _ _ _ rfl (hown.alloc _) ⟨wr.heap.size, 0, none⟩ 1 1 [.int .i64 z] rfl rfl (cell_one_new _ _ _) (by simp [Value.oneCell']) (by simp only [maxLen]; omega) (by omega) (by have := hBx.size; simp; omega) ?_; intro v' w9 hown' hgrow _))
        have hown2 : w9.ownsRow w2.heap.size 3 1 v' (frmL ls (k + 1)).length (iw (frmL ls (k + 1))) := by
          rw [HS2.out]; simpa [iw] using hown'
        have hBx2 : Below w2.heap.size w2 w9 := (hBx.alloc hBx.size _).grown hgrow (by have := hBx.size; simp; omega) (fun q e => (hown.lt q e).1)
        clear hown' hgrow hown hBx
        go_wp2_with fail
        go_roundw
        case rel => exact ⟨k + 1, by omega, by go_num, hown2, hBx2⟩
        case measure => simp [intOf]; omega
    · obtain rfl : k = 8 := by omega
      by_cases hr1 : r = -1
      · have Hv : Hid (frmA r ls = frmL ls 8) := Lib.hid (by unfold frmA; rw [if_pos hr1, List.append_nil])
        have hr2 : decide (0 ≤ r) = false := by simp; omega
        clear hr1
        go_wp2_with fail
        go_ret2
        exact ⟨_, rfl, by rw [Hv.out]; exact IsV.own hown, bnext hB1 hBx⟩
      · have Hv : Hid (frmA r ls = frmL ls 8 ++ [r]) := Lib.hid (by unfold frmA; rw [if_neg hr1])
        have hr2 : decide (0 ≤ r) = true := by simp; omega
        clear hr1
        go_wp2_with (first
          | (at_builtin; refine wpList_append_own _ rfl _ _ 23 rfl w2.heap.size 3 i0 (.int .i64 0) 1 8 Tryz.underlying23 hi hz0 hz1 hz2 rfl (by decide) _ _ _ rfl (hown.alloc _) ⟨wr.heap.size, 0, none⟩ 1 1 [.int .i64 r] rfl rfl (cell_one_new _ _ _) (by simp [Value.oneCell']) (by simp only [maxLen]; omega) (by omega) (by have := hBx.size; simp; omega) ?_; intro v' w9 hown' hgrow _))
        have hown2 : w9.ownsRow w2.heap.size 3 1 v' (frmL ls 8 ++ [r]).length (iw (frmL ls 8 ++ [r])) := by
          simpa [iw] using hown'
        have hBx2 : Below w2.heap.size w2 w9 := (hBx.alloc hBx.size _).grown hgrow (by have := hBx.size; simp; omega) (fun q e => (hown.lt q e).1)
        clear hown' hgrow hown hBx
        go_wp2_with fail
        go_ret2
        exact ⟨_, rfl, by rw [Hv.out]; exact IsV.own hown2, bnext hB1 hBx2⟩
theorem rFrames_any (r : Int) (ls : List Int) (es : List Nat) (v : Value) (w : World) (hv : TbV w v (r, ls, es)) (hs : wsmall es) :
    Calls Tryz.prog 37 #[v] w fun e w' => IsRes w w' (frmR r ls es).1 (frmR r ls es).2 e := by
  unfold frmR
  by_cases h : tabE r ls es = 0
  · rw [if_neg (by simp [h])]
    exact rFrames_ok r ls es v w hv hs h
  · rw [if_pos h]
    exact rFrames_bad r ls es v w hv hs h

end Go.Proofs.YtpkgfkhaiifooaaGreatDoor
