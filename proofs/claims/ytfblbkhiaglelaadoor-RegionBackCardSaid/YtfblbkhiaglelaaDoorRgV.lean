/- Looks at regions, by the reference. -/
import Derived.Test.YtfblbkhiaglelaaDoorRgU
import Derived.Deep.QuietTactic
import Derived.BigQuiet
namespace Go.Proofs.YtfblbkhiaglelaaDoor
open Go Go.Proofs Go.RowKit
set_option linter.unusedSimpArgs false
set_option linter.unusedVariables false
set_option maxRecDepth 100000

set_option maxHeartbeats 1000000 in
theorem rHas_any (A : Option Addr) (n c : Nat) (rs : List (Int × Int)) (page : Int) (w : World) (hr : Rd w 2 A n (flat2 .i64 rs)) (hn : n ≤ 1000000) :
    Calls Tryd.prog 7 #[.slice A n c, .int .i64 page] w fun e w' => e = .returned (.tuple #[.bool (hasRg rs page).1, .int .i64 (hasRg rs page).2]) ∧ Below w.heap.size w w' := by
  have HC := Lib.hid (rCheckR_any A n c rs w hr hn)
  by_cases hE : (regE rs).1 = 0
  · have hv := regE_zero rs hE
    rw [hE] at HC
    by_cases hp : 0 ≤ page ∧ page < 64
    · obtain ⟨p, rfl⟩ : ∃ p : Nat, page = p := ⟨page.toNat, by omega⟩
      rw [hasRg_ok rs p hv (by omega)]
      have HS := Lib.hid (fun w1 h => rset_any A n c rs w1 h hn hv)
      obtain ⟨h0, h1⟩ := hp
      have h2 : p < 64 := by omega
      have HG := Lib.hid (bl_get (hasP rs) p h2)
      clear hE
      go_enter Tryd.func7, Tryd.ntmps7
      go_wp2_with (go_at_call 32; refine HC.out.mono ?_; rintro e w1 ⟨rfl, hb1⟩)
      go_at_call 33
      refine (HS.out _ (hr.below hb1 (Nat.le_refl _))).mono ?_
      rintro e w2 ⟨v, rfl, hown, hb2⟩
      obtain ⟨g, cap, rfl, hg1, hg2⟩ := hown.form (by omega)
      have hc := own_boolAt hown (i := p) h2
      rw [HG.out] at hc
      go_wp2_with fail
      go_ret2
      exact ⟨rfl, bnext hb1 hb2⟩
    · have hx : hasRg rs page = (false, 2) := by unfold hasRg; rw [if_neg (by simp [hE]), if_pos (by omega)]
      rw [hx]
      rcases (show page < 0 ∨ 64 ≤ page by omega) with h | h
      all_goals
        clear hE hp hx hv
        go_enter Tryd.func7, Tryd.ntmps7
        go_wp2_with (go_at_call 32; refine HC.out.mono ?_; rintro e w1 ⟨rfl, hb1⟩)
        go_ret2
        exact ⟨rfl, hb1⟩
  · have hx : hasRg rs page = (false, (regE rs).1) := by unfold hasRg; rw [if_pos hE]
    rw [hx]
    have hE' : ((regE rs).1 == 0) = false := by simpa using hE
    have hE2 : ((regE rs).1 != 0) = true := by simpa using hE
    clear hE hx
    generalize (regE rs).1 = z at *
    generalize (regE rs).2 = z2 at *
    go_enter Tryd.func7, Tryd.ntmps7
    go_wp2_with (go_at_call 32; refine HC.out.mono ?_; rintro e w1 ⟨rfl, hb1⟩)
    go_ret2
    exact ⟨rfl, hb1⟩
theorem rTotal_any (A : Option Addr) (n c : Nat) (rs : List (Int × Int)) (w : World) (hr : Rd w 2 A n (flat2 .i64 rs)) (hn : n ≤ 1000000) :
    Calls Tryd.prog 9 #[.slice A n c] w fun e w' => e = .returned (.tuple #[.int .i64 (totR rs).1, .int .i64 (totR rs).2]) ∧ Below w.heap.size w w' := by
  have HC := Lib.hid (rCheckR_any A n c rs w hr hn)
  by_cases hE : (regE rs).1 = 0
  · have hv := regE_zero rs hE
    rw [totR_ok hv]
    rw [hE] at HC
    have HS := Lib.hid (fun w1 h => rset_any A n c rs w1 h hn hv)
    have HM := Lib.hid (fun A c w h => many_any A c (hasP rs) w h)
    generalize cntP (hasP rs) = N at *
    clear hE hv
    go_enter Tryd.func9, Tryd.ntmps9
    go_wp2_with (first
      | (go_at_call 32; refine HC.out.mono ?_; rintro e w1 ⟨rfl, hb1⟩)
      | (go_at_call 33; refine (HS.out _ (hr.below hb1 (Nat.le_refl _))).mono ?_; rintro e w2 ⟨v, rfl, hown, hb2⟩; obtain ⟨A2, c2, rfl, r2⟩ := own_slice hown)
      | (go_at_call 35; refine (HM.out A2 c2 _ r2).mono ?_; rintro e w3 ⟨rfl, hb3⟩))
    go_ret2
    exact ⟨rfl, bnext (bnext hb1 hb2) hb3⟩
  · rw [show totR rs = (0, (regE rs).1) by unfold totR; rw [if_pos hE]]
    have hE2 : ((regE rs).1 != 0) = true := by simpa using hE
    generalize (regE rs).1 = E at *
    go_enter Tryd.func9, Tryd.ntmps9
    go_wp2_with (go_at_call 32; refine HC.out.mono ?_; rintro e w1 ⟨rfl, hb1⟩)
    go_ret2
    exact ⟨rfl, hb1⟩
theorem rGaps_any (A : Option Addr) (n c : Nat) (rs : List (Int × Int)) (w : World) (hr : Rd w 2 A n (flat2 .i64 rs)) (hn : n ≤ 1000000) :
    Calls Tryd.prog 11 #[.slice A n c] w fun e w' => RgRes w w' (gapR rs).1 (gapR rs).2 e := by
  have HC := Lib.hid (rCheckR_any A n c rs w hr hn)
  by_cases hE : (regE rs).1 = 0
  · have hv := regE_zero rs hE
    rw [gapR_ok hv]
    rw [hE] at HC
    have HS := Lib.hid (fun w1 h => rset_any A n c rs w1 h hn hv)
    have HF := Lib.hid (fun A c w h => rregions_f A c (hasP rs) w h)
    rw [regs_congr (fun p => hasP rs p == false) (fun p => !hasP rs p) (fun p _ => by cases hasP rs p <;> rfl)] at HF
    clear hE hv
    go_enter Tryd.func11, Tryd.ntmps11
    go_wp2_with (first
      | (go_at_call 32; refine HC.out.mono ?_; rintro e w1 ⟨rfl, hb1⟩)
      | (go_at_call 33; refine (HS.out _ (hr.below hb1 (Nat.le_refl _))).mono ?_; rintro e w2 ⟨v, rfl, hown, hb2⟩; obtain ⟨A2, c2, rfl, r2⟩ := own_slice hown)
      | (go_at_call 37; refine (HF.out A2 c2 _ r2).mono ?_; rintro e w3 ⟨v3, rfl, hown3, hb3⟩))
    go_ret2
    exact ⟨v3, rfl, own_less hown3 (bnext hb1 hb2).size, bnext (bnext hb1 hb2) hb3⟩
  · rw [show gapR rs = ([], (regE rs).1) by unfold gapR; rw [if_pos hE]]
    have hE2 : ((regE rs).1 != 0) = true := by simpa using hE
    generalize (regE rs).1 = E at *
    go_enter Tryd.func11, Tryd.ntmps11
    go_wp2_with (go_at_call 32; refine HC.out.mono ?_; rintro e w1 ⟨rfl, hb1⟩)
    go_ret2
    exact RgRes.nil rfl hb1
end Go.Proofs.YtfblbkhiaglelaaDoor
