/- What fits, and the groups, by the reference. -/
import Derived.Test.YtfblbkhiaglelaaDoorRgV
namespace Go.Proofs.YtfblbkhiaglelaaDoor
open Go Go.Proofs Go.RowKit
set_option linter.unusedSimpArgs false
set_option linter.unusedVariables false
set_option maxRecDepth 100000

/-- The best gap among the first k, as the reference keeps it: its number. -/
def BestR (G : List (Int × Int)) (x : Int) (k : Nat) (b : Value) : Prop :=
  (b = .int .i64 (-1) ∧ fitK G x k = (0, 65)) ∨ ∃ j : Nat, b = .int .i64 j ∧ j < k ∧ fitK G x k = ((G.getD j (0, 0)).1, (G.getD j (0, 0)).2 - (G.getD j (0, 0)).1 + 1)
def FitRel (w1 : World) (G : List (Int × Int)) (x : Int) (N : Nat) (b i : Value) (wr : World) : Prop :=
  ∃ k : Nat, k ≤ N ∧ i = .int .i64 k ∧ Hid (BestR G x k b) ∧ Below w1.heap.size w1 wr
theorem BestR_keep {G : List (Int × Int)} {x : Int} {k : Nat} {b : Value} (h : BestR G x k b) (hs : fitK G x (k + 1) = fitK G x k) : BestR G x (k + 1) b := by
  rcases h with ⟨h1, h2⟩ | ⟨j, h1, h2, h3⟩
  · exact .inl ⟨h1, hs.trans h2⟩
  · exact .inr ⟨j, h1, by omega, hs.trans h3⟩
theorem BestR_new {G : List (Int × Int)} {x a d : Int} {k : Nat} (hg : G.getD k (0, 0) = (a, d)) (hs : fitK G x (k + 1) = (a, d - a + 1)) : BestR G x (k + 1) (.int .i64 (k : Int)) :=
  .inr ⟨k, rfl, by omega, by rw [hs, hg]⟩
set_option maxHeartbeats 4000000 in
theorem rFit_any (A : Option Addr) (n c : Nat) (rs : List (Int × Int)) (x : Int) (w : World) (hr : Rd w 2 A n (flat2 .i64 rs)) (hn : n ≤ 1000000) (hx1 : -9223372036854775808 ≤ x) (hx2 : x ≤ 9223372036854775807) :
    Calls Tryd.prog 13 #[.slice A n c, .int .i64 x] w fun e w' => e = .returned (.tuple #[.int .i64 (fitR rs x).1, .int .i64 (fitR rs x).2]) ∧ Below w.heap.size w w' := by
  have HG := Lib.hid (rGaps_any A n c rs w hr hn)
  have hv := gapR_v rs
  have hl := gapR_le rs
  obtain ⟨FR, hFR⟩ : ∃ f, fitR rs x = f := ⟨_, rfl⟩
  have hFR' := hFR
  rw [hFR]
  unfold fitR at hFR'
  obtain ⟨⟨G, E⟩, hGE⟩ : ∃ g, gapR rs = g := ⟨_, rfl⟩
  rw [hGE] at HG hv hl hFR'
  clear hGE hFR
  simp only at HG hv hl hFR'
  unfold RgRes at HG
  by_cases hE : E = 0
  · subst hE
    rw [if_neg (by simp)] at hFR'
    by_cases hx : x < 1 ∨ 64 < x
    · rw [if_pos hx] at hFR'
      have HV := Lib.hid hFR'
      clear hv hl hFR'
      rcases hx with hx | hx
      all_goals
        go_enter Tryd.func13, Tryd.ntmps13
        go_wp2_with (go_at_call 11; refine HG.out.mono ?_; rintro e w1 ⟨v, rfl, hown, hb1⟩)
        go_ret2
        exact ⟨by rw [← HV.out]; rfl, hb1⟩
    · rw [if_neg hx] at hFR'
      have h1 : ¬ x < 1 := by omega
      have h2 : ¬ 64 < x := by omega
      clear hx
      have HV := Lib.hid hv
      have HL := Lib.hid (show ∃ N, G.length = N from ⟨_, rfl⟩)
      obtain ⟨N, hN⟩ := HL.out
      have HVN : Hid (∀ k, k < N → rgE G k = 0) := Lib.hid (fun k h => HV.out k (by omega))
      rw [hN] at HG hl hFR'
      have HV1 : Hid (64 < (fitK G x N).2 → FR = (0, 5)) := Lib.hid (fun h => by rw [← hFR', if_pos h])
      have HV2 : Hid (¬ 64 < (fitK G x N).2 → FR = ((fitK G x N).1, 0)) := Lib.hid (fun h => by rw [← hFR', if_neg h])
      have H0 : Hid (BestR G x 0 (.int .i64 (-1))) := Lib.hid (.inl ⟨rfl, rfl⟩)
      clear hv hN HL HV hFR'
      go_enter Tryd.func13, Tryd.ntmps13
      go_wp2_with (go_at_call 11; refine HG.out.mono ?_; rintro e w1 ⟨v, rfl, hown, hb1⟩; obtain ⟨A1, c1, rfl, hr1⟩ := own_slice hown)
      clear HG hown hr
      go_loopw [8, 9] (FitRel w1 G x N) (fun _ i _ => N - (intOf i).toNat)
      case atStart => exact ⟨0, by omega, rfl, H0, Below.refl _ _⟩
      case round =>
        clear H0
        obtain ⟨k, hk, rfl, HB, hB⟩ := hrel
        by_cases hlt : k < N
        · obtain ⟨b, off, a, d, rfl, hb, hg, c1, c2⟩ := (hr1.below hB (Nat.le_refl _)).pr hlt
          obtain ⟨q1, q2, q3, _⟩ := rgE_one (HVN.out k hlt)
          have HS := Lib.hid (fitK_succ G x k a d hg)
          have HK := Lib.hid (fun h => BestR_new (G := G) (x := x) hg h)
          rw [hg] at q1 q2 q3
          simp only at q1 q2 q3
          obtain ⟨S, hS⟩ : ∃ S, d - a + 1 = S := ⟨_, rfl⟩
          have w1' : IntKind.i64.wrap (d - a) = d - a := by rw [IntKind.wrap_i64]; omega
          have w2' : IntKind.i64.wrap (d - a + 1) = S := by rw [IntKind.wrap_i64]; omega
          unfold fitS at HS
          simp only at HS
          rw [hS] at HS HK
          have hS64 : S ≤ 64 := by omega
          have hS1 : 1 ≤ S := by omega
          have hkI : (k : Int) < (N : Int) := by omega
          clear hg hS
          rcases HB.out with ⟨hbv, hbf⟩ | ⟨j, hbv, hj, hbf⟩
          · subst hbv
            rw [hbf] at HS
            simp only at HS
            by_cases e1 : x ≤ S
            · rw [if_pos ⟨e1, by omega⟩] at HS
              have HN := Lib.hid (HK.out HS.out)
              have d1 : decide (x ≤ S) = true := by simpa using e1
              clear hbf HS HK e1
              go_wp2_with fail
              go_quiet (fail)
              go_wp2_with fail
              go_quiet (fail)
              go_wp2_with fail
              go_roundw
              case rel => exact ⟨k + 1, by omega, by go_num, HN, by (repeat' (first | exact Below.refl _ _ | assumption | refine balloc ?_ _ | refine below_drawn ?_ _ | refine below_drew ?_ | refine bnext ?_ hb24 | refine bnext ?_ hb23 | refine bnext ?_ hb22 | refine bnext ?_ hb21 | refine bnext ?_ hb20 | refine bnext ?_ hb19 | refine bnext ?_ hb18 | refine bnext ?_ hb17 | refine bnext ?_ hb16 | refine bnext ?_ hb15 | refine bnext ?_ hb14 | refine bnext ?_ hb13 | refine bnext ?_ hb12 | refine bnext ?_ hb11 | refine bnext ?_ hb10 | refine bnext ?_ hb9 | refine bnext ?_ hb8 | refine bnext ?_ hb7 | refine bnext ?_ hb6 | refine bnext ?_ hb5 | refine bnext ?_ hb4 | refine bnext ?_ hb3 | refine bnext ?_ hb2 | refine bnext ?_ hb1))⟩
              case measure => simp [intOf]; omega
            · rw [if_neg (fun h => e1 h.1), ← hbf] at HS
              have HN := Lib.hid (BestR_keep HB.out HS.out)
              have d1 : decide (x ≤ S) = false := by simpa using e1
              clear hbf HS HK e1
              go_wp2_with fail
              go_quiet (fail)
              go_wp2_with fail
              go_quiet (fail)
              go_wp2_with fail
              go_roundw
              case rel => exact ⟨k + 1, by omega, by go_num, HN, by (repeat' (first | exact Below.refl _ _ | assumption | refine balloc ?_ _ | refine below_drawn ?_ _ | refine below_drew ?_ | refine bnext ?_ hb24 | refine bnext ?_ hb23 | refine bnext ?_ hb22 | refine bnext ?_ hb21 | refine bnext ?_ hb20 | refine bnext ?_ hb19 | refine bnext ?_ hb18 | refine bnext ?_ hb17 | refine bnext ?_ hb16 | refine bnext ?_ hb15 | refine bnext ?_ hb14 | refine bnext ?_ hb13 | refine bnext ?_ hb12 | refine bnext ?_ hb11 | refine bnext ?_ hb10 | refine bnext ?_ hb9 | refine bnext ?_ hb8 | refine bnext ?_ hb7 | refine bnext ?_ hb6 | refine bnext ?_ hb5 | refine bnext ?_ hb4 | refine bnext ?_ hb3 | refine bnext ?_ hb2 | refine bnext ?_ hb1))⟩
              case measure => simp [intOf]; omega
          · subst hbv
            obtain ⟨b', off', a2, d2, he, hb2, hg2, c3, c4⟩ := (hr1.below hB (Nat.le_refl _)).pr (i := j) (by omega)
            injection he with he
            injection he with hq1 hq2
            subst hq1 hq2
            obtain ⟨p1, p2, p3, _⟩ := rgE_one (HVN.out j (by omega))
            rw [hg2] at hbf p1 p2 p3
            simp only at hbf p1 p2 p3
            obtain ⟨S2, hS2⟩ : ∃ S2, d2 - a2 + 1 = S2 := ⟨_, rfl⟩
            have w3' : IntKind.i64.wrap (d2 - a2) = d2 - a2 := by rw [IntKind.wrap_i64]; omega
            have w4' : IntKind.i64.wrap (d2 - a2 + 1) = S2 := by rw [IntKind.wrap_i64]; omega
            have hjN : (j : Int) < (N : Int) := by omega
            have hj0 : decide ((j : Int) < 0) = false := by simp
            rw [hbf] at HS
            simp only at HS
            rw [hS2] at HS hbf
            have HFB := Lib.hid hbf
            clear hg2 hS2 hbf
            by_cases e1 : x ≤ S
            · have d1 : decide (x ≤ S) = true := by simpa using e1
              by_cases e2 : S < S2
              · rw [if_pos ⟨e1, e2⟩] at HS
                have HN := Lib.hid (HK.out HS.out)
                have d2' : decide (S < S2) = true := by simpa using e2
                clear HS HK e1 e2
                go_wp2_with fail
                go_quiet (fail)
                go_wp2_with fail
                go_quiet (fail)
                go_wp2_with fail
                go_roundw
                case rel => exact ⟨k + 1, by omega, by go_num, HN, by (repeat' (first | exact Below.refl _ _ | assumption | refine balloc ?_ _ | refine below_drawn ?_ _ | refine below_drew ?_ | refine bnext ?_ hb24 | refine bnext ?_ hb23 | refine bnext ?_ hb22 | refine bnext ?_ hb21 | refine bnext ?_ hb20 | refine bnext ?_ hb19 | refine bnext ?_ hb18 | refine bnext ?_ hb17 | refine bnext ?_ hb16 | refine bnext ?_ hb15 | refine bnext ?_ hb14 | refine bnext ?_ hb13 | refine bnext ?_ hb12 | refine bnext ?_ hb11 | refine bnext ?_ hb10 | refine bnext ?_ hb9 | refine bnext ?_ hb8 | refine bnext ?_ hb7 | refine bnext ?_ hb6 | refine bnext ?_ hb5 | refine bnext ?_ hb4 | refine bnext ?_ hb3 | refine bnext ?_ hb2 | refine bnext ?_ hb1))⟩
                case measure => simp [intOf]; omega
              · rw [if_neg (fun h => e2 h.2), ← HFB.out] at HS
                have HN := Lib.hid (BestR_keep HB.out HS.out)
                have d2' : decide (S < S2) = false := by simpa using e2
                clear HS HK e1 e2
                go_wp2_with fail
                go_quiet (fail)
                go_wp2_with fail
                go_quiet (fail)
                go_wp2_with fail
                go_roundw
                case rel => exact ⟨k + 1, by omega, by go_num, HN, by (repeat' (first | exact Below.refl _ _ | assumption | refine balloc ?_ _ | refine below_drawn ?_ _ | refine below_drew ?_ | refine bnext ?_ hb24 | refine bnext ?_ hb23 | refine bnext ?_ hb22 | refine bnext ?_ hb21 | refine bnext ?_ hb20 | refine bnext ?_ hb19 | refine bnext ?_ hb18 | refine bnext ?_ hb17 | refine bnext ?_ hb16 | refine bnext ?_ hb15 | refine bnext ?_ hb14 | refine bnext ?_ hb13 | refine bnext ?_ hb12 | refine bnext ?_ hb11 | refine bnext ?_ hb10 | refine bnext ?_ hb9 | refine bnext ?_ hb8 | refine bnext ?_ hb7 | refine bnext ?_ hb6 | refine bnext ?_ hb5 | refine bnext ?_ hb4 | refine bnext ?_ hb3 | refine bnext ?_ hb2 | refine bnext ?_ hb1))⟩
                case measure => simp [intOf]; omega
            · rw [if_neg (fun h => e1 h.1), ← HFB.out] at HS
              have HN := Lib.hid (BestR_keep HB.out HS.out)
              have d1 : decide (x ≤ S) = false := by simpa using e1
              clear HS HK e1
              go_wp2_with fail
              go_quiet (fail)
              go_wp2_with fail
              go_quiet (fail)
              go_wp2_with fail
              go_roundw
              case rel => exact ⟨k + 1, by omega, by go_num, HN, by (repeat' (first | exact Below.refl _ _ | assumption | refine balloc ?_ _ | refine below_drawn ?_ _ | refine below_drew ?_ | refine bnext ?_ hb24 | refine bnext ?_ hb23 | refine bnext ?_ hb22 | refine bnext ?_ hb21 | refine bnext ?_ hb20 | refine bnext ?_ hb19 | refine bnext ?_ hb18 | refine bnext ?_ hb17 | refine bnext ?_ hb16 | refine bnext ?_ hb15 | refine bnext ?_ hb14 | refine bnext ?_ hb13 | refine bnext ?_ hb12 | refine bnext ?_ hb11 | refine bnext ?_ hb10 | refine bnext ?_ hb9 | refine bnext ?_ hb8 | refine bnext ?_ hb7 | refine bnext ?_ hb6 | refine bnext ?_ hb5 | refine bnext ?_ hb4 | refine bnext ?_ hb3 | refine bnext ?_ hb2 | refine bnext ?_ hb1))⟩
              case measure => simp [intOf]; omega
        · obtain rfl : k = N := by omega
          rcases HB.out with ⟨hbv, hbf⟩ | ⟨j, hbv, hj, hbf⟩
          · subst hbv
            have HV := Lib.hid (HV1.out (by rw [hbf]; simp))
            clear HV1 HV2 hbf hr1 HVN
            go_wp2_with fail
            go_ret2
            exact ⟨by rw [HV.out]; rfl, bnext hb1 hB⟩
          · subst hbv
            obtain ⟨b', off', a2, d2, rfl, hb2, hg2, c3, c4⟩ := (hr1.below hB (Nat.le_refl _)).pr (i := j) (by omega)
            obtain ⟨p1, p2, p3, _⟩ := rgE_one (HVN.out j (by omega))
            rw [hg2] at hbf p1 p2 p3
            simp only at hbf p1 p2 p3
            have HV := Lib.hid (HV2.out (by rw [hbf]; simp only; omega))
            rw [hbf] at HV
            have hjN : (j : Int) < (k : Int) := by omega
            have hj0 : ¬ (j : Int) < 0 := by omega
            clear HV1 HV2 hbf hr1 HVN hg2
            go_wp2_with fail
            go_ret2
            exact ⟨by rw [HV.out]; rfl, bnext hb1 hB⟩
  · rw [if_pos hE] at hFR'
    have HV := Lib.hid hFR'
    have hE' : (E != 0) = true := by simpa using hE
    have hE2 : (E == 0) = false := by simpa using hE
    clear hE hv hl hFR'
    go_enter Tryd.func13, Tryd.ntmps13
    go_wp2_with (go_at_call 11; refine HG.out.mono ?_; rintro e w1 ⟨v, rfl, hown, hb1⟩)
    go_ret2
    exact ⟨by rw [← HV.out]; rfl, hb1⟩
end Go.Proofs.YtfblbkhiaglelaaDoor
