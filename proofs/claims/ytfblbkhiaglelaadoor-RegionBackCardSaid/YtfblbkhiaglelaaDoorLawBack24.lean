/- RegionBack: the text of regions is read back, and what fits can be mapped. -/
import Derived.Test.YtfblbkhiaglelaaDoorRgZ
import Derived.Test.YtfblbkhiaglelaaDoorRgR
import Derived.Test.YtfblbkhiaglelaaDoorRd6
import Derived.Test.YtfblbkhiaglelaaDoorAwake24
namespace Go.Proofs.YtfblbkhiaglelaaDoor
open Go Go.Proofs Go.RowKit
set_option linter.unusedSimpArgs false
set_option linter.unusedVariables false
set_option maxRecDepth 100000
theorem fitK_in (G : List (Int × Int)) (n : Int) : ∀ k, fitK G n k = (0, 65) ∨ ∃ j, j < k ∧ fitK G n k = ((G.getD j (0, 0)).1, (G.getD j (0, 0)).2 - (G.getD j (0, 0)).1 + 1) ∧ n ≤ (G.getD j (0, 0)).2 - (G.getD j (0, 0)).1 + 1
  | 0 => .inl rfl
  | k + 1 => by
    have ih := fitK_in G n k
    rw [fitK]
    unfold fitS
    split
    · rename_i h
      exact .inr ⟨k, by omega, rfl, h.1⟩
    · rcases ih with h | ⟨j, h1, h2, h3⟩
      · exact .inl h
      · exact .inr ⟨j, by omega, h2, h3⟩
theorem fit_in (rs : List (Int × Int)) (hv : RgV rs) (n : Int) (h1 : 1 ≤ n) (h2 : n ≤ 64) : fitR rs n = (0, 5) ∨ ∃ p : Int, fitR rs n = (p, 0) ∧ 0 ≤ p ∧ p + n - 1 ≤ 63 ∧ ∀ q : Nat, p ≤ (q : Int) → (q : Int) ≤ p + n - 1 → hasP rs q = false := by
  unfold fitR
  rw [gapR_ok hv, if_neg (by simp), if_neg (by omega)]
  simp only
  have hG := regs_v (fun p => !hasP rs p)
  have hh : ∀ p, p < 64 → hasP (regs (fun p => !hasP rs p)) p = !hasP rs p := fun p hp => regs_has _ p hp
  generalize regs (fun p => !hasP rs p) = G at *
  rcases fitK_in G n G.length with h | ⟨j, h3, h4, h5⟩
  · rw [h]; exact .inl rfl
  · obtain ⟨q1, q2, q3, _⟩ := rgE_one (hG j h3)
    rw [h4]
    rw [if_neg (by simp only; omega)]
    refine .inr ⟨_, rfl, q1, by omega, fun q a b => ?_⟩
    have := (hasP_iff G q).2 ⟨j, h3, by omega, by omega⟩
    rw [hh q (by omega)] at this
    simpa using this
theorem back_plain (rs : List (Int × Int)) (hv : RgV rs) (F T : Int) (h0 : 0 ≤ F) (h1 : F ≤ T) (h2 : T ≤ 63) (hno : ∀ p : Nat, F ≤ (p : Int) → (p : Int) ≤ T → hasP rs p = false) :
    ∃ (L : List (Int × Int)) (u : Nat), L.length ≤ 64 ∧ mapR rs F T 64 = (L, 0) ∧ totR rs = ((u : Int), 0) ∧ totR L = ((u : Int) + (T - F + 1), 0) ∧ u ≤ 64 := by
  have hb : begE rs F T = 0 := by unfold begE rngE; rw [hv.ok]; simp; omega
  have hany : anyIn rs F T = false := by
    rw [Bool.eq_false_iff]
    intro hc
    obtain ⟨q, q1, q2, q3⟩ := (anyIn_iff _ _ _ h2).1 hc
    rw [hno q q1 q2] at q3
    cases q3
  have hL := regs_v (addF rs F T)
  refine ⟨regs (addF rs F T), cntP (hasP rs), regs_le _, ?_, totR_ok hv, ?_, cntP_le _⟩
  · unfold mapR
    rw [if_neg (by simp [hb]), if_neg (by simp [hany]), if_neg (by have := cntP_le (addF rs F T); omega)]
  · rw [totR_ok hL, cntP_congr _ (addF rs F T) (fun p hp => regs_has _ p hp)]
    have := cntP_add (hasP rs) F T h0 h1 h2 (fun p ⟨a, b⟩ => by
      unfold inR at b
      rw [Bool.and_eq_true, decide_eq_true_eq, decide_eq_true_eq] at b
      rw [hno p b.1 b.2] at a
      cases a)
    unfold addF
    rw [this]
theorem text_plain (f : Nat → Bool) : ∃ (rs : List (Int × Int)) (T : List UInt8), regs f = rs ∧ RgV rs ∧ rs.length ≤ 64 ∧ textG rs = (T, 0) ∧ parG T = (rs, 0, 0) ∧ T.length ≤ 1000 := by
  have hv := regs_v f
  obtain ⟨h1, h2⟩ := text_backG (regs f) hv
  have h3 := textG_ok hv
  have h4 := (txtK_len (regs f) hv (regs f).length (Nat.le_refl _)).2
  have h5 := RgV_len hv
  rw [h3] at h2
  exact ⟨regs f, _, rfl, hv, regs_le _, h3, h2, by omega⟩
set_option maxHeartbeats 8000000 in
theorem backrg_true (A : Option Addr) (n c : Nat) (zs : List Int) (x : Int) (w : World) (hr : Rd w 1 A n (zs.map (Value.int .i64))) (hn : n ≤ maxLen) (hP : PowOK w) :
    Calls Tryd.prog 4 #[.slice A n c, .int .i64 x] w fun e w' => e = .returned (.bool true) ∧ Below w.heap.size w w' := by
  obtain ⟨m, hm⟩ : ∃ m : Int, x % 64 = m := ⟨_, rfl⟩
  have hm0 : 0 ≤ m := by omega
  have hm1 : m ≤ 63 := by omega
  have HMod := Lib.hid (fun w => Mod_any x 64 w (by omega) (by omega))
  rw [hm] at HMod
  clear hm
  go_enter Tryd.func4, Tryd.ntmps4
  go_wp2_with fail
  go_at_call 20
  refine (Regions_any A n c zs _ hr hn).mono ?_
  rintro e w1 ⟨f, v, rfl, hown, B1⟩
  obtain ⟨rs, T, hrs, hv, hl1, hT1, hT2, hT3⟩ := text_plain f
  rw [hrs] at hown
  obtain ⟨A1, c1, rfl, r1⟩ := own_slice hown
  have HT := Lib.hid (fun w h hp => Text24_any A1 rs.length c1 rs w h (by omega) hp)
  have HPa := Lib.hid (fun w => Parse24_any T w hT3)
  have HFt := Lib.hid (fun w h => Fit_any A1 rs.length c1 rs (1 + m) w h (by omega) (by omega) (by omega))
  have HTo := Lib.hid (fun w h => Total_any A1 rs.length c1 rs w h (by omega))
  have HMp := Lib.hid (fun A2 c2 F T w h => Map_any A2 rs.length c2 rs F T 64 w h (by omega))
  rw [hT1] at HT
  rw [hT2] at HPa
  unfold RgPar at HPa
  simp only at HT HPa
  have HFI := Lib.hid (fit_in rs hv (1 + m) (by omega) (by omega))
  have HBP := Lib.hid (back_plain rs hv)
  have HRS := Lib.hid (fun A B c d w h1 h2 => SameRanges_eq A B rs.length c d rs w h1 h2 (by omega))
  have HOw := Lib.hid (fun A c w h => OwnRanges_own A rs.length c rs w (by omega) h)
  clear hrs hv hT1 hT2 hown hr
  have HPow := Lib.hid hP
  go_wp2_with fail
  go_at_call 17
  refine (HT.out _ r1 (HPow.out.below B1)).mono ?_
  rintro e w2 ⟨rfl, hb2⟩
  replace r1 := r1.below hb2 (Nat.le_refl _)
  have B2 := bnext B1 hb2
  clear B1 hb2
  go_wp2_with fail
  go_at_call 21
  refine (HPa.out _).mono ?_
  rintro e w3 ⟨A3, c3, rfl, r3, hb3⟩
  replace r1 := r1.below hb3 (Nat.le_refl _)
  have B3 := bnext B2 hb3
  clear B2 hb3
  have K := Bk.new w3 #[.int .i64 0, .int .i64 0] 42
  replace r1 := r1.alloc (.cells #[.int .i64 0, .int .i64 0] 42)
  replace r3 := r3.alloc (.cells #[.int .i64 0, .int .i64 0] 42)
  replace B3 := balloc B3 (.cells #[.int .i64 0, .int .i64 0] 42)
  have k0 := K.cell 0
  have k1 := K.cell 1
  simp only [List.getElem?_toArray, List.getElem?_cons_zero, List.getElem?_cons_succ] at k0 k1
  go_wp2_with fail
  go_at_call 14
  refine (HRS.out A3 A1 c3 c1 _ r3 r1).mono ?_
  rintro e w4 ⟨rfl, hb4⟩
  replace r1 := r1.below hb4 (Nat.le_refl _)
  have B4 := bnext B3 hb4
  clear B3 hb4
  clear K k0 k1 r3
  go_wp2_with (go_at_call 22; refine (HMod.out _).mono ?_; rintro e wx ⟨rfl, rfl⟩)
  go_at_call 12
  rcases HFI.out with h5 | ⟨p, h5, p0, p1, hno⟩
  · rw [h5] at HFt
    refine (HFt.out _ r1).mono ?_
    rintro e w5 ⟨rfl, b5⟩
    have B5 := bnext B4 b5
    go_wp2_with fail
    go_at_call 5
    refine (awake_true _).mono ?_
    rintro e w6 ⟨rfl, b6⟩
    go_wp2_with fail
    go_ret
    exact ⟨rfl, bnext B5 b6⟩
  · rw [h5] at HFt
    obtain ⟨L, u, hL, hM, hu, hLu, hu64⟩ := HBP.out p (p + (1 + m) - 1) p0 (by omega) p1 hno
    rw [show (u : Int) + (p + (1 + m) - 1 - p + 1) = (u : Int) + (1 + m) by omega] at hLu
    have HMp2 := Lib.hid (fun A2 c2 w h => HMp.out A2 c2 p (p + (1 + m) - 1) w h)
    rw [hM] at HMp2
    unfold RgRes at HMp2
    simp only at HMp2
    rw [hu] at HTo
    have HTL := Lib.hid (fun A2 c2 w h => Total_any A2 L.length c2 L w h (by omega))
    rw [hLu] at HTL
    clear h5 hno hM hu hLu HMp
    refine (HFt.out _ r1).mono ?_
    rintro e w5 ⟨rfl, hb5⟩
    replace r1 := r1.below hb5 (Nat.le_refl _)
    have B5 := bnext B4 hb5
    clear B4 hb5
    go_wp2_with fail
    go_at_call 24
    refine (HOw.out A1 c1 _ r1).mono ?_
    rintro e w6 ⟨A6, c6, rfl, own6, hb6⟩
    replace r1 := r1.below hb6 (Nat.le_refl _)
    have B6 := bnext B5 hb6
    clear B5 hb6
    have r6 := Rd.own own6
    clear own6
    go_wp2_with fail
    go_at_call 23
    refine (HMp2.out A6 c6 _ r6).mono ?_
    rintro e w7 ⟨v7, rfl, own7, hb7⟩
    replace r1 := r1.below hb7 (Nat.le_refl _)
    replace r6 := r6.below hb7 (Nat.le_refl _)
    have B7 := bnext B6 hb7
    clear B6 hb7
    obtain ⟨A7, c7, rfl, r7⟩ := own_slice own7
    clear own7
    go_wp2_with fail
    go_at_call 8
    refine (HTL.out A7 c7 _ r7).mono ?_
    rintro e w8 ⟨rfl, hb8⟩
    replace r1 := r1.below hb8 (Nat.le_refl _)
    have B8 := bnext B7 hb8
    clear B7 hb8
    go_wp2_with fail
    go_at_call 8
    refine (HTo.out _ r1).mono ?_
    rintro e w9 ⟨rfl, hb9⟩
    replace r1 := r1.below hb9 (Nat.le_refl _)
    have B9 := bnext B8 hb9
    clear B8 hb9
    go_wp2_with fail
    go_at_call 5
    refine (awake_true _).mono ?_
    rintro e w10 ⟨rfl, hb10⟩
    replace r1 := r1.below hb10 (Nat.le_refl _)
    have B10 := bnext B9 hb10
    clear B9 hb10
    go_wp2_with fail
    go_ret
    exact ⟨rfl, B10⟩
end Go.Proofs.YtfblbkhiaglelaaDoor
