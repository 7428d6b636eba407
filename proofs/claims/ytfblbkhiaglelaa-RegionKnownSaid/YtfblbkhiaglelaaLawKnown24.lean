/- RegionKnown: the chapter's examples. -/
import Derived.Test.YtfblbkhiaglelaaRgU
import Derived.Test.YtfblbkhiaglelaaRd6
import Derived.Test.YtfblbkhiaglelaaLawChanges24
namespace Go.Proofs.Ytfblbkhiaglelaa
open Go Go.Proofs Go.RowKit
set_option linter.unusedSimpArgs false
set_option linter.unusedVariables false
set_option maxRecDepth 100000

set_option maxHeartbeats 400000 in
theorem SameInts24 (A B : Option Addr) (n c d : Nat) (zs : List Int) (w : World) (ha : Rd w 1 A n (zs.map (Value.int .i64))) (hb : Rd w 1 B n (zs.map (Value.int .i64))) (hn : n ≤ 1000000) :
    Calls Try.prog 30 #[.slice A n c, .slice B n d] w fun e w' => e = .returned (.bool true) ∧ Below w.heap.size w w' := by
  go_enter Try.func30, Try.ntmps30
  go_wp2
  go_loopw [5] (fun i wr => ∃ k : Nat, k ≤ n ∧ i = .int .i64 k ∧ Below w.heap.size w wr) (fun i _ => n - (intOf i).toNat)
  case atStart => exact ⟨0, Nat.zero_le _, rfl, Below.refl _ _⟩
  case round =>
    obtain ⟨k, hk, rfl, hbw⟩ := hrel
    by_cases hlt : k < n
    · obtain ⟨b, off, r, rfl, hbl, hr, hc1⟩ := (ha.below hbw (Nat.le_refl _)).num hlt
      obtain ⟨b', off', r', rfl, hbl', hr', hc1'⟩ := (hb.below hbw (Nat.le_refl _)).num hlt
      rw [hr] at hr'
      injection hr' with hr'
      subst hr'
      clear hr ha hb
      go_wp2_with fail
      go_quiet (fail)
      go_wp2
      go_roundw
      case rel => exact ⟨k + 1, by omega, by go_num, below_drawn hbw _⟩
      case measure => simp [intOf]; omega
    · go_wp2
      go_ret
      exact ⟨rfl, hbw⟩
theorem fits_true (A : Option Addr) (n c : Nat) (rs : List (Int × Int)) (x want er : Int) (w : World) (hr : Rd w 2 A n (flat2 .i64 rs)) (hn : n ≤ 1000) (hx1 : 0 ≤ x) (hx2 : x ≤ 100) (h : fitR rs x = (want, er)) :
    Calls Try.prog 31 #[.slice A n c, .int .i64 x, .int .i64 want, .int .i64 er] w fun e w' => e = .returned (.bool true) ∧ Below w.heap.size w w' := by
  have HM := Lib.hid (Fit_any A n c rs x w hr (by omega) (by omega) (by omega))
  rw [h] at HM
  clear h
  go_enter Try.func31, Try.ntmps31
  go_wp2_with (go_at_call 51; refine HM.out.mono ?_; rintro e w1 ⟨rfl, hb1⟩)
  go_ret
  exact ⟨rfl, hb1⟩
theorem faulty_true (s : List UInt8) (er z : Int) (w : World) (hs : s.length ≤ 100) (h : parG s = ([], er, z)) :
    Calls Try.prog 32 #[.string ⟨s.toArray⟩, .int .i64 er, .int .i64 z] w fun e w' => e = .returned (.bool true) ∧ Below w.heap.size w w' := by
  have HM := Lib.hid (Parse24_any s w (by omega))
  rw [h] at HM
  unfold RgPar at HM
  simp only [List.length_nil] at HM
  clear h
  go_enter Try.func32, Try.ntmps32
  go_wp2_with (go_at_call 24; refine HM.out.mono ?_; rintro e w1 ⟨A1, c1, rfl, r1, hb1⟩)
  go_ret
  exact ⟨rfl, balloc hb1 _⟩
theorem kn1 : mapR [(3, 7)] 7 9 64 = ([], 7) := by decide +kernel
theorem kn2 : mapR [(3, 7)] 9 9 5 = ([], 5) := by decide +kernel
theorem kn3 : unmR [(3, 7)] 3 7 = ([], 0) := by decide +kernel
theorem kn4 : unmR [(3, 7)] 7 8 = ([], 6) := by decide +kernel
theorem kn5 : unmR [(3, 7)] 7 6 = ([], 2) := by decide +kernel
theorem kn6 : totR [(3, 7), (9, 9)] = (6, 0) := by decide +kernel
theorem kn7 : gapR [(3, 7), (9, 9)] = ([(0, 2), (8, 8), (10, 63)], 0) := by decide +kernel
theorem kn8 : grpR [(3, 7), (9, 9)] = ([0, 1], 0) := by decide +kernel
theorem kn9 : hasRg [(3, 7), (9, 9)] 64 = (false, 2) := by decide +kernel
theorem kn10 : parG [51, 45, 55, 32, 57] = ([(3, 7), (9, 9)], 0, 0) := by decide +kernel
theorem kn11 : fitR [(3, 7), (9, 9)] 1 = (8, 0) := by decide +kernel
theorem kn12 : fitR [(3, 7), (9, 9)] 3 = (0, 0) := by decide +kernel
theorem kn13 : fitR [(0, 63)] 1 = (0, 5) := by decide +kernel
theorem kn14 : parG [51, 45, 55, 32, 56] = ([], 8, 4) := by decide +kernel
theorem kn15 : parG [51, 45] = ([], 3, 2) := by decide +kernel
theorem kn16 : parG [55, 45, 51] = ([], 2, 0) := by decide +kernel
theorem kn17 : parG [48, 51] = ([], 3, 1) := by decide +kernel
set_option maxHeartbeats 4000000 in
theorem known24_true (w : World) :
    Calls Try.prog 8 #[] w fun e w' => e = .returned (.bool true) ∧ Below w.heap.size w w' := by
  go_enter Try.func8, Try.ntmps8
  go_wp2_with fail
  go_at_call 27
  refine (rl_any _ _ [3, 7] 1 2 [(3, 7)] _ rfl rfl rfl rfl (by omega)).mono ?_
  rintro e w1 ⟨A1, c1, rfl, r1, hb1⟩
  have B1 := hb1
  go_wp2_with fail
  go_at_call 26
  refine (mapped_true A1 none 1 c1 0 0 [(3, 7)] [] 7 9 64 7 _ r1 (by omega) (Rd.zero _) (by omega) kn1).mono ?_
  rintro e w2 ⟨rfl, hb2⟩
  have B2 := bnext B1 hb2
  clear B1 hb2
  go_wp2_with fail
  go_at_call 27
  refine (rl_any _ _ [3, 7] 1 2 [(3, 7)] _ rfl rfl rfl rfl (by omega)).mono ?_
  rintro e w3 ⟨A3, c3, rfl, r3, hb3⟩
  have B3 := bnext B2 hb3
  clear B2 hb3
  go_wp2_with fail
  go_at_call 26
  refine (mapped_true A3 none 1 c3 0 0 [(3, 7)] [] 9 9 5 5 _ r3 (by omega) (Rd.zero _) (by omega) kn2).mono ?_
  rintro e w4 ⟨rfl, hb4⟩
  have B4 := bnext B3 hb4
  clear B3 hb4
  go_wp2_with fail
  go_at_call 27
  refine (rl_any _ _ [3, 7] 1 2 [(3, 7)] _ rfl rfl rfl rfl (by omega)).mono ?_
  rintro e w5 ⟨A5, c5, rfl, r5, hb5⟩
  have B5 := bnext B4 hb5
  clear B4 hb5
  go_wp2_with fail
  go_at_call 28
  refine (unmapped_true A5 none 1 c5 0 0 [(3, 7)] [] 3 7 0 _ r5 (by omega) (Rd.zero _) (by omega) kn3).mono ?_
  rintro e w6 ⟨rfl, hb6⟩
  have B6 := bnext B5 hb6
  clear B5 hb6
  go_wp2_with fail
  go_at_call 27
  refine (rl_any _ _ [3, 7] 1 2 [(3, 7)] _ rfl rfl rfl rfl (by omega)).mono ?_
  rintro e w7 ⟨A7, c7, rfl, r7, hb7⟩
  have B7 := bnext B6 hb7
  clear B6 hb7
  go_wp2_with fail
  go_at_call 28
  refine (unmapped_true A7 none 1 c7 0 0 [(3, 7)] [] 7 8 6 _ r7 (by omega) (Rd.zero _) (by omega) kn4).mono ?_
  rintro e w8 ⟨rfl, hb8⟩
  have B8 := bnext B7 hb8
  clear B7 hb8
  go_wp2_with fail
  go_at_call 27
  refine (rl_any _ _ [3, 7] 1 2 [(3, 7)] _ rfl rfl rfl rfl (by omega)).mono ?_
  rintro e w9 ⟨A9, c9, rfl, r9, hb9⟩
  have B9 := bnext B8 hb9
  clear B8 hb9
  go_wp2_with fail
  go_at_call 28
  refine (unmapped_true A9 none 1 c9 0 0 [(3, 7)] [] 7 6 2 _ r9 (by omega) (Rd.zero _) (by omega) kn5).mono ?_
  rintro e w10 ⟨rfl, hb10⟩
  have B10 := bnext B9 hb10
  clear B9 hb10
  go_wp2_with fail
  go_at_call 27
  refine (rl_any _ _ [3, 7, 9, 9] 2 4 [(3, 7), (9, 9)] _ rfl rfl rfl rfl (by omega)).mono ?_
  rintro e w11 ⟨A11, c11, rfl, r11, hb11⟩
  have B11 := bnext B10 hb11
  clear B10 hb11
  have HT := Lib.hid (fun w h => Total_any A11 2 c11 [(3, 7), (9, 9)] w h (by omega))
  rw [kn6] at HT
  go_wp2_with fail
  go_at_call 23
  refine (HT.out _ r11).mono ?_
  rintro e w12 ⟨rfl, hb12⟩
  replace r11 := r11.below hb12 (Nat.le_refl _)
  have B12 := bnext B11 hb12
  clear B11 hb12
  have HG := Lib.hid (fun w h => Gaps_any A11 2 c11 [(3, 7), (9, 9)] w h (by omega))
  rw [kn7] at HG
  unfold RgRes at HG
  go_wp2_with fail
  go_at_call 21
  refine (HG.out _ r11).mono ?_
  rintro e w13 ⟨v13, rfl, hown13, hb13⟩
  replace r11 := r11.below hb13 (Nat.le_refl _)
  have B13 := bnext B12 hb13
  clear B12 hb13
  obtain ⟨A13, c13, rfl, r13⟩ := own_slice hown13
  clear hown13 HG HT
  have HQ := Lib.hid (fun w h => Groups_any A11 2 c11 [(3, 7), (9, 9)] w h (by omega))
  rw [kn8] at HQ
  unfold IntRes at HQ
  go_wp2_with fail
  go_at_call 29
  refine (HQ.out _ r11).mono ?_
  rintro e w14 ⟨A14, c14, rfl, r14, hb14⟩
  replace r11 := r11.below hb14 (Nat.le_refl _)
  replace r13 := r13.below hb14 (Nat.le_refl _)
  have B14 := bnext B13 hb14
  clear B13 hb14
  have HH := Lib.hid (fun w h => Has_rg A11 2 c11 [(3, 7), (9, 9)] 64 w h (by omega))
  rw [kn9] at HH
  go_wp2_with fail
  go_at_call 20
  refine (HH.out _ r11).mono ?_
  rintro e w15 ⟨rfl, hb15⟩
  replace r11 := r11.below hb15 (Nat.le_refl _)
  replace r13 := r13.below hb15 (Nat.le_refl _)
  replace r14 := r14.below hb15 (Nat.le_refl _)
  have B15 := bnext B14 hb15
  clear B14 hb15
  go_wp2_with fail
  go_at_call 27
  refine (rl_any _ _ [0, 2, 8, 8, 10, 63] 3 6 [(0, 2), (8, 8), (10, 63)] _ rfl rfl rfl rfl (by omega)).mono ?_
  rintro e w16 ⟨A16, c16, rfl, r16, hb16⟩
  replace r11 := r11.below hb16 (Nat.le_refl _)
  replace r13 := r13.below hb16 (Nat.le_refl _)
  replace r14 := r14.below hb16 (Nat.le_refl _)
  have B16 := bnext B15 hb16
  clear B15 hb16
  go_wp2_with fail
  go_at_call 15
  refine (SameRanges_eq A13 A16 3 c13 c16 [(0, 2), (8, 8), (10, 63)] _ r13 r16 (by omega)).mono ?_
  rintro e w17 ⟨rfl, hb17⟩
  replace r11 := r11.below hb17 (Nat.le_refl _)
  replace r13 := r13.below hb17 (Nat.le_refl _)
  replace r14 := r14.below hb17 (Nat.le_refl _)
  have B17 := bnext B16 hb17
  clear B16 hb17
  go_wp2_with fail
  have rL := Rd.new (w := w17) (sz := 1) (n := 2) #[.int .i64 0, .int .i64 1] 3 rfl
  go_at_call 30
  refine (SameInts24 A14 _ 2 c14 2 [0, 1] _ (r14.alloc _) rL (by omega)).mono ?_
  rintro e w18 ⟨rfl, hb18⟩
  replace r11 := (r11.alloc _).below hb18 (Nat.le_refl _)
  have B18 := bnext (balloc B17 _) hb18
  clear B17 hb18 rL
  have HP := Lib.hid (fun w => Parse24_any [51, 45, 55, 32, 57] w (by simp))
  rw [kn10] at HP
  unfold RgPar at HP
  go_wp2_with fail
  go_at_call 24
  refine (HP.out _).mono ?_
  rintro e w19 ⟨A19, c19, rfl, r19, hb19⟩
  replace r11 := r11.below hb19 (Nat.le_refl _)
  have B19 := bnext B18 hb19
  clear B18 hb19
  have K := Bk.new w19 #[.int .i64 0, .int .i64 0] 50
  replace r11 := r11.alloc (.cells #[.int .i64 0, .int .i64 0] 50)
  replace r19 := r19.alloc (.cells #[.int .i64 0, .int .i64 0] 50)
  replace B19 := balloc B19 (.cells #[.int .i64 0, .int .i64 0] 50)
  go_wp2_with fail
  go_at_call 31
  refine (fits_true A11 2 c11 [(3, 7), (9, 9)] 1 8 0 _ r11 (by omega) (by omega) (by omega) kn11).mono ?_
  rintro e w20 ⟨rfl, hb20⟩
  replace r11 := r11.below hb20 (Nat.le_refl _)
  replace r19 := r19.below hb20 (Nat.le_refl _)
  try replace K := K.to hb20
  have B20 := bnext B19 hb20
  clear B19 hb20
  go_wp2_with fail
  go_at_call 31
  refine (fits_true A11 2 c11 [(3, 7), (9, 9)] 3 0 0 _ r11 (by omega) (by omega) (by omega) kn12).mono ?_
  rintro e w21 ⟨rfl, hb21⟩
  replace r11 := r11.below hb21 (Nat.le_refl _)
  replace r19 := r19.below hb21 (Nat.le_refl _)
  try replace K := K.to hb21
  have B21 := bnext B20 hb21
  clear B20 hb21
  go_wp2_with fail
  go_at_call 27
  refine (rl_any _ _ [0, 63] 1 2 [(0, 63)] _ rfl rfl rfl rfl (by omega)).mono ?_
  rintro e w22 ⟨A22, c22, rfl, r22, hb22⟩
  replace r11 := r11.below hb22 (Nat.le_refl _)
  replace r19 := r19.below hb22 (Nat.le_refl _)
  try replace K := K.to hb22
  have B22 := bnext B21 hb22
  clear B21 hb22
  go_wp2_with fail
  go_at_call 31
  refine (fits_true A22 1 c22 [(0, 63)] 1 0 5 _ r22 (by omega) (by omega) (by omega) kn13).mono ?_
  rintro e w23 ⟨rfl, hb23⟩
  replace r11 := r11.below hb23 (Nat.le_refl _)
  replace r19 := r19.below hb23 (Nat.le_refl _)
  try replace K := K.to hb23
  have B23 := bnext B22 hb23
  clear B22 hb23
  obtain ⟨cK, fK, lK⟩ := K.facts
  go_wp2_with fail
  go_at_call 15
  refine (SameRanges_eq A19 A11 2 c19 c11 [(3, 7), (9, 9)] _ r19 r11 (by omega)).mono ?_
  rintro e w24 ⟨rfl, hb24⟩
  replace r11 := r11.below hb24 (Nat.le_refl _)
  replace r19 := r19.below hb24 (Nat.le_refl _)
  try replace K := K.to hb24
  have B24 := bnext B23 hb24
  clear B23 hb24
  clear cK fK lK K
  go_wp2_with fail
  go_at_call 32
  refine (faulty_true [51, 45, 55, 32, 56] 8 4 _ (by simp) kn14).mono ?_
  rintro e w25 ⟨rfl, hb25⟩
  try replace K := K.to hb25
  have B25 := bnext B24 hb25
  clear B24 hb25
  go_wp2_with fail
  go_at_call 32
  refine (faulty_true [51, 45] 3 2 _ (by simp) kn15).mono ?_
  rintro e w26 ⟨rfl, hb26⟩
  try replace K := K.to hb26
  have B26 := bnext B25 hb26
  clear B25 hb26
  go_wp2_with fail
  go_at_call 32
  refine (faulty_true [55, 45, 51] 2 0 _ (by simp) kn16).mono ?_
  rintro e w27 ⟨rfl, hb27⟩
  try replace K := K.to hb27
  have B27 := bnext B26 hb27
  clear B26 hb27
  go_wp2_with fail
  go_at_call 32
  refine (faulty_true [48, 51] 3 1 _ (by simp) kn17).mono ?_
  rintro e w28 ⟨rfl, hb28⟩
  try replace K := K.to hb28
  have B28 := bnext B27 hb28
  clear B27 hb28
  go_wp2_with fail
  go_at_call 9
  refine (awake_true _).mono ?_
  rintro e w29 ⟨rfl, hb29⟩
  try replace K := K.to hb29
  have B29 := bnext B28 hb29
  clear B28 hb29
  go_wp2_with fail
  go_ret
  exact ⟨rfl, B29⟩
end Go.Proofs.Ytfblbkhiaglelaa
