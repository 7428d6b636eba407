/- The text of regions, by the reference. -/
import Derived.Test.YtfblbkhiaglelaaDoorRgV
import Derived.Laws.IdiomStrings
namespace Go.Proofs.YtfblbkhiaglelaaDoor
open Go Go.Proofs Go.RowKit
set_option linter.unusedSimpArgs false
set_option linter.unusedVariables false
set_option maxRecDepth 100000

theorem retY1 {s t : ByteArray} (h : s = t) : Ending.returned (.string s) = .returned (.string t) := by rw [h]
theorem retY2 {s t : ByteArray} {k : IntKind} {z : Int} (h : s = t) : Ending.returned (.tuple #[.string s, .int k z]) = .returned (.tuple #[.string t, .int k z]) := by rw [h]
theorem dig_extY (n : Nat) (hn : n < 10) : (⟨#[48, 49, 50, 51, 52, 53, 54, 55, 56, 57]⟩ : ByteArray).extract n (n + 1) = ⟨(Lib.decDigits n).toArray⟩ := by
  rw [dig_small n hn]
  have h : n = 0 ∨ n = 1 ∨ n = 2 ∨ n = 3 ∨ n = 4 ∨ n = 5 ∨ n = 6 ∨ n = 7 ∨ n = 8 ∨ n = 9 := by omega
  rcases h with rfl | rfl | rfl | rfl | rfl | rfl | rfl | rfl | rfl | rfl <;> rfl
theorem rdigits_any (n : Nat) (w : World) (hn : n < 64) :
    Calls Tryd.prog 40 #[.int .i64 n] w fun e w' => e = .returned (.string ⟨(Lib.decDigits n).toArray⟩) ∧ ∃ k, w' = w.drewN k := by
  by_cases h : n < 10
  · have HX := Lib.hid (dig_extY n h)
    go_enter Tryd.func40, Tryd.ntmps40
    go_wp2
    go_ret
    exact ⟨retY1 HX.out, 0, rfl⟩
  · have HX := Lib.hid (dig_extY (n % 10) (by omega))
    have HY := Lib.hid (dig_extY (n / 10) (by omega))
    have HD : Hid (Lib.decDigits n = Lib.decDigits (n / 10) ++ Lib.decDigits (n % 10)) := Lib.hid (by rw [dig_big n h, dig_small (n % 10) (by omega)])
    have l1 := dec_len2 (n / 10) (by omega)
    have l2 := dec_len2 (n % 10) (by omega)
    have hI : ¬ (n : Int) < 10 := by omega
    have hq : ((n / 10 : Nat) : Int) < 10 := by omega
    go_enter Tryd.func40, Tryd.ntmps40
    go_wp2_with fail
    go_quiet (fail)
    all_goals try (exfalso; omega)
    all_goals try go_wp2_with fail
    all_goals go_ret
    refine ⟨retY1 ?_, _, rfl⟩
    rw [HD.out]
    apply ByteArray.ext
    simp [HX.out, HY.out]
theorem valS {s t : ByteArray} (h : s = t) : Value.string s = Value.string t := by rw [h]
theorem textG_ok {rs : List (Int × Int)} (h : RgV rs) : textG rs = (txtK rs rs.length, 0) := by unfold textG; rw [h.ok, if_neg (by simp)]
theorem txtK_step (rs : List (Int × Int)) (k x y : Nat) (hg : rs.getD k (0, 0) = ((x : Int), (y : Int))) : txtK rs (k + 1) = txtK rs k ++ (if 0 < k then [32] else []) ++ (Lib.decDigits x ++ (if y = x then [] else [45] ++ Lib.decDigits y)) := by
  rw [txtK, hg]
  unfold rgT
  simp only [Int.toNat_natCast]
  by_cases h : y = x
  · rw [if_pos h, if_pos (show (y : Int) = (x : Int) by omega)]
  · rw [if_neg h, if_neg (show ¬ (y : Int) = (x : Int) by omega)]
def STR (l : List UInt8) : Value := .string ⟨l.toArray⟩
set_option maxHeartbeats 4000000 in
theorem rText_any (A : Option Addr) (n c : Nat) (rs : List (Int × Int)) (w : World) (hr : Rd w 2 A n (flat2 .i64 rs)) (hn : n ≤ 1000000) :
    Calls Tryd.prog 18 #[.slice A n c] w fun e w' => e = .returned (.tuple #[.string ⟨(textG rs).1.toArray⟩, .int .i64 (textG rs).2]) ∧ Below w.heap.size w w' := by
  have HC := Lib.hid (rCheckR_any A n c rs w hr hn)
  obtain ⟨TR, hTR⟩ : ∃ f, textG rs = f := ⟨_, rfl⟩
  rw [hTR]
  have hlen : rs.length = n := by have := hr.1; rw [flat2_len] at this; omega
  by_cases hE : (regE rs).1 = 0
  · have hv := regE_zero rs hE
    rw [hE] at HC
    rw [textG_ok hv, hlen] at hTR
    have HV := Lib.hid hTR.symm
    have h32 := RgV_len hv
    have HLn := Lib.hid (txtK_len rs hv)
    unfold RgV at hv
    rw [hlen] at h32 hv HLn
    have HVN := Lib.hid hv
    clear hTR hE hlen hv
    go_enter Tryd.func18, Tryd.ntmps18
    go_wp2_with (go_at_call 32; refine HC.out.mono ?_; rintro e w1 ⟨rfl, hb1⟩)
    have r1 := hr.below hb1 (Nat.le_refl _)
    go_loopw [6, 7] (fun v i wr => ∃ k : Nat, k ≤ n ∧ i = .int .i64 k ∧ v = .string ⟨(txtK rs k).toArray⟩ ∧ Below w1.heap.size w1 wr) (fun _ i _ => n - (intOf i).toNat)
    case atStart => exact ⟨0, by omega, rfl, rfl, Below.refl _ _⟩
    case round =>
      clear hr HC
      obtain ⟨k, hk, rfl, rfl, hB⟩ := hrel
      have hT := (HLn.out k (by omega)).2
      by_cases hlt : k < n
      · obtain ⟨b, off, a, d, rfl, hb, hg, c1, c2⟩ := (r1.below hB (Nat.le_refl _)).pr hlt
        obtain ⟨q1, q2, q3, _⟩ := rgE_one (HVN.out k hlt)
        rw [hg] at q1 q2 q3
        simp only at q1 q2 q3
        obtain ⟨x, rfl⟩ : ∃ q : Nat, a = q := ⟨a.toNat, by omega⟩
        obtain ⟨y, rfl⟩ : ∃ q : Nat, d = q := ⟨d.toNat, by omega⟩
        have HS := Lib.hid (txtK_step rs k x y hg)
        have lx := dec_len2 x (by omega)
        have ly := dec_len2 y (by omega)
        have HX := Lib.hid (fun w => rdigits_any x w (by omega))
        have HY := Lib.hid (fun w => rdigits_any y w (by omega))
        generalize txtK rs k = T at *
        have hkI : (k : Int) < (n : Int) := by omega
        clear hg
        by_cases hyx : y = x
        · subst hyx
          rw [if_pos rfl, List.append_nil] at HS
          have d1 : decide ((y : Int) < (y : Int)) = false := by simp
          rcases k with _ | k
          · rw [if_neg (by omega), List.append_nil] at HS
            simp only [Nat.zero_mul, Nat.add_zero] at c1 c2
            go_wp2_with (go_at_call 40; refine (HX.out _).mono ?_; rintro e w' ⟨rfl, nd, rfl⟩)
            all_goals try (exfalso; omega)
            go_quiet (fail)
            go_wp2_with fail
            go_roundw
            case rel => exact ⟨0 + 1, by omega, by go_num, valS (ByteArray.ext (by rw [HS.out]; simp)), by (repeat' (first | exact Below.refl _ _ | assumption | refine balloc ?_ _ | refine below_drawn ?_ _ | refine below_drew ?_ | refine bnext ?_ hb24 | refine bnext ?_ hb23 | refine bnext ?_ hb22 | refine bnext ?_ hb21 | refine bnext ?_ hb20 | refine bnext ?_ hb19 | refine bnext ?_ hb18 | refine bnext ?_ hb17 | refine bnext ?_ hb16 | refine bnext ?_ hb15 | refine bnext ?_ hb14 | refine bnext ?_ hb13 | refine bnext ?_ hb12 | refine bnext ?_ hb11 | refine bnext ?_ hb10 | refine bnext ?_ hb9 | refine bnext ?_ hb8 | refine bnext ?_ hb7 | refine bnext ?_ hb6 | refine bnext ?_ hb5 | refine bnext ?_ hb4 | refine bnext ?_ hb3 | refine bnext ?_ hb2 | refine bnext ?_ hb1))⟩
            case measure => simp [intOf]; omega
          · rw [if_pos (by omega)] at HS
            have hk0 : (0 : Int) < ((k + 1 : Nat) : Int) := by omega
            go_wp2_with (go_at_call 40; refine (HX.out _).mono ?_; rintro e w' ⟨rfl, nd, rfl⟩)
            all_goals try (exfalso; omega)
            go_quiet (fail)
            go_wp2_with fail
            go_roundw
            case rel => exact ⟨k + 1 + 1, by omega, by go_num, valS (ByteArray.ext (by rw [HS.out]; simp)), by (repeat' (first | exact Below.refl _ _ | assumption | refine balloc ?_ _ | refine below_drawn ?_ _ | refine below_drew ?_ | refine bnext ?_ hb24 | refine bnext ?_ hb23 | refine bnext ?_ hb22 | refine bnext ?_ hb21 | refine bnext ?_ hb20 | refine bnext ?_ hb19 | refine bnext ?_ hb18 | refine bnext ?_ hb17 | refine bnext ?_ hb16 | refine bnext ?_ hb15 | refine bnext ?_ hb14 | refine bnext ?_ hb13 | refine bnext ?_ hb12 | refine bnext ?_ hb11 | refine bnext ?_ hb10 | refine bnext ?_ hb9 | refine bnext ?_ hb8 | refine bnext ?_ hb7 | refine bnext ?_ hb6 | refine bnext ?_ hb5 | refine bnext ?_ hb4 | refine bnext ?_ hb3 | refine bnext ?_ hb2 | refine bnext ?_ hb1))⟩
            case measure => simp [intOf]; omega
        · rw [if_neg hyx] at HS
          have hxy : x < y := by omega
          have d1 : decide (x < y) = true := by simp; omega
          clear hyx
          rcases k with _ | k
          · rw [if_neg (by omega), List.append_nil] at HS
            simp only [Nat.zero_mul, Nat.add_zero] at c1 c2
            go_wp2_with (first | (go_at_call_of 40 (Value.int .i64 (x : Int)); refine (HX.out _).mono ?_; rintro e w' ⟨rfl, nd, rfl⟩) | (go_at_call_of 40 (Value.int .i64 (y : Int)); refine (HY.out _).mono ?_; rintro e w' ⟨rfl, nd2, rfl⟩))
            all_goals try (exfalso; omega)
            go_quiet (fail)
            go_wp2_with (first | (go_at_call_of 40 (Value.int .i64 (x : Int)); refine (HX.out _).mono ?_; rintro e w' ⟨rfl, nd, rfl⟩) | (go_at_call_of 40 (Value.int .i64 (y : Int)); refine (HY.out _).mono ?_; rintro e w' ⟨rfl, nd2, rfl⟩))
            all_goals try (exfalso; omega)
            go_roundw
            case rel => exact ⟨0 + 1, by omega, by go_num, valS (ByteArray.ext (by rw [HS.out]; simp)), by (repeat' (first | exact Below.refl _ _ | assumption | refine balloc ?_ _ | refine below_drawn ?_ _ | refine below_drew ?_ | refine bnext ?_ hb24 | refine bnext ?_ hb23 | refine bnext ?_ hb22 | refine bnext ?_ hb21 | refine bnext ?_ hb20 | refine bnext ?_ hb19 | refine bnext ?_ hb18 | refine bnext ?_ hb17 | refine bnext ?_ hb16 | refine bnext ?_ hb15 | refine bnext ?_ hb14 | refine bnext ?_ hb13 | refine bnext ?_ hb12 | refine bnext ?_ hb11 | refine bnext ?_ hb10 | refine bnext ?_ hb9 | refine bnext ?_ hb8 | refine bnext ?_ hb7 | refine bnext ?_ hb6 | refine bnext ?_ hb5 | refine bnext ?_ hb4 | refine bnext ?_ hb3 | refine bnext ?_ hb2 | refine bnext ?_ hb1))⟩
            case measure => simp [intOf]; omega
          · rw [if_pos (by omega)] at HS
            have hk0 : (0 : Int) < ((k + 1 : Nat) : Int) := by omega
            go_wp2_with (first | (go_at_call_of 40 (Value.int .i64 (x : Int)); refine (HX.out _).mono ?_; rintro e w' ⟨rfl, nd, rfl⟩) | (go_at_call_of 40 (Value.int .i64 (y : Int)); refine (HY.out _).mono ?_; rintro e w' ⟨rfl, nd2, rfl⟩))
            all_goals try (exfalso; omega)
            go_quiet (fail)
            go_wp2_with (first | (go_at_call_of 40 (Value.int .i64 (x : Int)); refine (HX.out _).mono ?_; rintro e w' ⟨rfl, nd, rfl⟩) | (go_at_call_of 40 (Value.int .i64 (y : Int)); refine (HY.out _).mono ?_; rintro e w' ⟨rfl, nd2, rfl⟩))
            all_goals try (exfalso; omega)
            go_roundw
            case rel => exact ⟨k + 1 + 1, by omega, by go_num, valS (ByteArray.ext (by rw [HS.out]; simp)), by (repeat' (first | exact Below.refl _ _ | assumption | refine balloc ?_ _ | refine below_drawn ?_ _ | refine below_drew ?_ | refine bnext ?_ hb24 | refine bnext ?_ hb23 | refine bnext ?_ hb22 | refine bnext ?_ hb21 | refine bnext ?_ hb20 | refine bnext ?_ hb19 | refine bnext ?_ hb18 | refine bnext ?_ hb17 | refine bnext ?_ hb16 | refine bnext ?_ hb15 | refine bnext ?_ hb14 | refine bnext ?_ hb13 | refine bnext ?_ hb12 | refine bnext ?_ hb11 | refine bnext ?_ hb10 | refine bnext ?_ hb9 | refine bnext ?_ hb8 | refine bnext ?_ hb7 | refine bnext ?_ hb6 | refine bnext ?_ hb5 | refine bnext ?_ hb4 | refine bnext ?_ hb3 | refine bnext ?_ hb2 | refine bnext ?_ hb1))⟩
            case measure => simp [intOf]; omega
      · obtain rfl : k = n := by omega
        go_wp2_with fail
        go_ret2
        exact ⟨by rw [HV.out]; rfl, bnext hb1 hB⟩
  · rw [show textG rs = ([], (regE rs).1) by unfold textG; rw [if_pos hE]] at hTR
    subst hTR
    have hE2 : ((regE rs).1 != 0) = true := by simpa using hE
    have hE3 : ((regE rs).1 == 0) = false := by simpa using hE
    generalize (regE rs).1 = E at *
    go_enter Tryd.func18, Tryd.ntmps18
    go_wp2_with (go_at_call 32; refine HC.out.mono ?_; rintro e w1 ⟨rfl, hb1⟩)
    go_ret2
    exact ⟨rfl, hb1⟩
end Go.Proofs.YtfblbkhiaglelaaDoor
