/- The gaps between regions, and how many pages are mapped. -/
import Derived.Test.YtfblbkhiaglelaaDoorRgS
import Derived.Laws.BitsAllLaws
namespace Go.Proofs.YtfblbkhiaglelaaDoor
open Go Go.Proofs Go.RowKit
set_option linter.unusedSimpArgs false
set_option linter.unusedVariables false
set_option maxRecDepth 100000

theorem xor_maxS (x : Nat) (hx : x < 18446744073709551616) : bits .xor .u64 IntKind.u64.max (x : Int) = ((18446744073709551615 - x : Nat) : Int) := by
  rw [show IntKind.u64.max = ((18446744073709551615 : Nat) : Int) from rfl, u64_xor_nat _ _ (by omega) hx]
  congr 1
  apply Nat.eq_of_testBit_eq
  intro j
  rw [Nat.testBit_xor]
  have h1 := Nat.testBit_two_pow_sub_succ (n := 64) (x := x) (by omega) j
  rw [show 2 ^ 64 - (x + 1) = 18446744073709551615 - x by omega] at h1
  have h2 := Nat.testBit_two_pow_sub_one 64 j
  rw [show 2 ^ 64 - 1 = 18446744073709551615 by omega] at h2
  rw [h1, h2]
  by_cases hj : j < 64
  · simp [hj]
  · have : x.testBit j = false := Nat.testBit_lt_two_pow (Nat.lt_of_lt_of_le hx (by
      have := Nat.pow_le_pow_right (n := 2) (by omega) (show 64 ≤ j by omega)
      simpa using this))
    simp [hj, this]
def gapR (rs : List (Int × Int)) : List (Int × Int) × Int := if (regE rs).1 ≠ 0 then ([], (regE rs).1) else (regs (fun p => !hasP rs p), 0)
def totR (rs : List (Int × Int)) : Int × Int := if (regE rs).1 ≠ 0 then (0, (regE rs).1) else ((cntP (hasP rs) : Int), 0)
theorem gapR_ok {rs : List (Int × Int)} (h : RgV rs) : gapR rs = (regs (fun p => !hasP rs p), 0) := by unfold gapR; rw [h.ok]; rfl
theorem totR_ok {rs : List (Int × Int)} (h : RgV rs) : totR rs = ((cntP (hasP rs) : Int), 0) := by unfold totR; rw [h.ok]; rfl
theorem regs_congr (f g : Nat → Bool) (h : ∀ p, p < 64 → f p = g p) : regs f = regs g := regK_congr f g 64 h
theorem Gaps_any (A : Option Addr) (n c : Nat) (rs : List (Int × Int)) (w : World) (hr : Rd w 2 A n (flat2 .i64 rs)) (hn : n ≤ 1000000) :
    Calls Tryd.prog 10 #[.slice A n c] w fun e w' => RgRes w w' (gapR rs).1 (gapR rs).2 e := by
  have HC := Lib.hid (rCheckP_any A n c rs w hr hn)
  by_cases hE : (regE rs).1 = 0
  · have hv := regE_zero rs hE
    rw [gapR_ok hv]
    rw [hE] at HC
    have hl := setN_lt rs rs.length
    have HP := Lib.hid (fun w1 h => pages_any A n c rs w1 h hn hv)
    have HS := Lib.hid (fun w => sregions_any (18446744073709551615 - setN rs rs.length) w (by omega))
    have HX := Lib.hid (xor_maxS (setN rs rs.length) hl)
    rw [regs_congr (18446744073709551615 - setN rs rs.length).testBit (fun p => !hasP rs p) (fun p hp => by rw [not_bitS _ _ hl hp, setN_has rs hv])] at HS
    generalize setN rs rs.length = S at *
    clear hE hv
    go_enter Tryd.func10, Tryd.ntmps10
    go_wp2_with (first
      | (go_at_call 28; refine HC.out.mono ?_; rintro e w1 ⟨rfl, hb1⟩)
      | (go_at_call 30; refine (HP.out _ (hr.below hb1 (Nat.le_refl _))).mono ?_; rintro e w2 ⟨rfl, hb2⟩)
      | (go_at_call 36; rw [HX.out]; refine (HS.out _).mono ?_; rintro e w3 ⟨v, rfl, hown, hb3⟩))
    go_ret2
    exact ⟨v, rfl, own_less hown (bnext hb1 hb2).size, bnext (bnext hb1 hb2) hb3⟩
  · rw [show gapR rs = ([], (regE rs).1) by unfold gapR; rw [if_pos hE]]
    generalize (regE rs).1 = E at *
    go_enter Tryd.func10, Tryd.ntmps10
    go_wp2_with (go_at_call 28; refine HC.out.mono ?_; rintro e w1 ⟨rfl, hb1⟩)
    go_ret2
    exact RgRes.nil rfl hb1
theorem Total_any (A : Option Addr) (n c : Nat) (rs : List (Int × Int)) (w : World) (hr : Rd w 2 A n (flat2 .i64 rs)) (hn : n ≤ 1000000) :
    Calls Tryd.prog 8 #[.slice A n c] w fun e w' => e = .returned (.tuple #[.int .i64 (totR rs).1, .int .i64 (totR rs).2]) ∧ Below w.heap.size w w' := by
  have HC := Lib.hid (rCheckP_any A n c rs w hr hn)
  by_cases hE : (regE rs).1 = 0
  · have hv := regE_zero rs hE
    rw [totR_ok hv]
    rw [hE] at HC
    have HP := Lib.hid (fun w1 h => pages_any A n c rs w1 h hn hv)
    have HO := Lib.hid (fun w => OnesCount_any (setN rs rs.length) w (setN_lt _ _))
    rw [pop_set rs hv] at HO
    generalize setN rs rs.length = S at *
    generalize cntP (hasP rs) = N at *
    clear hE hv
    go_enter Tryd.func8, Tryd.ntmps8
    go_wp2_with (first
      | (go_at_call 28; refine HC.out.mono ?_; rintro e w1 ⟨rfl, hb1⟩)
      | (go_at_call 30; refine (HP.out _ (hr.below hb1 (Nat.le_refl _))).mono ?_; rintro e w2 ⟨rfl, hb2⟩)
      | (go_at_call 34; refine (HO.out _).mono ?_; rintro e w' ⟨rfl, rfl⟩))
    go_ret2
    exact ⟨rfl, bnext hb1 hb2⟩
  · rw [show totR rs = (0, (regE rs).1) by unfold totR; rw [if_pos hE]]
    generalize (regE rs).1 = E at *
    go_enter Tryd.func8, Tryd.ntmps8
    go_wp2_with (go_at_call 28; refine HC.out.mono ?_; rintro e w1 ⟨rfl, hb1⟩)
    go_ret2
    exact ⟨rfl, hb1⟩
/-- The gaps of the gaps. -/
theorem cnt_not (f : Nat → Bool) : ∀ n, (List.range n).countP f + (List.range n).countP (fun p => !f p) = n
  | 0 => rfl
  | n + 1 => by
    have h := cnt_not f n
    rw [List.range_succ, List.countP_append, List.countP_append, List.countP_singleton, List.countP_singleton]
    cases f n <;> simp <;> omega
end Go.Proofs.YtfblbkhiaglelaaDoor
