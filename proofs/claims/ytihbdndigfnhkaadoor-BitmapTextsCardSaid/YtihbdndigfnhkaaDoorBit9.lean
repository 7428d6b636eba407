/- The next number of a set, word by word. -/
import Derived.Test.YtihbdndigfnhkaaDoorBit8
namespace Go.Proofs.YtihbdndigfnhkaaDoor
open Go Go.Proofs Go.RowKit
set_option linter.unusedSimpArgs false
set_option linter.unusedVariables false

theorem low_of (v : Nat) (h0 : v ≠ 0) : ∃ t m, v = 2 ^ t * (2 * m + 1) := by
  induction v using Nat.strongRecOn with
  | _ v ih =>
    by_cases h : v % 2 = 1
    · exact ⟨0, v / 2, by omega⟩
    · obtain ⟨t, m, e⟩ := ih (v / 2) (by omega) (by omega)
      refine ⟨t + 1, m, ?_⟩
      rw [Nat.pow_succ, Nat.mul_right_comm, ← e]
      omega
theorem low_bits (t m j : Nat) : (2 ^ t * (2 * m + 1)).testBit j = if j < t then false else if j = t then true else m.testBit (j - t - 1) := by
  rw [Nat.testBit_two_pow_mul, odd_bit]
  by_cases h1 : j < t
  · simp [h1, show ¬ t ≤ j by omega]
  · by_cases h2 : j = t
    · subst h2; simp
    · rw [if_neg h1, if_neg h2, if_neg (by omega)]
      simp [show t ≤ j by omega]
theorem low_lt (t m : Nat) (h : 2 ^ t * (2 * m + 1) < 18446744073709551616) : t < 64 := by
  apply Classical.byContradiction
  intro hc
  have h1 : 2 ^ 64 ≤ 2 ^ t := Nat.pow_le_pow_right (by omega) (by omega)
  have h2 : 2 ^ t * 1 ≤ 2 ^ t * (2 * m + 1) := Nat.mul_le_mul_left _ (by omega)
  omega
theorem xor_max (x : Nat) (hx : x < 18446744073709551616) : bits .xor .u64 IntKind.u64.max (x : Int) = ((18446744073709551615 - x : Nat) : Int) := by
  rw [show IntKind.u64.max = ((18446744073709551615 : Nat) : Int) from rfl, u64_xor_nat _ _ (by omega) hx]
  congr 1
  apply Nat.eq_of_testBit_eq
  intro j
  rw [Nat.testBit_xor]
  have h1 := Nat.testBit_two_pow_sub_succ (n := 64) (x := x) (by omega) j
  rw [show 2 ^ 64 - (x + 1) = 18446744073709551615 - x by omega] at h1
  have h2 := Nat.testBit_two_pow_sub_one 64 j
  rw [show 2 ^ 64 - 1 = 18446744073709551615 by omega] at h2
  rw [h1, h2]
  by_cases hj : j < 64
  · simp [hj]
  · have : x.testBit j = false := Nat.testBit_lt_two_pow (Nat.lt_of_lt_of_le hx (by
      have := Nat.pow_le_pow_right (n := 2) (by omega) (show 64 ≤ j by omega)
      simpa using this))
    simp [hj, this]
/-- The word of which Next takes the lowest bit. -/
def nxt (x : Nat) (inn : Bool) (mk : Nat) : Nat := (if inn then x else 18446744073709551615 - x) &&& mk
theorem nxt_bit (x mk : Nat) (inn : Bool) (hx : x < 18446744073709551616) (j : Nat) (hj : j < 64) : (nxt x inn mk).testBit j = ((x.testBit j == inn) && mk.testBit j) := by
  unfold nxt
  rw [Nat.testBit_and]
  cases inn with
  | true => simp
  | false =>
    have := Nat.testBit_two_pow_sub_succ (n := 64) (x := x) (by omega) j
    rw [show 2 ^ 64 - (x + 1) = 18446744073709551615 - x by omega] at this
    simp only [Bool.false_eq_true, if_false]
    rw [this]
    simp [hj]
theorem nxt_lt (x mk : Nat) (inn : Bool) (h : mk < 18446744073709551616) : nxt x inn mk < 18446744073709551616 := Nat.lt_of_le_of_lt Nat.and_le_right h

set_option maxRecDepth 100000 in
set_option maxHeartbeats 1000000 in
theorem Next_any (N : Int) (A : Option Addr) (n c : Nat) (ws : List Nat) (a : Int) (inn : Bool) (w : World) (hT : TabOK w) (hr : Rd w 1 A n (uw ws)) (hs : wsmall ws) (hn : n ≤ 1000000) :
    Calls Tryd.prog 27 #[.agg #[.int .i64 N, .slice A n c], .int .i64 a, .bool inn] w fun e w' => e = .returned (.tuple #[.int .i64 (nextR N ws a inn).1, .int .i64 (nextR N ws a inn).2]) ∧ Below w.heap.size w w' := by
  have hlen : ws.length = n := by have := hr.1; rw [uw_len] at this; omega
  by_cases hE : chkE N ws = 0
  · obtain ⟨z0, z1, z2, _⟩ := chk_zero N ws hE
    have HE := Lib.hid hE
    by_cases c1 : a < 0 ∨ N < a
    · have hv : nextR N ws a inn = (0, 2) := by unfold nextR; rw [if_neg (by simp [hE]), if_pos c1]
      rw [hv]
      clear hE hv
      rcases c1 with c1 | c1
      all_goals
        go_enter Tryd.func27, Tryd.ntmps27
        go_wp2_with fail
        refine (Check_any _ _ _ _ ws _ (hr.alloc _) hs hn).mono ?_
        rintro e w1 ⟨rfl, hb1⟩
        have kB := (Bk.new w #[.int .i64 N, .slice A n c] 24).to hb1
        obtain ⟨cB, fB, lB⟩ := kB.facts
        rw [HE.out]
        go_wp2_with fail
        go_ret2
        exact ⟨rfl, by (repeat' (first | exact Below.refl _ _ | assumption | refine balloc ?_ _ | refine below_drawn ?_ _ | refine below_drew ?_ | refine bnext ?_ hb24 | refine bnext ?_ hb23 | refine bnext ?_ hb22 | refine bnext ?_ hb21 | refine bnext ?_ hb20 | refine bnext ?_ hb19 | refine bnext ?_ hb18 | refine bnext ?_ hb17 | refine bnext ?_ hb16 | refine bnext ?_ hb15 | refine bnext ?_ hb14 | refine bnext ?_ hb13 | refine bnext ?_ hb12 | refine bnext ?_ hb11 | refine bnext ?_ hb10 | refine bnext ?_ hb9 | refine bnext ?_ hb8 | refine bnext ?_ hb7 | refine bnext ?_ hb6 | refine bnext ?_ hb5 | refine bnext ?_ hb4 | refine bnext ?_ hb3 | refine bnext ?_ hb2 | refine bnext ?_ hb1))⟩
    · obtain ⟨a, rfl⟩ : ∃ q : Nat, a = q := ⟨a.toNat, by omega⟩
      have c6 : (a : Int) ≤ N := by omega
      have d1 : decide ((a : Int) < 0) = false := by simp
      have d3 : decide (N < (a : Int)) = false := by simp; omega
      have Hhit := Lib.hid (fun q => nextR_hit N ws a q inn hE c6)
      have Hnone := Lib.hid (nextR_none N ws a inn hE c6)
      clear c1 hE
      have hn17 : n ≤ 17 := by omega
      have hN : N ≤ 64 * n := by omega
      have Hlen := Lib.hid hlen
      clear hlen z2
      go_enter Tryd.func27, Tryd.ntmps27
      go_wp2_with fail
      refine (Check_any _ _ _ _ ws _ (hr.alloc _) hs hn).mono ?_
      rintro e w1 ⟨rfl, hb1⟩
      have kB := (Bk.new w #[.int .i64 N, .slice A n c] 24).to hb1
      obtain ⟨cB, fB, lB⟩ := kB.facts
      have hr1 := (hr.alloc (.cells #[.int .i64 N, .slice A n c] 24)).below hb1 (Nat.le_refl _)
      have hT1 := (hT.alloc (.cells #[.int .i64 N, .slice A n c] 24)).below hb1
      rw [HE.out]
      go_wp2_with fail
      go_loop [27] (fun i => ∃ k : Nat, k ≤ n ∧ i = .int .i64 k ∧ Hid (∀ j : Nat, a ≤ j → j < 64 * k → (j : Int) < N → wbit ws j ≠ inn)) (fun i => n - (intOf i).toNat)
      case atStart => exact ⟨0, by omega, rfl, Lib.hid (fun j h1 h2 => by omega)⟩
      case round =>
        obtain ⟨k, hk, rfl, Hno⟩ := hrel
        by_cases hlt : k < n
        · obtain ⟨g, off, x, rfl, hg, hx, hxs, hc⟩ := hr1.word hs hlt
          have hmb := fun j hj => mask_bit k a N (by omega) j hj
          have hml := mask_lt k a N
          have Hmb := Lib.hid hmb
          clear hmb
          have hnl := nxt_lt x (maskV (mkLo k a) (mkHi k N)) inn hml
          have Hbit : Hid (∀ j, j < 64 → (nxt x inn (maskV (mkLo k a) (mkHi k N))).testBit j = ((wbit ws (64 * k + j) == inn) && (decide (a ≤ 64 * k + j) && decide (((64 * k + j : Nat) : Int) < N)))) := by
            refine Lib.hid (fun j hj => ?_)
            rw [nxt_bit x _ inn hxs j hj, Hmb.out j hj]
            unfold wbit
            rw [show (64 * k + j) / 64 = k by omega, show (64 * k + j) % 64 = j by omega, hx, show decide (((a : Nat) : Int) ≤ ((64 * k + j : Nat) : Int)) = decide (a ≤ 64 * k + j) by rw [decide_eq_decide]; omega]
          obtain ⟨y, hy, hys⟩ : ∃ y : Nat, bits .xor .u64 IntKind.u64.max (x : Int) = (y : Int) ∧ y = 18446744073709551615 - x := ⟨_, xor_max x hxs, rfl⟩
          have hba : bits .and .u64 (if inn then (x : Int) else (y : Int)) (maskV (mkLo k a) (mkHi k N) : Int) = (nxt x inn (maskV (mkLo k a) (mkHi k N)) : Int) := by
            unfold nxt
            rw [hys]
            cases inn with
            | true => exact band _ _ _ rfl hxs hml
            | false => exact band _ (18446744073709551615 - x) _ rfl (by omega) hml
          have hsg : IntKind.u64.signed = false := rfl
          clear hys
          by_cases hv : nxt x inn (maskV (mkLo k a) (mkHi k N)) = 0
          · have Hz := Lib.hid hv
            have hz : ((nxt x inn (maskV (mkLo k a) (mkHi k N)) : Int) != 0) = false := by rw [hv]; rfl
            clear hv hx
            have Hno2 : Hid (∀ j : Nat, a ≤ j → j < 64 * (k + 1) → (j : Int) < N → wbit ws j ≠ inn) := by
              refine Lib.hid (fun j h1 h2 h3 => ?_)
              rcases Nat.lt_or_ge j (64 * k) with h | h
              · exact Hno.out j h1 h h3
              · have := Hbit.out (j - 64 * k) (by omega)
                rw [Hz.out, show 64 * k + (j - 64 * k) = j by omega] at this
                simp [h1, h3] at this
                intro he
                rw [he] at this
                simp at this
            cases inn
            · simp only [Bool.false_eq_true, if_false] at hba
              go_wp2_with (first | (go_at_call 45; refine (mask_any _ _ _ _ (by omega) (by omega) (by omega) (by omega) (by omega) (by omega)).mono ?_; rintro e w' ⟨rfl, rfl⟩) | (go_at_call 52; refine (tz_any _ t _ hT1 HV.out.1 HV.out.2.1 m HV.out.2.2).mono ?_; rintro e w' ⟨rfl, rfl⟩))
              go_round
              case rel => exact ⟨k + 1, by omega, by go_num, Hno2⟩
              case measure => simp [intOf]; omega
            · simp only [if_true] at hba
              go_wp2_with (first | (go_at_call 45; refine (mask_any _ _ _ _ (by omega) (by omega) (by omega) (by omega) (by omega) (by omega)).mono ?_; rintro e w' ⟨rfl, rfl⟩) | (go_at_call 52; refine (tz_any _ t _ hT1 HV.out.1 HV.out.2.1 m HV.out.2.2).mono ?_; rintro e w' ⟨rfl, rfl⟩))
              go_round
              case rel => exact ⟨k + 1, by omega, by go_num, Hno2⟩
              case measure => simp [intOf]; omega
          · have hz : ((nxt x inn (maskV (mkLo k a) (mkHi k N)) : Int) != 0) = true := by rw [bne_iff_ne]; omega
            obtain ⟨t, m, htm⟩ := low_of _ hv
            have ht : t < 64 := low_lt t m (by rw [← htm]; exact hnl)
            have hb : (nxt x inn (maskV (mkLo k a) (mkHi k N))).testBit t = true := by rw [htm, low_bits, if_neg (by omega), if_pos rfl]
            rw [Hbit.out t ht] at hb
            simp only [Bool.and_eq_true, decide_eq_true_eq, beq_iff_eq] at hb
            obtain ⟨hb1', hb2', hb3'⟩ := hb
            have hres := Hhit.out (64 * k + t) hb2' (by omega) (fun j h1 h2 => by
              rcases Nat.lt_or_ge j (64 * k) with h | h
              · exact Hno.out j h1 h (by omega)
              · have hl : (nxt x inn (maskV (mkLo k a) (mkHi k N))).testBit (j - 64 * k) = false := by rw [htm, low_bits, if_pos (by omega)]
                rw [Hbit.out (j - 64 * k) (by omega), show 64 * k + (j - 64 * k) = j by omega] at hl
                simp [h1, show (j : Int) < N by omega] at hl
                exact hl) hb1'
            have HR := Lib.hid hres
            have HV := Lib.hid (And.intro hnl (And.intro ht htm))
            clear hres htm hb1' hb2' hb3' hv hx
            cases inn
            · simp only [Bool.false_eq_true, if_false] at hba
              go_wp2_with (first | (go_at_call 45; refine (mask_any _ _ _ _ (by omega) (by omega) (by omega) (by omega) (by omega) (by omega)).mono ?_; rintro e w' ⟨rfl, rfl⟩) | (go_at_call 52; refine (tz_any _ t _ hT1 HV.out.1 HV.out.2.1 m HV.out.2.2).mono ?_; rintro e w' ⟨rfl, rfl⟩))
              go_ret2
              rw [HR.out]
              refine ⟨ret_two ?_, by (repeat' (first | exact Below.refl _ _ | assumption | refine balloc ?_ _ | refine below_drawn ?_ _ | refine below_drew ?_ | refine bnext ?_ hb24 | refine bnext ?_ hb23 | refine bnext ?_ hb22 | refine bnext ?_ hb21 | refine bnext ?_ hb20 | refine bnext ?_ hb19 | refine bnext ?_ hb18 | refine bnext ?_ hb17 | refine bnext ?_ hb16 | refine bnext ?_ hb15 | refine bnext ?_ hb14 | refine bnext ?_ hb13 | refine bnext ?_ hb12 | refine bnext ?_ hb11 | refine bnext ?_ hb10 | refine bnext ?_ hb9 | refine bnext ?_ hb8 | refine bnext ?_ hb7 | refine bnext ?_ hb6 | refine bnext ?_ hb5 | refine bnext ?_ hb4 | refine bnext ?_ hb3 | refine bnext ?_ hb2 | refine bnext ?_ hb1))⟩
              show ((k : Int) * 64 + (t : Int), (0 : Int)) = (((64 * k + t : Nat) : Int), 0)
              congr 1
              omega
            · simp only [if_true] at hba
              go_wp2_with (first | (go_at_call 45; refine (mask_any _ _ _ _ (by omega) (by omega) (by omega) (by omega) (by omega) (by omega)).mono ?_; rintro e w' ⟨rfl, rfl⟩) | (go_at_call 52; refine (tz_any _ t _ hT1 HV.out.1 HV.out.2.1 m HV.out.2.2).mono ?_; rintro e w' ⟨rfl, rfl⟩))
              go_ret2
              rw [HR.out]
              refine ⟨ret_two ?_, by (repeat' (first | exact Below.refl _ _ | assumption | refine balloc ?_ _ | refine below_drawn ?_ _ | refine below_drew ?_ | refine bnext ?_ hb24 | refine bnext ?_ hb23 | refine bnext ?_ hb22 | refine bnext ?_ hb21 | refine bnext ?_ hb20 | refine bnext ?_ hb19 | refine bnext ?_ hb18 | refine bnext ?_ hb17 | refine bnext ?_ hb16 | refine bnext ?_ hb15 | refine bnext ?_ hb14 | refine bnext ?_ hb13 | refine bnext ?_ hb12 | refine bnext ?_ hb11 | refine bnext ?_ hb10 | refine bnext ?_ hb9 | refine bnext ?_ hb8 | refine bnext ?_ hb7 | refine bnext ?_ hb6 | refine bnext ?_ hb5 | refine bnext ?_ hb4 | refine bnext ?_ hb3 | refine bnext ?_ hb2 | refine bnext ?_ hb1))⟩
              show ((k : Int) * 64 + (t : Int), (0 : Int)) = (((64 * k + t : Nat) : Int), 0)
              congr 1
              omega
        · go_wp2_with fail
          go_ret2
          rw [Hnone.out (fun j h1 h2 => Hno.out j h1 (by omega) h2)]
          exact ⟨rfl, by (repeat' (first | exact Below.refl _ _ | assumption | refine balloc ?_ _ | refine below_drawn ?_ _ | refine below_drew ?_ | refine bnext ?_ hb24 | refine bnext ?_ hb23 | refine bnext ?_ hb22 | refine bnext ?_ hb21 | refine bnext ?_ hb20 | refine bnext ?_ hb19 | refine bnext ?_ hb18 | refine bnext ?_ hb17 | refine bnext ?_ hb16 | refine bnext ?_ hb15 | refine bnext ?_ hb14 | refine bnext ?_ hb13 | refine bnext ?_ hb12 | refine bnext ?_ hb11 | refine bnext ?_ hb10 | refine bnext ?_ hb9 | refine bnext ?_ hb8 | refine bnext ?_ hb7 | refine bnext ?_ hb6 | refine bnext ?_ hb5 | refine bnext ?_ hb4 | refine bnext ?_ hb3 | refine bnext ?_ hb2 | refine bnext ?_ hb1))⟩
  · have hd : (chkE N ws != 0) = true := by simpa using hE
    have hv : nextR N ws a inn = (0, chkE N ws) := by unfold nextR; rw [if_pos hE]
    rw [hv]
    clear hE hv
    go_enter Tryd.func27, Tryd.ntmps27
    go_wp2_with fail
    refine (Check_any _ _ _ _ ws _ (hr.alloc _) hs hn).mono ?_
    rintro e w1 ⟨rfl, hb1⟩
    have kB := (Bk.new w #[.int .i64 N, .slice A n c] 24).to hb1
    obtain ⟨cB, fB, lB⟩ := kB.facts
    go_wp2_with fail
    go_ret2
    exact ⟨rfl, by (repeat' (first | exact Below.refl _ _ | assumption | refine balloc ?_ _ | refine below_drawn ?_ _ | refine below_drew ?_ | refine bnext ?_ hb24 | refine bnext ?_ hb23 | refine bnext ?_ hb22 | refine bnext ?_ hb21 | refine bnext ?_ hb20 | refine bnext ?_ hb19 | refine bnext ?_ hb18 | refine bnext ?_ hb17 | refine bnext ?_ hb16 | refine bnext ?_ hb15 | refine bnext ?_ hb14 | refine bnext ?_ hb13 | refine bnext ?_ hb12 | refine bnext ?_ hb11 | refine bnext ?_ hb10 | refine bnext ?_ hb9 | refine bnext ?_ hb8 | refine bnext ?_ hb7 | refine bnext ?_ hb6 | refine bnext ?_ hb5 | refine bnext ?_ hb4 | refine bnext ?_ hb3 | refine bnext ?_ hb2 | refine bnext ?_ hb1))⟩

end Go.Proofs.YtihbdndigfnhkaaDoor
