/- How many numbers of a range are in a set; new sets; sets in new memory. -/
import Derived.Test.YtihbdndigfnhkaaDoorBit4
namespace Go.Proofs.YtihbdndigfnhkaaDoor
open Go Go.Proofs Go.RowKit
set_option linter.unusedSimpArgs false
set_option linter.unusedVariables false

set_option maxRecDepth 100000 in
set_option maxHeartbeats 1000000 in
theorem Count_any (N : Int) (A : Option Addr) (n c : Nat) (ws : List Nat) (a b : Int) (w : World) (hr : Rd w 1 A n (uw ws)) (hs : wsmall ws) (hn : n ≤ 1000000) :
    Calls Tryd.prog 25 #[.agg #[.int .i64 N, .slice A n c], .int .i64 a, .int .i64 b] w fun e w' => e = .returned (.tuple #[.int .i64 (countR N ws a b).1, .int .i64 (countR N ws a b).2]) ∧ Below w.heap.size w w' := by
  have hlen : ws.length = n := by have := hr.1; rw [uw_len] at this; omega
  by_cases hE : chkE N ws = 0
  · obtain ⟨z0, z1, z2, _⟩ := chk_zero N ws hE
    have HE := Lib.hid hE
    by_cases c1 : a < 0 ∨ b < a ∨ N < b
    · have hv : countR N ws a b = (0, 2) := by simp only [countR]; rw [if_neg (by simp [hE]), if_pos c1]
      rw [hv]
      clear hE hv
      have c1' : a < 0 ∨ (0 ≤ a ∧ b < a) ∨ (0 ≤ a ∧ a ≤ b ∧ N < b) := by omega
      clear c1
      rcases c1' with c1 | ⟨c1, c2⟩ | ⟨c1, c2, c3⟩
      all_goals
        go_enter Tryd.func25, Tryd.ntmps25
        go_wp2_with fail
        refine (Check_any _ _ _ _ ws _ (hr.alloc _) hs hn).mono ?_
        rintro e w1 ⟨rfl, hb1⟩
        have kB := (Bk.new w #[.int .i64 N, .slice A n c] 24).to hb1
        obtain ⟨cB, fB, lB⟩ := kB.facts
        rw [HE.out]
        go_wp2_with fail
        go_ret2
        exact ⟨rfl, by (repeat' (first | exact Below.refl _ _ | assumption | refine balloc ?_ _ | refine below_drawn ?_ _ | refine below_drew ?_ | refine bnext ?_ hb24 | refine bnext ?_ hb23 | refine bnext ?_ hb22 | refine bnext ?_ hb21 | refine bnext ?_ hb20 | refine bnext ?_ hb19 | refine bnext ?_ hb18 | refine bnext ?_ hb17 | refine bnext ?_ hb16 | refine bnext ?_ hb15 | refine bnext ?_ hb14 | refine bnext ?_ hb13 | refine bnext ?_ hb12 | refine bnext ?_ hb11 | refine bnext ?_ hb10 | refine bnext ?_ hb9 | refine bnext ?_ hb8 | refine bnext ?_ hb7 | refine bnext ?_ hb6 | refine bnext ?_ hb5 | refine bnext ?_ hb4 | refine bnext ?_ hb3 | refine bnext ?_ hb2 | refine bnext ?_ hb1))⟩
    · have hv : countR N ws a b = ((cnt ws a.toNat b.toNat : Int), 0) := by simp only [countR]; rw [if_neg (by simp [hE]), if_neg c1]
      rw [hv]
      clear hE hv
      have c2 : 0 ≤ a := by omega
      have c3 : a ≤ b := by omega
      have c4 : b ≤ N := by omega
      clear c1
      have hcw : cntW ws a b n = cnt ws a.toNat b.toNat := by
        have := cntW_all ws a.toNat b.toNat n (by omega)
        rwa [show ((a.toNat : Nat) : Int) = a by omega, show ((b.toNat : Nat) : Int) = b by omega] at this
      have hn17 : n ≤ 17 := by omega
      have Hcw := Lib.hid hcw
      have Hlen := Lib.hid hlen
      clear hcw hlen z2
      go_enter Tryd.func25, Tryd.ntmps25
      go_wp2_with fail
      refine (Check_any _ _ _ _ ws _ (hr.alloc _) hs hn).mono ?_
      rintro e w1 ⟨rfl, hb1⟩
      have kB := (Bk.new w #[.int .i64 N, .slice A n c] 24).to hb1
      have hr1 := (hr.alloc (.cells #[.int .i64 N, .slice A n c] 24)).below hb1 (Nat.le_refl _)
      obtain ⟨cB, fB, lB⟩ := kB.facts
      rw [HE.out]
      go_wp2_with fail
      go_loop [9, 33] (fun s i => ∃ k : Nat, k ≤ n ∧ i = .int .i64 k ∧ s = .int .i64 (cntW ws a b k : Int)) (fun _ i => n - (intOf i).toNat)
      case atStart => exact ⟨0, by omega, rfl, by simp [cntW]⟩
      case round =>
        obtain ⟨k, hk, rfl, rfl⟩ := hrel
        by_cases hlt : k < n
        · obtain ⟨g, off, x, rfl, hg, hx, hxs, hc⟩ := hr1.word hs hlt
          have hsu := cntW_succ ws hs a b c2 k (by rw [Hlen.out]; exact hlt)
          rw [hx] at hsu
          have hle := cntW_le ws a b k
          have hpl := pop_le (x &&& maskV (mkLo k a) (mkHi k b))
          have hba : bits .and .u64 (x : Int) (maskV (mkLo k a) (mkHi k b) : Int) = ((x &&& maskV (mkLo k a) (mkHi k b) : Nat) : Int) := band _ _ _ rfl hxs (mask_lt _ _ _)
          have hlx : x &&& maskV (mkLo k a) (mkHi k b) < 18446744073709551616 := Nat.lt_of_le_of_lt Nat.and_le_left hxs
          have Hsu := Lib.hid hsu
          clear hsu hx
          go_wp2_with (first | (go_at_call 45; refine (mask_any _ _ _ _ (by omega) (by omega) (by omega) (by omega) (by omega) (by omega)).mono ?_; rintro e w' ⟨rfl, rfl⟩) | (go_at_call 51; refine (OnesCount_any _ _ hlx).mono ?_; rintro e w' ⟨rfl, rfl⟩))
          go_round
          case rel => exact ⟨k + 1, by omega, by go_num, by rw [Hsu.out]; go_num⟩
          case measure => simp [intOf]; omega
        · obtain rfl : k = n := by omega
          go_wp2_with fail
          go_ret2
          refine ⟨?_, by (repeat' (first | exact Below.refl _ _ | assumption | refine balloc ?_ _ | refine below_drawn ?_ _ | refine below_drew ?_ | refine bnext ?_ hb24 | refine bnext ?_ hb23 | refine bnext ?_ hb22 | refine bnext ?_ hb21 | refine bnext ?_ hb20 | refine bnext ?_ hb19 | refine bnext ?_ hb18 | refine bnext ?_ hb17 | refine bnext ?_ hb16 | refine bnext ?_ hb15 | refine bnext ?_ hb14 | refine bnext ?_ hb13 | refine bnext ?_ hb12 | refine bnext ?_ hb11 | refine bnext ?_ hb10 | refine bnext ?_ hb9 | refine bnext ?_ hb8 | refine bnext ?_ hb7 | refine bnext ?_ hb6 | refine bnext ?_ hb5 | refine bnext ?_ hb4 | refine bnext ?_ hb3 | refine bnext ?_ hb2 | refine bnext ?_ hb1))⟩
          rw [← Hcw.out]
          rfl
  · have hd : (chkE N ws != 0) = true := by simpa using hE
    have hv : countR N ws a b = (0, chkE N ws) := by simp only [countR]; rw [if_pos hE]
    rw [hv]
    clear hE hv
    go_enter Tryd.func25, Tryd.ntmps25
    go_wp2_with fail
    refine (Check_any _ _ _ _ ws _ (hr.alloc _) hs hn).mono ?_
    rintro e w1 ⟨rfl, hb1⟩
    have kB := (Bk.new w #[.int .i64 N, .slice A n c] 24).to hb1
    obtain ⟨cB, fB, lB⟩ := kB.facts
    go_wp2_with fail
    go_ret2
    exact ⟨rfl, by (repeat' (first | exact Below.refl _ _ | assumption | refine balloc ?_ _ | refine below_drawn ?_ _ | refine below_drew ?_ | refine bnext ?_ hb24 | refine bnext ?_ hb23 | refine bnext ?_ hb22 | refine bnext ?_ hb21 | refine bnext ?_ hb20 | refine bnext ?_ hb19 | refine bnext ?_ hb18 | refine bnext ?_ hb17 | refine bnext ?_ hb16 | refine bnext ?_ hb15 | refine bnext ?_ hb14 | refine bnext ?_ hb13 | refine bnext ?_ hb12 | refine bnext ?_ hb11 | refine bnext ?_ hb10 | refine bnext ?_ hb9 | refine bnext ?_ hb8 | refine bnext ?_ hb7 | refine bnext ?_ hb6 | refine bnext ?_ hb5 | refine bnext ?_ hb4 | refine bnext ?_ hb3 | refine bnext ?_ hb2 | refine bnext ?_ hb1))⟩
end Go.Proofs.YtihbdndigfnhkaaDoor
