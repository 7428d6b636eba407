/- The next number of a set. -/
import Derived.Test.YtihbdndigfnhkaaDoorBit7
namespace Go.Proofs.YtihbdndigfnhkaaDoor
open Go Go.Proofs Go.RowKit
set_option linter.unusedSimpArgs false
set_option linter.unusedVariables false

theorem ret_two {a b c d : Int} (h : (a, b) = (c, d)) : Ending.returned (.tuple #[.int .i64 a, .int .i64 b]) = .returned (.tuple #[.int .i64 c, .int .i64 d]) := by
  injection h with h1 h2; rw [h1, h2]

set_option maxRecDepth 100000 in
set_option maxHeartbeats 1000000 in
theorem rNext_any (N : Int) (A : Option Addr) (n c : Nat) (ws : List Nat) (a : Int) (inn : Bool) (w : World) (hr : Rd w 1 A n (uw ws)) (hs : wsmall ws) (hn : n ≤ 1000000) :
    Calls Tryd.prog 28 #[.agg #[.int .i64 N, .slice A n c], .int .i64 a, .bool inn] w fun e w' => e = .returned (.tuple #[.int .i64 (nextR N ws a inn).1, .int .i64 (nextR N ws a inn).2]) ∧ Below w.heap.size w w' := by
  have hlen : ws.length = n := by have := hr.1; rw [uw_len] at this; omega
  by_cases hE : chkE N ws = 0
  · obtain ⟨z0, z1, z2, _⟩ := chk_zero N ws hE
    have HE := Lib.hid hE
    by_cases c1 : a < 0 ∨ N < a
    · have hv : nextR N ws a inn = (0, 2) := by unfold nextR; rw [if_neg (by simp [hE]), if_pos c1]
      rw [hv]
      clear hE hv
      rcases c1 with c1 | c1
      all_goals
        go_enter Tryd.func28, Tryd.ntmps28
        go_wp2_with fail
        refine (rCheck_any _ _ _ _ ws _ (hr.alloc _) hs hn).mono ?_
        rintro e w1 ⟨rfl, hb1⟩
        have kB := (Bk.new w #[.int .i64 N, .slice A n c] 24).to hb1
        obtain ⟨cB, fB, lB⟩ := kB.facts
        rw [HE.out]
        go_wp2_with fail
        go_ret2
        exact ⟨rfl, by (repeat' (first | exact Below.refl _ _ | assumption | refine balloc ?_ _ | refine below_drawn ?_ _ | refine below_drew ?_ | refine bnext ?_ hb24 | refine bnext ?_ hb23 | refine bnext ?_ hb22 | refine bnext ?_ hb21 | refine bnext ?_ hb20 | refine bnext ?_ hb19 | refine bnext ?_ hb18 | refine bnext ?_ hb17 | refine bnext ?_ hb16 | refine bnext ?_ hb15 | refine bnext ?_ hb14 | refine bnext ?_ hb13 | refine bnext ?_ hb12 | refine bnext ?_ hb11 | refine bnext ?_ hb10 | refine bnext ?_ hb9 | refine bnext ?_ hb8 | refine bnext ?_ hb7 | refine bnext ?_ hb6 | refine bnext ?_ hb5 | refine bnext ?_ hb4 | refine bnext ?_ hb3 | refine bnext ?_ hb2 | refine bnext ?_ hb1))⟩
    · obtain ⟨a, rfl⟩ : ∃ q : Nat, a = q := ⟨a.toNat, by omega⟩
      have c6 : (a : Int) ≤ N := by omega
      have d1 : decide ((a : Int) < 0) = false := by simp
      have d3 : decide (N < (a : Int)) = false := by simp; omega
      have Hhit := Lib.hid (fun q => nextR_hit N ws a q inn hE c6)
      have Hnone := Lib.hid (nextR_none N ws a inn hE c6)
      clear c1 hE
      have hn17 : n ≤ 17 := by omega
      have hN : N ≤ 64 * n := by omega
      have Hlen := Lib.hid hlen
      clear hlen z2
      go_enter Tryd.func28, Tryd.ntmps28
      go_wp2_with fail
      refine (rCheck_any _ _ _ _ ws _ (hr.alloc _) hs hn).mono ?_
      rintro e w1 ⟨rfl, hb1⟩
      have kB := (Bk.new w #[.int .i64 N, .slice A n c] 24).to hb1
      obtain ⟨cB, fB, lB⟩ := kB.facts
      have hr1 := (hr.alloc (.cells #[.int .i64 N, .slice A n c] 24)).below hb1 (Nat.le_refl _)
      rw [HE.out]
      go_wp2_with fail
      clear cB fB lB
      go_loopw [9] (fun i wr => ∃ k : Nat, a ≤ k ∧ (k : Int) ≤ N ∧ i = .int .i64 k ∧ Hid (∀ j, a ≤ j → j < k → wbit ws j ≠ inn) ∧ Below w1.heap.size w1 wr) (fun i _ => N.toNat - (intOf i).toNat)
      case atStart => exact ⟨a, by omega, by omega, rfl, Lib.hid (fun j h1 h2 => by omega), Below.refl _ _⟩
      case round =>
        obtain ⟨k, hak, hk, rfl, Hno, hB⟩ := hrel
        obtain ⟨cB, fB, lB⟩ := (kB.to hB).facts
        by_cases hlt : (k : Int) < N
        · by_cases hbit : wbit ws k = inn
          · have hv := Hhit.out k hak hlt Hno.out hbit
            have HV := Lib.hid hv
            have hbe : (wbit ws k == inn) = true := by rw [hbit]; simp
            clear hv hbit
            go_wp2_with (go_at_call 49; refine (rhas_any _ _ _ _ ws k _ (hr1.below hB (Nat.le_refl _)) hs (by omega) (by omega)).mono ?_; rintro e w2 ⟨rfl, hb2⟩)
            go_ret2
            rw [HV.out]
            have hb3 := bnext hB hb2
            clear hb2
            exact ⟨rfl, by (repeat' (first | exact Below.refl _ _ | assumption | refine balloc ?_ _ | refine below_drawn ?_ _ | refine below_drew ?_ | refine bnext ?_ hb24 | refine bnext ?_ hb23 | refine bnext ?_ hb22 | refine bnext ?_ hb21 | refine bnext ?_ hb20 | refine bnext ?_ hb19 | refine bnext ?_ hb18 | refine bnext ?_ hb17 | refine bnext ?_ hb16 | refine bnext ?_ hb15 | refine bnext ?_ hb14 | refine bnext ?_ hb13 | refine bnext ?_ hb12 | refine bnext ?_ hb11 | refine bnext ?_ hb10 | refine bnext ?_ hb9 | refine bnext ?_ hb8 | refine bnext ?_ hb7 | refine bnext ?_ hb6 | refine bnext ?_ hb5 | refine bnext ?_ hb4 | refine bnext ?_ hb3 | refine bnext ?_ hb2 | refine bnext ?_ hb1))⟩
          · have HN := Lib.hid hbit
            have hbe : (wbit ws k == inn) = false := by simpa using hbit
            clear hbit
            go_wp2_with (go_at_call 49; refine (rhas_any _ _ _ _ ws k _ (hr1.below hB (Nat.le_refl _)) hs (by omega) (by omega)).mono ?_; rintro e w2 ⟨rfl, hb2⟩)
            go_roundw
            case rel =>
              refine ⟨k + 1, by omega, by omega, by go_num, Lib.hid (fun j h1 h2 => ?_), bnext hB hb2⟩
              rcases Nat.lt_or_ge j k with h | h
              · exact Hno.out j h1 h
              · rw [show j = k by omega]; exact HN.out
            case measure => simp [intOf]; omega
        · go_wp2_with fail
          go_ret2
          rw [Hnone.out (fun j h1 h2 => Hno.out j h1 (by omega))]
          have hb2 := hB
          exact ⟨rfl, by (repeat' (first | exact Below.refl _ _ | assumption | refine balloc ?_ _ | refine below_drawn ?_ _ | refine below_drew ?_ | refine bnext ?_ hb24 | refine bnext ?_ hb23 | refine bnext ?_ hb22 | refine bnext ?_ hb21 | refine bnext ?_ hb20 | refine bnext ?_ hb19 | refine bnext ?_ hb18 | refine bnext ?_ hb17 | refine bnext ?_ hb16 | refine bnext ?_ hb15 | refine bnext ?_ hb14 | refine bnext ?_ hb13 | refine bnext ?_ hb12 | refine bnext ?_ hb11 | refine bnext ?_ hb10 | refine bnext ?_ hb9 | refine bnext ?_ hb8 | refine bnext ?_ hb7 | refine bnext ?_ hb6 | refine bnext ?_ hb5 | refine bnext ?_ hb4 | refine bnext ?_ hb3 | refine bnext ?_ hb2 | refine bnext ?_ hb1))⟩
  · have hd : (chkE N ws != 0) = true := by simpa using hE
    have hv : nextR N ws a inn = (0, chkE N ws) := by unfold nextR; rw [if_pos hE]
    rw [hv]
    clear hE hv
    go_enter Tryd.func28, Tryd.ntmps28
    go_wp2_with fail
    refine (rCheck_any _ _ _ _ ws _ (hr.alloc _) hs hn).mono ?_
    rintro e w1 ⟨rfl, hb1⟩
    have kB := (Bk.new w #[.int .i64 N, .slice A n c] 24).to hb1
    obtain ⟨cB, fB, lB⟩ := kB.facts
    go_wp2_with fail
    go_ret2
    exact ⟨rfl, by (repeat' (first | exact Below.refl _ _ | assumption | refine balloc ?_ _ | refine below_drawn ?_ _ | refine below_drew ?_ | refine bnext ?_ hb24 | refine bnext ?_ hb23 | refine bnext ?_ hb22 | refine bnext ?_ hb21 | refine bnext ?_ hb20 | refine bnext ?_ hb19 | refine bnext ?_ hb18 | refine bnext ?_ hb17 | refine bnext ?_ hb16 | refine bnext ?_ hb15 | refine bnext ?_ hb14 | refine bnext ?_ hb13 | refine bnext ?_ hb12 | refine bnext ?_ hb11 | refine bnext ?_ hb10 | refine bnext ?_ hb9 | refine bnext ?_ hb8 | refine bnext ?_ hb7 | refine bnext ?_ hb6 | refine bnext ?_ hb5 | refine bnext ?_ hb4 | refine bnext ?_ hb3 | refine bnext ?_ hb2 | refine bnext ?_ hb1))⟩

end Go.Proofs.YtihbdndigfnhkaaDoor
