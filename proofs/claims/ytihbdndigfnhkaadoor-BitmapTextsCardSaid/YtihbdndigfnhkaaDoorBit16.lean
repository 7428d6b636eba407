/- The first aligned run: the reference. -/
import Derived.Test.YtihbdndigfnhkaaDoorBit15
namespace Go.Proofs.YtihbdndigfnhkaaDoor
open Go Go.Proofs Go.RowKit
set_option linter.unusedSimpArgs false
set_option linter.unusedVariables false

theorem okB_succ (ws : List Nat) (inn : Bool) (m t : Nat) : okB ws inn (m + 1) t = (okB ws inn m t && (wbit ws (t + m) == inn)) := by
  simp [okB, List.range_succ]

set_option maxHeartbeats 1000000 in
set_option maxRecDepth 100000 in
theorem rRun_any (N : Int) (A : Option Addr) (n c : Nat) (ws : List Nat) (a b : Int) (inn : Bool) (w : World) (hr : Rd w 1 A n (uw ws)) (hs : wsmall ws) (hn : n ≤ 1000000) :
    Calls Tryd.prog 17 #[.agg #[.int .i64 N, .slice A n c], .int .i64 a, .int .i64 b, .bool inn] w fun e w' => e = .returned (.tuple #[.int .i64 (runR N ws a b inn).1, .int .i64 (runR N ws a b inn).2]) ∧ Below w.heap.size w w' := by
  have hlen : ws.length = n := by have := hr.1; rw [uw_len] at this; omega
  go_enter Tryd.func17, Tryd.ntmps17
  go_wp2_with fail
  refine (rCheck_any _ _ _ _ ws _ (hr.alloc _) hs hn).mono ?_
  rintro e w1 ⟨rfl, hb1⟩
  have kB := (Bk.new w #[.int .i64 N, .slice A n c] 24).to hb1
  obtain ⟨cB, fB, lB⟩ := kB.facts
  have Hz1 : Hid (chkE N ws ≠ 0 → runR N ws a b inn = (0, chkE N ws)) := Lib.hid fun h => by unfold runR; rw [if_pos h]
  have Hz2 : Hid (chkE N ws = 0 → (a < 1 ∨ 1024 < a ∨ b < 1 ∨ 1024 < b) → runR N ws a b inn = (0, 2)) := Lib.hid fun h h' => by unfold runR; rw [if_neg (by simp [h]), if_pos h']
  have hB1 : Below w.heap.size w w1 := by (repeat' (first | exact Below.refl _ _ | assumption | refine balloc ?_ _ | refine below_drawn ?_ _ | refine below_drew ?_ | refine bnext ?_ hb24 | refine bnext ?_ hb23 | refine bnext ?_ hb22 | refine bnext ?_ hb21 | refine bnext ?_ hb20 | refine bnext ?_ hb19 | refine bnext ?_ hb18 | refine bnext ?_ hb17 | refine bnext ?_ hb16 | refine bnext ?_ hb15 | refine bnext ?_ hb14 | refine bnext ?_ hb13 | refine bnext ?_ hb12 | refine bnext ?_ hb11 | refine bnext ?_ hb10 | refine bnext ?_ hb9 | refine bnext ?_ hb8 | refine bnext ?_ hb7 | refine bnext ?_ hb6 | refine bnext ?_ hb5 | refine bnext ?_ hb4 | refine bnext ?_ hb3 | refine bnext ?_ hb2 | refine bnext ?_ hb1))
  have hr1 := hr.below hB1 (Nat.le_refl _)
  clear hb1
  go_wp2_with fail
  all_goals try (
    go_ret2
    first
      | (have hE : chkE N ws ≠ 0 := by simp_all
         exact ⟨by rw [Hz1.out hE]; rfl, hB1⟩)
      | (have hE : chkE N ws = 0 := by simp_all
         exact ⟨by rw [Hz2.out hE (by omega)]; rfl, hB1⟩))
  have hE : chkE N ws = 0 := by simp_all
  have hab : 1 ≤ a ∧ a ≤ 1024 ∧ 1 ≤ b ∧ b ≤ 1024 := by omega
  obtain ⟨z0, z1, z2, _⟩ := chk_zero N ws hE
  clear Hz1 Hz2
  obtain ⟨a, rfl⟩ : ∃ q : Nat, a = q := ⟨a.toNat, by omega⟩
  obtain ⟨b, rfl⟩ : ∃ q : Nat, b = q := ⟨b.toNat, by omega⟩
  obtain ⟨N, rfl⟩ : ∃ q : Nat, N = q := ⟨N.toNat, by omega⟩
  have Hhit := Lib.hid (fun q => runR_hit N ws a b q inn hE (by omega) (by omega) (by omega) (by omega))
  have Hnone := Lib.hid (runR_none N ws a b inn hE (by omega) (by omega) (by omega) (by omega))
  have hN64 : N ≤ 64 * n := by omega
  have hN1 : N ≤ 1024 := by omega
  obtain ⟨ha1, ha2, hb1, hb2⟩ : 1 ≤ a ∧ a ≤ 1024 ∧ 1 ≤ b ∧ b ≤ 1024 := by omega
  clear hE z0 z1 z2 hab hlen cB fB lB
  go_loopw [11] (fun i wr => ∃ k t : Nat, Hid (t = k * b) ∧ t ≤ 3000 ∧ i = .int .i64 t ∧ Hid (∀ j, j < k → okB ws inn a (j * b) = false) ∧ Below w1.heap.size w1 wr) (fun i _ => 4000 - (intOf i).toNat)
  case atStart => exact ⟨0, 0, Lib.hid (by simp), by omega, rfl, Lib.hid (fun j h => by omega), Below.refl _ _⟩
  case round =>
    obtain ⟨k, t, Ht, ht, rfl, Hno, hB⟩ := hrel
    obtain ⟨cB, fB, lB⟩ := (kB.to hB).facts
    by_cases hlt : t + a ≤ N
    · have hd : decide ((t : Int) + (a : Int) ≤ (N : Int)) = true := by simp; omega
      go_wp2_with fail
      clear cB fB lB
      go_loopw [12, 13] (fun s12 s13 wr2 => ∃ m : Nat, m ≤ a ∧ s12 = .bool (okB ws inn m t) ∧ s13 = .int .i64 (t + m : Nat) ∧ Below w1.heap.size w1 wr2) (fun _ i _ => t + a - (intOf i).toNat)
      case atStart => exact ⟨0, by omega, by simp [okB], by simp, hB⟩
      case round =>
        obtain ⟨m, hm, rfl, rfl, hB2⟩ := hrel
        obtain ⟨cB, fB, lB⟩ := (kB.to hB2).facts
        have HS := Lib.hid (okB_succ ws inn m t)
        by_cases hlm : m < a
        · rcases hall : okB ws inn m t with _ | _
          · rw [hall, Bool.false_and] at HS
            go_wp2_with fail
            go_roundw
            case rel => exact ⟨m + 1, by omega, by rw [HS.out], by go_num, hB2⟩
            case measure => simp [intOf]; omega
          · rw [hall, Bool.true_and] at HS
            clear hall
            go_wp2_with (go_at_call 49; refine (rhas_any _ _ _ _ ws (t + m) _ (hr1.below hB2 (Nat.le_refl _)) hs (by omega) (by omega)).mono ?_; rintro e w2 ⟨rfl, hb3⟩)
            go_roundw
            case rel => first | exact ⟨m + 1, by omega, by rw [HS.out], by go_num, bnext hB2 hb3⟩ | ((repeat apply Exists.intro); exact ⟨⟨m + 1, by omega, by rw [HS.out], by go_num, bnext hB2 hb3⟩, rfl⟩)
            case measure => simp [intOf]; omega
        · obtain rfl : m = a := by omega
          clear HS
          rcases hall : okB ws inn m t with _ | _
          · have HA := Lib.hid hall
            clear hall
            go_wp2_with fail
            go_roundw
            case rel =>
              refine ⟨k + 1, t + b, Lib.hid (by rw [Ht.out, Nat.succ_mul]), by omega, by go_num, Lib.hid (fun j hj => ?_), hB2⟩
              rcases Nat.lt_or_ge j k with h | h
              · exact Hno.out j h
              · rw [show j = k by omega, ← Ht.out]; exact HA.out
            case measure => simp [intOf]; omega
          · have HA := Lib.hid hall
            clear hall
            go_wp2_with fail
            go_ret2
            have hv := Hhit.out k (by rw [← Ht.out]; omega) Hno.out (by rw [← Ht.out]; exact HA.out)
            exact ⟨by rw [hv, ← Ht.out]; rfl, bnext hB1 hB2⟩
    · go_wp2_with fail
      go_ret2
      have hv := Hnone.out (fun j hj => by
        rcases Nat.lt_or_ge j k with h | h
        · exact Hno.out j h
        · have : k * b ≤ j * b := Nat.mul_le_mul_right _ h
          rw [← Ht.out] at this
          omega)
      exact ⟨by rw [hv]; rfl, bnext hB1 hB⟩
end Go.Proofs.YtihbdndigfnhkaaDoor
