/- Which sets are valid, by the reference; new sets. -/
import Derived.Test.YtihbdndigfnhkaaDoorBit2
namespace Go.Proofs.YtihbdndigfnhkaaDoor
open Go Go.Proofs Go.RowKit
set_option linter.unusedSimpArgs false
set_option linter.unusedVariables false

set_option maxHeartbeats 1000000 in
theorem rCheck_any (N : Int) (A : Option Addr) (n c : Nat) (ws : List Nat) (w : World) (hr : Rd w 1 A n (uw ws)) (hs : wsmall ws) (hn : n ≤ 1000000) :
    Calls Tryd.prog 22 #[.agg #[.int .i64 N, .slice A n c]] w fun e w' => e = .returned (.int .i64 (chkE N ws)) ∧ Below w.heap.size w w' := by
  have hlen : ws.length = n := by have := hr.1; rw [uw_len] at this; omega
  by_cases c1 : N < 0
  · have e : chkE N ws = 2 := by simp [chkE, c1]
    rw [e]
    go_enter Tryd.func22, Tryd.ntmps22
    go_wp2_with fail
    go_ret
    exact ⟨rfl, by (repeat' (first | exact Below.refl _ _ | assumption | refine balloc ?_ _ | refine below_drawn ?_ _ | refine below_drew ?_ | refine bnext ?_ hb24 | refine bnext ?_ hb23 | refine bnext ?_ hb22 | refine bnext ?_ hb21 | refine bnext ?_ hb20 | refine bnext ?_ hb19 | refine bnext ?_ hb18 | refine bnext ?_ hb17 | refine bnext ?_ hb16 | refine bnext ?_ hb15 | refine bnext ?_ hb14 | refine bnext ?_ hb13 | refine bnext ?_ hb12 | refine bnext ?_ hb11 | refine bnext ?_ hb10 | refine bnext ?_ hb9 | refine bnext ?_ hb8 | refine bnext ?_ hb7 | refine bnext ?_ hb6 | refine bnext ?_ hb5 | refine bnext ?_ hb4 | refine bnext ?_ hb3 | refine bnext ?_ hb2 | refine bnext ?_ hb1))⟩
  by_cases c2 : 1024 < N
  · have e : chkE N ws = 2 := by simp [chkE, c2]
    rw [e]
    go_enter Tryd.func22, Tryd.ntmps22
    go_wp2_with fail
    go_ret
    exact ⟨rfl, by (repeat' (first | exact Below.refl _ _ | assumption | refine balloc ?_ _ | refine below_drawn ?_ _ | refine below_drew ?_ | refine bnext ?_ hb24 | refine bnext ?_ hb23 | refine bnext ?_ hb22 | refine bnext ?_ hb21 | refine bnext ?_ hb20 | refine bnext ?_ hb19 | refine bnext ?_ hb18 | refine bnext ?_ hb17 | refine bnext ?_ hb16 | refine bnext ?_ hb15 | refine bnext ?_ hb14 | refine bnext ?_ hb13 | refine bnext ?_ hb12 | refine bnext ?_ hb11 | refine bnext ?_ hb10 | refine bnext ?_ hb9 | refine bnext ?_ hb8 | refine bnext ?_ hb7 | refine bnext ?_ hb6 | refine bnext ?_ hb5 | refine bnext ?_ hb4 | refine bnext ?_ hb3 | refine bnext ?_ hb2 | refine bnext ?_ hb1))⟩
  by_cases c3 : (n : Int) = (N + 63) / 64
  · obtain ⟨M, rfl⟩ : ∃ M : Nat, N = M := ⟨N.toNat, by omega⟩
    have d3 : ((n : Int) != ((M : Int) + 63) / 64) = false := by simpa using c3
    have hcb := chk_bits M ws hs (by omega)
    have e1 : ((M : Int) % 64 ≠ 0 ∧ ws.getD (ws.length - 1) 0 / 2 ^ ((M : Int) % 64).toNat ≠ 0) ↔ (M % 64 ≠ 0 ∧ ws.getD (ws.length - 1) 0 / 2 ^ (M % 64) ≠ 0) := by
      rw [show ((M : Int) % 64).toNat = M % 64 by omega]
      constructor
      · rintro ⟨a, b⟩; exact ⟨by omega, b⟩
      · rintro ⟨a, b⟩; exact ⟨by omega, b⟩
    have hE0 : (∀ i, M ≤ i → i < 64 * ws.length → wbit ws i = false) → chkE M ws = 0 := by
      intro hall
      unfold chkE
      rw [if_neg (by omega), if_neg (by omega), if_neg]
      rw [e1]; exact hcb.2 hall
    have hE3 : ∀ i, M ≤ i → i < 64 * ws.length → wbit ws i = true → chkE M ws = 3 := by
      intro i h1 h2 h3
      unfold chkE
      rw [if_neg (by omega), if_neg (by omega), if_pos]
      rw [e1]
      refine Classical.byContradiction fun h => ?_
      have := hcb.1 h i h1 h2
      rw [h3] at this
      cases this
    have HE0 := Lib.hid hE0
    have HE3 := Lib.hid hE3
    have Hlen := Lib.hid hlen
    have hM64 : M ≤ 64 * n := by omega
    have hn16 : n ≤ 17 := by omega
    clear hE0 hE3 e1 hcb hlen c3
    go_enter Tryd.func22, Tryd.ntmps22
    go_wp2_with fail
    have kB := Bk.new w #[.int .i64 M, .slice A n c] 24
    have hB0 : Below w.heap.size w (w.alloc (.cells #[.int .i64 M, .slice A n c] 24)) := by (repeat' (first | exact Below.refl _ _ | assumption | refine balloc ?_ _ | refine below_drawn ?_ _ | refine below_drew ?_ | refine bnext ?_ hb24 | refine bnext ?_ hb23 | refine bnext ?_ hb22 | refine bnext ?_ hb21 | refine bnext ?_ hb20 | refine bnext ?_ hb19 | refine bnext ?_ hb18 | refine bnext ?_ hb17 | refine bnext ?_ hb16 | refine bnext ?_ hb15 | refine bnext ?_ hb14 | refine bnext ?_ hb13 | refine bnext ?_ hb12 | refine bnext ?_ hb11 | refine bnext ?_ hb10 | refine bnext ?_ hb9 | refine bnext ?_ hb8 | refine bnext ?_ hb7 | refine bnext ?_ hb6 | refine bnext ?_ hb5 | refine bnext ?_ hb4 | refine bnext ?_ hb3 | refine bnext ?_ hb2 | refine bnext ?_ hb1))
    have hr0 := hr.alloc (.cells #[.int .i64 M, .slice A n c] 24)
    generalize w.alloc (.cells #[.int .i64 M, .slice A n c] 24) = W0 at *
    go_loopw [3] (fun i wr => ∃ q : Nat, M ≤ q ∧ q ≤ 64 * n ∧ i = .int .i64 q ∧ Hid (∀ j, M ≤ j → j < q → wbit ws j = false) ∧ Below W0.heap.size W0 wr) (fun i _ => 64 * n - (intOf i).toNat)
    case atStart => exact ⟨M, by omega, by omega, rfl, Lib.hid (fun j h1 h2 => by omega), Below.refl _ _⟩
    case round =>
      obtain ⟨q, hq, hk, rfl, Hno, hB⟩ := hrel
      obtain ⟨cB, fB, lB⟩ := (kB.to hB).facts
      have hrw := hr0.below hB (Nat.le_refl _)
      by_cases hlt : q < 64 * n
      · cases hbit : wbit ws q with
        | true =>
          have HE := Lib.hid (HE3.out q hq (by rw [Hlen.out]; exact hlt) hbit)
          have HB := Lib.hid hbit
          clear hbit
          go_wp2_with (go_at_call 49; refine (rhas_any _ _ _ _ ws q _ hrw hs (by omega) (by omega)).mono ?_; rw [HB.out]; rintro e w2 ⟨rfl, hb2⟩)
          go_ret
          exact ⟨ret_int HE.out.symm, bnext (bnext hB0 hB) hb2⟩
        | false =>
          have HB := Lib.hid hbit
          clear hbit
          go_wp2_with (go_at_call 49; refine (rhas_any _ _ _ _ ws q _ hrw hs (by omega) (by omega)).mono ?_; rw [HB.out]; rintro e w2 ⟨rfl, hb2⟩)
          go_roundw
          case rel =>
            refine ⟨q + 1, by omega, by omega, by go_num, Lib.hid (fun j h1 h2 => ?_), bnext hB hb2⟩
            rcases Nat.lt_or_ge j q with h | h
            · exact Hno.out j h1 h
            · rw [show j = q by omega]; exact HB.out
          case measure => simp [intOf]; omega
      · go_wp2_with fail
        go_ret
        refine ⟨ret_int ?_, bnext hB0 hB⟩
        rw [HE0.out]
        intro i h1 h2
        rw [Hlen.out] at h2
        exact Hno.out i h1 (by omega)
  · have e : chkE N ws = 3 := by unfold chkE; rw [if_neg (by omega), if_pos (by omega)]
    have d3 : ((n : Int) != (N + 63) / 64) = true := by simpa using c3
    rw [e]
    clear e hlen hr c3
    go_enter Tryd.func22, Tryd.ntmps22
    go_wp2_with fail
    go_ret
    exact ⟨rfl, by (repeat' (first | exact Below.refl _ _ | assumption | refine balloc ?_ _ | refine below_drawn ?_ _ | refine below_drew ?_ | refine bnext ?_ hb24 | refine bnext ?_ hb23 | refine bnext ?_ hb22 | refine bnext ?_ hb21 | refine bnext ?_ hb20 | refine bnext ?_ hb19 | refine bnext ?_ hb18 | refine bnext ?_ hb17 | refine bnext ?_ hb16 | refine bnext ?_ hb15 | refine bnext ?_ hb14 | refine bnext ?_ hb13 | refine bnext ?_ hb12 | refine bnext ?_ hb11 | refine bnext ?_ hb10 | refine bnext ?_ hb9 | refine bnext ?_ hb8 | refine bnext ?_ hb7 | refine bnext ?_ hb6 | refine bnext ?_ hb5 | refine bnext ?_ hb4 | refine bnext ?_ hb3 | refine bnext ?_ hb2 | refine bnext ?_ hb1))⟩

end Go.Proofs.YtihbdndigfnhkaaDoor
