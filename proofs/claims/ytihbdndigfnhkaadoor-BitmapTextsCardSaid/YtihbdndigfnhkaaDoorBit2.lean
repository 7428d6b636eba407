/- Sets of small numbers: what is in them, and which are valid. -/
import Derived.Test.YtihbdndigfnhkaaDoorBit1
namespace Go.Proofs.YtihbdndigfnhkaaDoor
open Go Go.Proofs Go.RowKit
set_option linter.unusedSimpArgs false
set_option linter.unusedVariables false

/-- Words as cells. -/
def uw (ws : List Nat) : List Value := ws.map fun x : Nat => Value.int .u64 (x : Int)
def wsmall (ws : List Nat) : Prop := ∀ x ∈ ws, x < 18446744073709551616
theorem uw_len (ws : List Nat) : (uw ws).length = ws.length := by simp [uw]
/-- Whether number i is in the set with these words. -/
def wbit (ws : List Nat) (i : Nat) : Bool := (ws.getD (i / 64) 0).testBit (i % 64)
theorem Rd.word {w : World} {A : Option Addr} {n : Nat} {ws : List Nat} (h : Rd w 1 A n (uw ws)) (hs : wsmall ws) {i : Nat} (hi : i < n) :
    ∃ b off x, A = some ⟨b, off, none⟩ ∧ b < w.heap.size ∧ ws.getD i 0 = x ∧ x < 18446744073709551616 ∧ w.cell? ⟨b, off + i, none⟩ = some (.int .u64 (x : Int)) := by
  obtain ⟨b, off, e, hb, hc⟩ := h.2 (by omega)
  have hl : i < ws.length := by have := h.1; rw [uw_len] at this; omega
  have hr : ws[i]? = some ws[i] := List.getElem?_eq_getElem hl
  exact ⟨b, off, ws[i], e, hb, by rw [List.getD_eq_getElem?_getD, hr]; rfl, hs _ (List.getElem_mem hl), hc _ _ (by simp [uw, hr])⟩
theorem bit_test (x k : Nat) (hx : x < 18446744073709551616) : (bits .and .u64 ((x : Int) / 2 ^ k) 1 == 1) = x.testBit k := by
  have h : x / 2 ^ k ≤ x := Nat.div_le_self _ _
  have := band ((x : Int) / 2 ^ k) (x / 2 ^ k) 1 (by simp) (by omega) (by omega)
  rw [show ((1 : Nat) : Int) = 1 from rfl] at this
  rw [this, nat_mask1, Nat.testBit_eq_decide_div_mod_eq]
  generalize x / 2 ^ k % 2 = q
  rw [Bool.eq_iff_iff]
  simp
  omega

theorem has_any (N : Int) (A : Option Addr) (n c : Nat) (ws : List Nat) (i : Nat) (w : World) (hr : Rd w 1 A n (uw ws)) (hs : wsmall ws) (hi : i < 64 * n) (hi' : i < 100000) :
    Calls Tryd.prog 48 #[.agg #[.int .i64 N, .slice A n c], .int .i64 i] w fun e w' => e = .returned (.bool (wbit ws i)) ∧ Below w.heap.size w w' := by
  obtain ⟨b, off, x, rfl, hb, hx, hxs, hc⟩ := hr.word hs (i := i / 64) (by omega)
  have Hx := Lib.hid hx
  clear hx hr
  have hi64 : (i : Int) / 64 < (n : Int) := by omega
  go_enter Tryd.func48, Tryd.ntmps48
  go_wp2
  go_ret
  exact ⟨congrArg (fun z => Ending.returned (.bool z)) (by rw [wbit, Hx.out]; exact bit_test x (i % 64) hxs), by (repeat' (first | exact Below.refl _ _ | assumption | refine balloc ?_ _ | refine below_drawn ?_ _ | refine below_drew ?_ | refine bnext ?_ hb24 | refine bnext ?_ hb23 | refine bnext ?_ hb22 | refine bnext ?_ hb21 | refine bnext ?_ hb20 | refine bnext ?_ hb19 | refine bnext ?_ hb18 | refine bnext ?_ hb17 | refine bnext ?_ hb16 | refine bnext ?_ hb15 | refine bnext ?_ hb14 | refine bnext ?_ hb13 | refine bnext ?_ hb12 | refine bnext ?_ hb11 | refine bnext ?_ hb10 | refine bnext ?_ hb9 | refine bnext ?_ hb8 | refine bnext ?_ hb7 | refine bnext ?_ hb6 | refine bnext ?_ hb5 | refine bnext ?_ hb4 | refine bnext ?_ hb3 | refine bnext ?_ hb2 | refine bnext ?_ hb1))⟩
theorem rhas_any (N : Int) (A : Option Addr) (n c : Nat) (ws : List Nat) (i : Nat) (w : World) (hr : Rd w 1 A n (uw ws)) (hs : wsmall ws) (hi : i < 64 * n) (hi' : i < 100000) :
    Calls Tryd.prog 49 #[.agg #[.int .i64 N, .slice A n c], .int .i64 i] w fun e w' => e = .returned (.bool (wbit ws i)) ∧ Below w.heap.size w w' := by
  obtain ⟨b, off, x, rfl, hb, hx, hxs, hc⟩ := hr.word hs (i := i / 64) (by omega)
  have Hx := Lib.hid hx
  clear hx hr
  have hi64 : (i : Int) / 64 < (n : Int) := by omega
  go_enter Tryd.func49, Tryd.ntmps49
  go_wp2
  go_ret
  exact ⟨congrArg (fun z => Ending.returned (.bool z)) (by rw [wbit, Hx.out]; exact bit_test x (i % 64) hxs), by (repeat' (first | exact Below.refl _ _ | assumption | refine balloc ?_ _ | refine below_drawn ?_ _ | refine below_drew ?_ | refine bnext ?_ hb24 | refine bnext ?_ hb23 | refine bnext ?_ hb22 | refine bnext ?_ hb21 | refine bnext ?_ hb20 | refine bnext ?_ hb19 | refine bnext ?_ hb18 | refine bnext ?_ hb17 | refine bnext ?_ hb16 | refine bnext ?_ hb15 | refine bnext ?_ hb14 | refine bnext ?_ hb13 | refine bnext ?_ hb12 | refine bnext ?_ hb11 | refine bnext ?_ hb10 | refine bnext ?_ hb9 | refine bnext ?_ hb8 | refine bnext ?_ hb7 | refine bnext ?_ hb6 | refine bnext ?_ hb5 | refine bnext ?_ hb4 | refine bnext ?_ hb3 | refine bnext ?_ hb2 | refine bnext ?_ hb1))⟩

/-- The error of a set. -/
def chkE (N : Int) (ws : List Nat) : Int :=
  if N < 0 ∨ 1024 < N then 2 else if (ws.length : Int) ≠ (N + 63) / 64 then 3 else if N % 64 ≠ 0 ∧ ws.getD (ws.length - 1) 0 / 2 ^ (N % 64).toNat ≠ 0 then 3 else 0
theorem chk_bits (N : Nat) (ws : List Nat) (hs : wsmall ws) (hl : ws.length = (N + 63) / 64) :
    (¬ (N % 64 ≠ 0 ∧ ws.getD (ws.length - 1) 0 / 2 ^ (N % 64) ≠ 0)) ↔ ∀ i, N ≤ i → i < 64 * ws.length → wbit ws i = false := by
  constructor
  · intro h i h1 h2
    have hN : N % 64 ≠ 0 := by omega
    have hz : ws.getD (ws.length - 1) 0 / 2 ^ (N % 64) = 0 := Classical.byContradiction fun hc => h ⟨hN, hc⟩
    have hlt : ws.getD (ws.length - 1) 0 < 2 ^ (N % 64) := by
      rcases Nat.div_eq_zero_iff.1 hz with h' | h'
      · exact absurd h' (Nat.ne_of_gt (Nat.two_pow_pos _))
      · exact h'
    unfold wbit
    rw [show i / 64 = ws.length - 1 by omega]
    exact Nat.testBit_lt_two_pow (Nat.lt_of_lt_of_le hlt (Nat.pow_le_pow_right (by omega) (by omega)))
  · rintro h ⟨hN, hz⟩
    apply hz
    rw [Nat.div_eq_zero_iff]
    right
    apply Nat.lt_pow_two_of_testBit
    intro j hj
    by_cases hj64 : j < 64
    · have := h (64 * (ws.length - 1) + j) (by omega) (by omega)
      unfold wbit at this
      rwa [show (64 * (ws.length - 1) + j) / 64 = ws.length - 1 by omega, show (64 * (ws.length - 1) + j) % 64 = j by omega] at this
    · have hx : ws.getD (ws.length - 1) 0 < 18446744073709551616 := by
        rw [List.getD_eq_getElem?_getD]
        cases he : ws[ws.length - 1]? with
        | none => simp
        | some x => exact hs x (List.mem_of_getElem? he)
      exact Nat.testBit_lt_two_pow (Nat.lt_of_lt_of_le hx (by
        have := Nat.pow_le_pow_right (n := 2) (by omega) (show 64 ≤ j by omega)
        simpa using this))

set_option maxHeartbeats 400000 in
theorem Check_any (N : Int) (A : Option Addr) (n c : Nat) (ws : List Nat) (w : World) (hr : Rd w 1 A n (uw ws)) (hs : wsmall ws) (hn : n ≤ 1000000) :
    Calls Tryd.prog 21 #[.agg #[.int .i64 N, .slice A n c]] w fun e w' => e = .returned (.int .i64 (chkE N ws)) ∧ Below w.heap.size w w' := by
  have hlen : ws.length = n := by have := hr.1; rw [uw_len] at this; omega
  by_cases c1 : N < 0
  · have e : chkE N ws = 2 := by simp [chkE, c1]
    rw [e]
    go_enter Tryd.func21, Tryd.ntmps21
    go_wp2
    go_ret
    exact ⟨rfl, by (repeat' (first | exact Below.refl _ _ | assumption | refine balloc ?_ _ | refine below_drawn ?_ _ | refine below_drew ?_ | refine bnext ?_ hb24 | refine bnext ?_ hb23 | refine bnext ?_ hb22 | refine bnext ?_ hb21 | refine bnext ?_ hb20 | refine bnext ?_ hb19 | refine bnext ?_ hb18 | refine bnext ?_ hb17 | refine bnext ?_ hb16 | refine bnext ?_ hb15 | refine bnext ?_ hb14 | refine bnext ?_ hb13 | refine bnext ?_ hb12 | refine bnext ?_ hb11 | refine bnext ?_ hb10 | refine bnext ?_ hb9 | refine bnext ?_ hb8 | refine bnext ?_ hb7 | refine bnext ?_ hb6 | refine bnext ?_ hb5 | refine bnext ?_ hb4 | refine bnext ?_ hb3 | refine bnext ?_ hb2 | refine bnext ?_ hb1))⟩
  by_cases c2 : 1024 < N
  · have e : chkE N ws = 2 := by simp [chkE, c2]
    rw [e]
    go_enter Tryd.func21, Tryd.ntmps21
    go_wp2
    go_ret
    exact ⟨rfl, by (repeat' (first | exact Below.refl _ _ | assumption | refine balloc ?_ _ | refine below_drawn ?_ _ | refine below_drew ?_ | refine bnext ?_ hb24 | refine bnext ?_ hb23 | refine bnext ?_ hb22 | refine bnext ?_ hb21 | refine bnext ?_ hb20 | refine bnext ?_ hb19 | refine bnext ?_ hb18 | refine bnext ?_ hb17 | refine bnext ?_ hb16 | refine bnext ?_ hb15 | refine bnext ?_ hb14 | refine bnext ?_ hb13 | refine bnext ?_ hb12 | refine bnext ?_ hb11 | refine bnext ?_ hb10 | refine bnext ?_ hb9 | refine bnext ?_ hb8 | refine bnext ?_ hb7 | refine bnext ?_ hb6 | refine bnext ?_ hb5 | refine bnext ?_ hb4 | refine bnext ?_ hb3 | refine bnext ?_ hb2 | refine bnext ?_ hb1))⟩
  by_cases c3 : (n : Int) = (N + 63) / 64
  · obtain ⟨M, rfl⟩ : ∃ M : Nat, N = M := ⟨N.toNat, by omega⟩
    have d3 : ((n : Int) != ((M : Int) + 63) / 64) = false := by simpa using c3
    by_cases c4 : M % 64 = 0
    · have e : chkE M ws = 0 := by unfold chkE; rw [if_neg (by omega), if_neg (by omega), if_neg (by omega)]
      rw [e]
      have d4 : ((M : Int) % 64 != 0) = false := by simp; omega
      clear e hlen hr c4 c3
      go_enter Tryd.func21, Tryd.ntmps21
      go_wp2_with fail
      go_quiet ((go_at_call 50; exact Calls.quiet_of_same ((words_any _ _ (by omega) (by omega)).mono fun _ _ h => ⟨h.1, h.2.symm⟩)))
      go_wp2_with fail
      go_ret
      exact ⟨rfl, by (repeat' (first | exact Below.refl _ _ | assumption | refine balloc ?_ _ | refine below_drawn ?_ _ | refine below_drew ?_ | refine bnext ?_ hb24 | refine bnext ?_ hb23 | refine bnext ?_ hb22 | refine bnext ?_ hb21 | refine bnext ?_ hb20 | refine bnext ?_ hb19 | refine bnext ?_ hb18 | refine bnext ?_ hb17 | refine bnext ?_ hb16 | refine bnext ?_ hb15 | refine bnext ?_ hb14 | refine bnext ?_ hb13 | refine bnext ?_ hb12 | refine bnext ?_ hb11 | refine bnext ?_ hb10 | refine bnext ?_ hb9 | refine bnext ?_ hb8 | refine bnext ?_ hb7 | refine bnext ?_ hb6 | refine bnext ?_ hb5 | refine bnext ?_ hb4 | refine bnext ?_ hb3 | refine bnext ?_ hb2 | refine bnext ?_ hb1))⟩
    · obtain ⟨b, off, x, rfl, hb, hx, hxs, hc⟩ := hr.word hs (i := n - 1) (by omega)
      have d4 : ((M : Int) % 64 != 0) = true := by simp; omega
      have hwr : IntKind.i64.wrap ((n : Int) - 1) = ((n - 1 : Nat) : Int) := by rw [IntWalk.i64_in _ (by omega)]; omega
      rw [← hlen] at hx
      by_cases c5 : x / 2 ^ (M % 64) = 0
      · have e : chkE M ws = 0 := by
          unfold chkE
          rw [if_neg (by omega), if_neg (by omega), if_neg]
          rintro ⟨_, h⟩
          rw [hx, show ((M : Int) % 64).toNat = M % 64 by omega] at h
          exact h c5
        rw [e]
        have d5 : ((x : Int) / 2 ^ (M % 64) != 0) = false := by
          have : (x : Int) / 2 ^ (M % 64) = ((x / 2 ^ (M % 64) : Nat) : Int) := by simp
          rw [this, c5]; rfl
        have hn1 : 1 ≤ n := by omega
        clear e hlen c3 c4 hr hwr
        have HX := Lib.hid hx
        clear hx c5
        go_enter Tryd.func21, Tryd.ntmps21
        go_wp2_with fail
        go_quiet ((go_at_call 50; exact Calls.quiet_of_same ((words_any _ _ (by omega) (by omega)).mono fun _ _ h => ⟨h.1, h.2.symm⟩)))
        go_wp2_with fail
        go_ret
        exact ⟨rfl, by (repeat' (first | exact Below.refl _ _ | assumption | refine balloc ?_ _ | refine below_drawn ?_ _ | refine below_drew ?_ | refine bnext ?_ hb24 | refine bnext ?_ hb23 | refine bnext ?_ hb22 | refine bnext ?_ hb21 | refine bnext ?_ hb20 | refine bnext ?_ hb19 | refine bnext ?_ hb18 | refine bnext ?_ hb17 | refine bnext ?_ hb16 | refine bnext ?_ hb15 | refine bnext ?_ hb14 | refine bnext ?_ hb13 | refine bnext ?_ hb12 | refine bnext ?_ hb11 | refine bnext ?_ hb10 | refine bnext ?_ hb9 | refine bnext ?_ hb8 | refine bnext ?_ hb7 | refine bnext ?_ hb6 | refine bnext ?_ hb5 | refine bnext ?_ hb4 | refine bnext ?_ hb3 | refine bnext ?_ hb2 | refine bnext ?_ hb1))⟩
      · have e : chkE M ws = 3 := by
          unfold chkE
          rw [if_neg (by omega), if_neg (by omega), if_pos]
          refine ⟨by omega, ?_⟩
          rw [hx, show ((M : Int) % 64).toNat = M % 64 by omega]
          exact c5
        rw [e]
        have d5 : ((x : Int) / 2 ^ (M % 64) != 0) = true := by
          have : (x : Int) / 2 ^ (M % 64) = ((x / 2 ^ (M % 64) : Nat) : Int) := by simp
          rw [this, bne_iff_ne]; omega
        have hn1 : 1 ≤ n := by omega
        clear e hlen c3 c4 hr hwr
        have HX := Lib.hid hx
        clear hx c5
        go_enter Tryd.func21, Tryd.ntmps21
        go_wp2_with fail
        go_quiet ((go_at_call 50; exact Calls.quiet_of_same ((words_any _ _ (by omega) (by omega)).mono fun _ _ h => ⟨h.1, h.2.symm⟩)))
        go_wp2_with fail
        go_ret
        exact ⟨rfl, by (repeat' (first | exact Below.refl _ _ | assumption | refine balloc ?_ _ | refine below_drawn ?_ _ | refine below_drew ?_ | refine bnext ?_ hb24 | refine bnext ?_ hb23 | refine bnext ?_ hb22 | refine bnext ?_ hb21 | refine bnext ?_ hb20 | refine bnext ?_ hb19 | refine bnext ?_ hb18 | refine bnext ?_ hb17 | refine bnext ?_ hb16 | refine bnext ?_ hb15 | refine bnext ?_ hb14 | refine bnext ?_ hb13 | refine bnext ?_ hb12 | refine bnext ?_ hb11 | refine bnext ?_ hb10 | refine bnext ?_ hb9 | refine bnext ?_ hb8 | refine bnext ?_ hb7 | refine bnext ?_ hb6 | refine bnext ?_ hb5 | refine bnext ?_ hb4 | refine bnext ?_ hb3 | refine bnext ?_ hb2 | refine bnext ?_ hb1))⟩
  · have e : chkE N ws = 3 := by unfold chkE; rw [if_neg (by omega), if_pos (by omega)]
    have d3 : ((n : Int) != (N + 63) / 64) = true := by simpa using c3
    rw [e]
    clear e hlen hr c3
    go_enter Tryd.func21, Tryd.ntmps21
    go_wp2_with fail
    go_quiet ((go_at_call 50; exact Calls.quiet_of_same ((words_any _ _ (by omega) (by omega)).mono fun _ _ h => ⟨h.1, h.2.symm⟩)))
    go_wp2_with fail
    go_ret
    exact ⟨rfl, by (repeat' (first | exact Below.refl _ _ | assumption | refine balloc ?_ _ | refine below_drawn ?_ _ | refine below_drew ?_ | refine bnext ?_ hb24 | refine bnext ?_ hb23 | refine bnext ?_ hb22 | refine bnext ?_ hb21 | refine bnext ?_ hb20 | refine bnext ?_ hb19 | refine bnext ?_ hb18 | refine bnext ?_ hb17 | refine bnext ?_ hb16 | refine bnext ?_ hb15 | refine bnext ?_ hb14 | refine bnext ?_ hb13 | refine bnext ?_ hb12 | refine bnext ?_ hb11 | refine bnext ?_ hb10 | refine bnext ?_ hb9 | refine bnext ?_ hb8 | refine bnext ?_ hb7 | refine bnext ?_ hb6 | refine bnext ?_ hb5 | refine bnext ?_ hb4 | refine bnext ?_ hb3 | refine bnext ?_ hb2 | refine bnext ?_ hb1))⟩

end Go.Proofs.YtihbdndigfnhkaaDoor
