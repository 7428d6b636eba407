/- What is in a set, and how many of a range; new sets. -/
import Derived.Test.YtihbdndigfnhkaaDoorBit3
namespace Go.Proofs.YtihbdndigfnhkaaDoor
open Go Go.Proofs Go.RowKit
set_option linter.unusedSimpArgs false
set_option linter.unusedVariables false

/-- What a valid set is. -/
theorem chk_zero (N : Int) (ws : List Nat) (h : chkE N ws = 0) : 0 ≤ N ∧ N ≤ 1024 ∧ (ws.length : Int) = (N + 63) / 64 ∧ ∀ i : Nat, N ≤ i → i < 64 * ws.length → wsmall ws → wbit ws i = false := by
  unfold chkE at h
  by_cases c1 : N < 0 ∨ 1024 < N
  · rw [if_pos c1] at h; omega
  rw [if_neg c1] at h
  by_cases c2 : (ws.length : Int) ≠ (N + 63) / 64
  · rw [if_pos c2] at h; omega
  rw [if_neg c2] at h
  by_cases c3 : N % 64 ≠ 0 ∧ ws.getD (ws.length - 1) 0 / 2 ^ (N % 64).toNat ≠ 0
  · rw [if_pos c3] at h; omega
  refine ⟨by omega, by omega, by omega, fun i h1 h2 hs => ?_⟩
  obtain ⟨M, rfl⟩ : ∃ M : Nat, N = M := ⟨N.toNat, by omega⟩
  refine (chk_bits M ws hs (by omega)).1 ?_ i (by omega) h2
  rintro ⟨a, b⟩
  exact c3 ⟨by omega, by rw [show ((M : Int) % 64).toNat = M % 64 by omega]; exact b⟩

def hasR (N : Int) (ws : List Nat) (i : Int) : Bool × Int := if chkE N ws ≠ 0 then (false, chkE N ws) else if i < 0 ∨ N ≤ i then (false, 2) else (wbit ws i.toNat, 0)

set_option maxHeartbeats 400000 in
theorem Has_any (N : Int) (A : Option Addr) (n c : Nat) (ws : List Nat) (i : Int) (w : World) (hr : Rd w 1 A n (uw ws)) (hs : wsmall ws) (hn : n ≤ 1000000) :
    Calls Tryd.prog 23 #[.agg #[.int .i64 N, .slice A n c], .int .i64 i] w fun e w' => e = .returned (.tuple #[.bool (hasR N ws i).1, .int .i64 (hasR N ws i).2]) ∧ Below w.heap.size w w' := by
  have hlen : ws.length = n := by have := hr.1; rw [uw_len] at this; omega
  by_cases hE : chkE N ws = 0
  · obtain ⟨z0, z1, z2, _⟩ := chk_zero N ws hE
    have HE := Lib.hid hE
    by_cases c1 : i < 0 ∨ N ≤ i
    · have hv : hasR N ws i = (false, 2) := by simp only [hasR]; rw [if_neg (by simp [hE]), if_pos c1]
      rw [hv]
      clear hE hv
      rcases c1 with c1 | c1
      all_goals
        go_enter Tryd.func23, Tryd.ntmps23
        go_wp2_with fail
        refine (Check_any _ _ _ _ ws _ (hr.alloc _) hs hn).mono ?_
        rintro e w1 ⟨rfl, hb1⟩
        have kB := (Bk.new w #[.int .i64 N, .slice A n c] 24).to hb1
        obtain ⟨cB, fB, lB⟩ := kB.facts
        rw [HE.out]
        go_wp2_with fail
        go_ret2
        exact ⟨rfl, by (repeat' (first | exact Below.refl _ _ | assumption | refine balloc ?_ _ | refine below_drawn ?_ _ | refine below_drew ?_ | refine bnext ?_ hb24 | refine bnext ?_ hb23 | refine bnext ?_ hb22 | refine bnext ?_ hb21 | refine bnext ?_ hb20 | refine bnext ?_ hb19 | refine bnext ?_ hb18 | refine bnext ?_ hb17 | refine bnext ?_ hb16 | refine bnext ?_ hb15 | refine bnext ?_ hb14 | refine bnext ?_ hb13 | refine bnext ?_ hb12 | refine bnext ?_ hb11 | refine bnext ?_ hb10 | refine bnext ?_ hb9 | refine bnext ?_ hb8 | refine bnext ?_ hb7 | refine bnext ?_ hb6 | refine bnext ?_ hb5 | refine bnext ?_ hb4 | refine bnext ?_ hb3 | refine bnext ?_ hb2 | refine bnext ?_ hb1))⟩
    · have hv : hasR N ws i = (wbit ws i.toNat, 0) := by simp only [hasR]; rw [if_neg (by simp [hE]), if_neg c1]
      rw [hv]
      obtain ⟨q, rfl⟩ : ∃ q : Nat, i = q := ⟨i.toNat, by omega⟩
      have hq : (q : Int) < N := by omega
      clear hE hv c1
      rw [Int.toNat_natCast]
      go_enter Tryd.func23, Tryd.ntmps23
      go_wp2_with fail
      refine (Check_any _ _ _ _ ws _ (hr.alloc _) hs hn).mono ?_
      rintro e w1 ⟨rfl, hb1⟩
      have kB := (Bk.new w #[.int .i64 N, .slice A n c] 24).to hb1
      obtain ⟨cB, fB, lB⟩ := kB.facts
      rw [HE.out]
      have hr1 := (hr.alloc (.cells #[.int .i64 N, .slice A n c] 24)).below hb1 (Nat.le_refl _)
      go_wp2_with (go_at_call 48; refine (has_any _ _ _ _ ws q _ hr1 hs (by omega) (by omega)).mono ?_; rintro e w2 ⟨rfl, hb2⟩)
      go_ret2
      exact ⟨rfl, by (repeat' (first | exact Below.refl _ _ | assumption | refine balloc ?_ _ | refine below_drawn ?_ _ | refine below_drew ?_ | refine bnext ?_ hb24 | refine bnext ?_ hb23 | refine bnext ?_ hb22 | refine bnext ?_ hb21 | refine bnext ?_ hb20 | refine bnext ?_ hb19 | refine bnext ?_ hb18 | refine bnext ?_ hb17 | refine bnext ?_ hb16 | refine bnext ?_ hb15 | refine bnext ?_ hb14 | refine bnext ?_ hb13 | refine bnext ?_ hb12 | refine bnext ?_ hb11 | refine bnext ?_ hb10 | refine bnext ?_ hb9 | refine bnext ?_ hb8 | refine bnext ?_ hb7 | refine bnext ?_ hb6 | refine bnext ?_ hb5 | refine bnext ?_ hb4 | refine bnext ?_ hb3 | refine bnext ?_ hb2 | refine bnext ?_ hb1))⟩
  · have hd : (chkE N ws != 0) = true := by simpa using hE
    have hv : hasR N ws i = (false, chkE N ws) := by simp only [hasR]; rw [if_pos hE]
    rw [hv]
    clear hE hv
    go_enter Tryd.func23, Tryd.ntmps23
    go_wp2_with fail
    refine (Check_any _ _ _ _ ws _ (hr.alloc _) hs hn).mono ?_
    rintro e w1 ⟨rfl, hb1⟩
    have kB := (Bk.new w #[.int .i64 N, .slice A n c] 24).to hb1
    obtain ⟨cB, fB, lB⟩ := kB.facts
    go_wp2_with fail
    go_ret2
    exact ⟨rfl, by (repeat' (first | exact Below.refl _ _ | assumption | refine balloc ?_ _ | refine below_drawn ?_ _ | refine below_drew ?_ | refine bnext ?_ hb24 | refine bnext ?_ hb23 | refine bnext ?_ hb22 | refine bnext ?_ hb21 | refine bnext ?_ hb20 | refine bnext ?_ hb19 | refine bnext ?_ hb18 | refine bnext ?_ hb17 | refine bnext ?_ hb16 | refine bnext ?_ hb15 | refine bnext ?_ hb14 | refine bnext ?_ hb13 | refine bnext ?_ hb12 | refine bnext ?_ hb11 | refine bnext ?_ hb10 | refine bnext ?_ hb9 | refine bnext ?_ hb8 | refine bnext ?_ hb7 | refine bnext ?_ hb6 | refine bnext ?_ hb5 | refine bnext ?_ hb4 | refine bnext ?_ hb3 | refine bnext ?_ hb2 | refine bnext ?_ hb1))⟩

set_option maxHeartbeats 400000 in
theorem rHas_any (N : Int) (A : Option Addr) (n c : Nat) (ws : List Nat) (i : Int) (w : World) (hr : Rd w 1 A n (uw ws)) (hs : wsmall ws) (hn : n ≤ 1000000) :
    Calls Tryd.prog 24 #[.agg #[.int .i64 N, .slice A n c], .int .i64 i] w fun e w' => e = .returned (.tuple #[.bool (hasR N ws i).1, .int .i64 (hasR N ws i).2]) ∧ Below w.heap.size w w' := by
  have hlen : ws.length = n := by have := hr.1; rw [uw_len] at this; omega
  by_cases hE : chkE N ws = 0
  · obtain ⟨z0, z1, z2, _⟩ := chk_zero N ws hE
    have HE := Lib.hid hE
    by_cases c1 : i < 0 ∨ N ≤ i
    · have hv : hasR N ws i = (false, 2) := by simp only [hasR]; rw [if_neg (by simp [hE]), if_pos c1]
      rw [hv]
      clear hE hv
      rcases c1 with c1 | c1
      all_goals
        go_enter Tryd.func24, Tryd.ntmps24
        go_wp2_with fail
        refine (rCheck_any _ _ _ _ ws _ (hr.alloc _) hs hn).mono ?_
        rintro e w1 ⟨rfl, hb1⟩
        have kB := (Bk.new w #[.int .i64 N, .slice A n c] 24).to hb1
        obtain ⟨cB, fB, lB⟩ := kB.facts
        rw [HE.out]
        go_wp2_with fail
        go_ret2
        exact ⟨rfl, by (repeat' (first | exact Below.refl _ _ | assumption | refine balloc ?_ _ | refine below_drawn ?_ _ | refine below_drew ?_ | refine bnext ?_ hb24 | refine bnext ?_ hb23 | refine bnext ?_ hb22 | refine bnext ?_ hb21 | refine bnext ?_ hb20 | refine bnext ?_ hb19 | refine bnext ?_ hb18 | refine bnext ?_ hb17 | refine bnext ?_ hb16 | refine bnext ?_ hb15 | refine bnext ?_ hb14 | refine bnext ?_ hb13 | refine bnext ?_ hb12 | refine bnext ?_ hb11 | refine bnext ?_ hb10 | refine bnext ?_ hb9 | refine bnext ?_ hb8 | refine bnext ?_ hb7 | refine bnext ?_ hb6 | refine bnext ?_ hb5 | refine bnext ?_ hb4 | refine bnext ?_ hb3 | refine bnext ?_ hb2 | refine bnext ?_ hb1))⟩
    · have hv : hasR N ws i = (wbit ws i.toNat, 0) := by simp only [hasR]; rw [if_neg (by simp [hE]), if_neg c1]
      rw [hv]
      obtain ⟨q, rfl⟩ : ∃ q : Nat, i = q := ⟨i.toNat, by omega⟩
      have hq : (q : Int) < N := by omega
      clear hE hv c1
      rw [Int.toNat_natCast]
      go_enter Tryd.func24, Tryd.ntmps24
      go_wp2_with fail
      refine (rCheck_any _ _ _ _ ws _ (hr.alloc _) hs hn).mono ?_
      rintro e w1 ⟨rfl, hb1⟩
      have kB := (Bk.new w #[.int .i64 N, .slice A n c] 24).to hb1
      obtain ⟨cB, fB, lB⟩ := kB.facts
      rw [HE.out]
      have hr1 := (hr.alloc (.cells #[.int .i64 N, .slice A n c] 24)).below hb1 (Nat.le_refl _)
      go_wp2_with (go_at_call 49; refine (rhas_any _ _ _ _ ws q _ hr1 hs (by omega) (by omega)).mono ?_; rintro e w2 ⟨rfl, hb2⟩)
      go_ret2
      exact ⟨rfl, by (repeat' (first | exact Below.refl _ _ | assumption | refine balloc ?_ _ | refine below_drawn ?_ _ | refine below_drew ?_ | refine bnext ?_ hb24 | refine bnext ?_ hb23 | refine bnext ?_ hb22 | refine bnext ?_ hb21 | refine bnext ?_ hb20 | refine bnext ?_ hb19 | refine bnext ?_ hb18 | refine bnext ?_ hb17 | refine bnext ?_ hb16 | refine bnext ?_ hb15 | refine bnext ?_ hb14 | refine bnext ?_ hb13 | refine bnext ?_ hb12 | refine bnext ?_ hb11 | refine bnext ?_ hb10 | refine bnext ?_ hb9 | refine bnext ?_ hb8 | refine bnext ?_ hb7 | refine bnext ?_ hb6 | refine bnext ?_ hb5 | refine bnext ?_ hb4 | refine bnext ?_ hb3 | refine bnext ?_ hb2 | refine bnext ?_ hb1))⟩
  · have hd : (chkE N ws != 0) = true := by simpa using hE
    have hv : hasR N ws i = (false, chkE N ws) := by simp only [hasR]; rw [if_pos hE]
    rw [hv]
    clear hE hv
    go_enter Tryd.func24, Tryd.ntmps24
    go_wp2_with fail
    refine (rCheck_any _ _ _ _ ws _ (hr.alloc _) hs hn).mono ?_
    rintro e w1 ⟨rfl, hb1⟩
    have kB := (Bk.new w #[.int .i64 N, .slice A n c] 24).to hb1
    obtain ⟨cB, fB, lB⟩ := kB.facts
    go_wp2_with fail
    go_ret2
    exact ⟨rfl, by (repeat' (first | exact Below.refl _ _ | assumption | refine balloc ?_ _ | refine below_drawn ?_ _ | refine below_drew ?_ | refine bnext ?_ hb24 | refine bnext ?_ hb23 | refine bnext ?_ hb22 | refine bnext ?_ hb21 | refine bnext ?_ hb20 | refine bnext ?_ hb19 | refine bnext ?_ hb18 | refine bnext ?_ hb17 | refine bnext ?_ hb16 | refine bnext ?_ hb15 | refine bnext ?_ hb14 | refine bnext ?_ hb13 | refine bnext ?_ hb12 | refine bnext ?_ hb11 | refine bnext ?_ hb10 | refine bnext ?_ hb9 | refine bnext ?_ hb8 | refine bnext ?_ hb7 | refine bnext ?_ hb6 | refine bnext ?_ hb5 | refine bnext ?_ hb4 | refine bnext ?_ hb3 | refine bnext ?_ hb2 | refine bnext ?_ hb1))⟩

/-- How many of the numbers from a to b - 1 are in the set. -/
def cnt (ws : List Nat) (a b : Nat) : Nat := (List.range b).countP fun i => decide (a ≤ i) && wbit ws i
theorem cnt_succ (ws : List Nat) (a b : Nat) (h : a ≤ b) : cnt ws a (b + 1) = cnt ws a b + if wbit ws b = true then 1 else 0 := by
  unfold cnt
  rw [List.range_succ, List.countP_append, List.countP_singleton]
  simp [h]
theorem cnt_le (ws : List Nat) (a b : Nat) : cnt ws a b ≤ b := by
  have := List.countP_le_length (p := fun i => decide (a ≤ i) && wbit ws i) (l := List.range b)
  simpa [cnt] using this
theorem cnt_same (ws : List Nat) (a b : Nat) (h : b ≤ a) : cnt ws a b = 0 := by
  unfold cnt
  rw [List.countP_eq_zero]
  intro i hi
  simp at hi ⊢
  omega
def countR (N : Int) (ws : List Nat) (a b : Int) : Int × Int := if chkE N ws ≠ 0 then (0, chkE N ws) else if a < 0 ∨ b < a ∨ N < b then (0, 2) else ((cnt ws a.toNat b.toNat : Int), 0)
/-- As many of the bits of the first k words as lie in the range. -/
theorem cnt_word (ws : List Nat) (hs : wsmall ws) (a b : Int) (ha : 0 ≤ a) (k : Nat) (hk : k < ws.length) :
    pop (ws.getD k 0 &&& maskV (mkLo k a) (mkHi k b)) = (List.range 64).countP fun j => decide (a ≤ ((64 * k + j : Nat) : Int)) && decide (((64 * k + j : Nat) : Int) < b) && wbit ws (64 * k + j) := by
  unfold pop
  apply List.countP_congr
  intro j hj
  simp only [List.mem_range] at hj
  rw [Nat.testBit_and, mask_bit k a b ha j hj]
  unfold wbit
  rw [show (64 * k + j) / 64 = k by omega, show (64 * k + j) % 64 = j by omega, Bool.and_comm]
/-- The same for the first k words together. -/
def cntW (ws : List Nat) (a b : Int) (k : Nat) : Nat := (List.range (64 * k)).countP fun i : Nat => decide (a ≤ (i : Int)) && decide ((i : Int) < b) && wbit ws i
theorem cntW_succ (ws : List Nat) (hs : wsmall ws) (a b : Int) (ha : 0 ≤ a) (k : Nat) (hk : k < ws.length) : cntW ws a b (k + 1) = cntW ws a b k + pop (ws.getD k 0 &&& maskV (mkLo k a) (mkHi k b)) := by
  rw [cnt_word ws hs a b ha k hk]
  unfold cntW
  rw [show 64 * (k + 1) = 64 * k + 64 by omega, List.range_add, List.countP_append, List.countP_map]
  rfl
theorem cntW_le (ws : List Nat) (a b : Int) (k : Nat) : cntW ws a b k ≤ 64 * k := by
  have := List.countP_le_length (p := fun i : Nat => decide (a ≤ (i : Int)) && decide ((i : Int) < b) && wbit ws i) (l := List.range (64 * k))
  simpa [cntW] using this
theorem cntW_all (ws : List Nat) (a b : Nat) (k : Nat) (hb : b ≤ 64 * k) : cntW ws a b k = cnt ws a b := by
  unfold cntW cnt
  rw [show 64 * k = b + (64 * k - b) by omega, List.range_add, List.countP_append]
  have h2 : (List.map (b + ·) (List.range (64 * k - b))).countP (fun i : Nat => decide (((a : Nat) : Int) ≤ (i : Int)) && decide ((i : Int) < ((b : Nat) : Int)) && wbit ws i) = 0 := by
    rw [List.countP_eq_zero]
    intro i hi
    obtain ⟨j, _, rfl⟩ := List.mem_map.1 hi
    simp
    omega
  rw [h2, Nat.add_zero]
  apply List.countP_congr
  intro i hi
  simp only [List.mem_range] at hi
  simp [hi]
theorem pop_le (x : Nat) : pop x ≤ 64 := by
  have := List.countP_le_length (p := fun j => x.testBit j) (l := List.range 64)
  simpa [pop] using this

end Go.Proofs.YtihbdndigfnhkaaDoor
