/- Counting by the reference; the next number of a set. -/
import Derived.Test.YtihbdndigfnhkaaDoorBit6
namespace Go.Proofs.YtihbdndigfnhkaaDoor
open Go Go.Proofs Go.RowKit
set_option linter.unusedSimpArgs false
set_option linter.unusedVariables false

set_option maxRecDepth 100000 in
set_option maxHeartbeats 1000000 in
theorem rCount_any (N : Int) (A : Option Addr) (n c : Nat) (ws : List Nat) (a b : Int) (w : World) (hr : Rd w 1 A n (uw ws)) (hs : wsmall ws) (hn : n ≤ 1000000) :
    Calls Tryd.prog 26 #[.agg #[.int .i64 N, .slice A n c], .int .i64 a, .int .i64 b] w fun e w' => e = .returned (.tuple #[.int .i64 (countR N ws a b).1, .int .i64 (countR N ws a b).2]) ∧ Below w.heap.size w w' := by
  have hlen : ws.length = n := by have := hr.1; rw [uw_len] at this; omega
  by_cases hE : chkE N ws = 0
  · obtain ⟨z0, z1, z2, _⟩ := chk_zero N ws hE
    have HE := Lib.hid hE
    by_cases c1 : a < 0 ∨ b < a ∨ N < b
    · have hv : countR N ws a b = (0, 2) := by simp only [countR]; rw [if_neg (by simp [hE]), if_pos c1]
      rw [hv]
      clear hE hv
      have c1' : a < 0 ∨ (0 ≤ a ∧ b < a) ∨ (0 ≤ a ∧ a ≤ b ∧ N < b) := by omega
      clear c1
      rcases c1' with c1 | ⟨c1, c2⟩ | ⟨c1, c2, c3⟩
      all_goals
        go_enter Tryd.func26, Tryd.ntmps26
        go_wp2_with fail
        refine (rCheck_any _ _ _ _ ws _ (hr.alloc _) hs hn).mono ?_
        rintro e w1 ⟨rfl, hb1⟩
        have kB := (Bk.new w #[.int .i64 N, .slice A n c] 24).to hb1
        obtain ⟨cB, fB, lB⟩ := kB.facts
        rw [HE.out]
        go_wp2_with fail
        go_ret2
        exact ⟨rfl, by (repeat' (first | exact Below.refl _ _ | assumption | refine balloc ?_ _ | refine below_drawn ?_ _ | refine below_drew ?_ | refine bnext ?_ hb24 | refine bnext ?_ hb23 | refine bnext ?_ hb22 | refine bnext ?_ hb21 | refine bnext ?_ hb20 | refine bnext ?_ hb19 | refine bnext ?_ hb18 | refine bnext ?_ hb17 | refine bnext ?_ hb16 | refine bnext ?_ hb15 | refine bnext ?_ hb14 | refine bnext ?_ hb13 | refine bnext ?_ hb12 | refine bnext ?_ hb11 | refine bnext ?_ hb10 | refine bnext ?_ hb9 | refine bnext ?_ hb8 | refine bnext ?_ hb7 | refine bnext ?_ hb6 | refine bnext ?_ hb5 | refine bnext ?_ hb4 | refine bnext ?_ hb3 | refine bnext ?_ hb2 | refine bnext ?_ hb1))⟩
    · have hv : countR N ws a b = ((cnt ws a.toNat b.toNat : Int), 0) := by simp only [countR]; rw [if_neg (by simp [hE]), if_neg c1]
      rw [hv]
      clear hE hv
      obtain ⟨a, rfl⟩ : ∃ q : Nat, a = q := ⟨a.toNat, by omega⟩
      obtain ⟨b, rfl⟩ : ∃ q : Nat, b = q := ⟨b.toNat, by omega⟩
      rw [Int.toNat_natCast, Int.toNat_natCast]
      have c3 : a ≤ b := by omega
      have c4 : b ≤ 64 * n := by omega
      have c5 : b ≤ 1024 := by omega
      have c6 : (b : Int) ≤ N := by omega
      have d1 : decide ((a : Int) < 0) = false := by simp
      have d2 : decide ((b : Int) < (a : Int)) = false := by simp; omega
      have d2' : decide (b < a) = false := by simp; omega
      have d3 : decide (N < (b : Int)) = false := by simp; omega
      clear c1
      have Hlen := Lib.hid hlen
      clear hlen z2
      go_enter Tryd.func26, Tryd.ntmps26
      go_wp2_with fail
      refine (rCheck_any _ _ _ _ ws _ (hr.alloc _) hs hn).mono ?_
      rintro e w1 ⟨rfl, hb1⟩
      have kB := (Bk.new w #[.int .i64 N, .slice A n c] 24).to hb1
      have hr1 := (hr.alloc (.cells #[.int .i64 N, .slice A n c] 24)).below hb1 (Nat.le_refl _)
      obtain ⟨cB, fB, lB⟩ := kB.facts
      rw [HE.out]
      go_wp2_with fail
      clear cB fB lB
      go_loopw [9, 10] (fun s i wr => ∃ k : Nat, a ≤ k ∧ k ≤ b ∧ i = .int .i64 k ∧ s = .int .i64 (cnt ws a k : Int) ∧ Below w1.heap.size w1 wr) (fun _ i _ => b - (intOf i).toNat)
      case atStart => exact ⟨a, by omega, by omega, rfl, by rw [cnt_same _ _ _ (Nat.le_refl _)]; rfl, Below.refl _ _⟩
      case round =>
        obtain ⟨k, hak, hk, rfl, rfl, hB⟩ := hrel
        obtain ⟨cB, fB, lB⟩ := (kB.to hB).facts
        by_cases hlt : k < b
        · have hsu := cnt_succ ws a k hak
          have hle := cnt_le ws a k
          cases hbit : wbit ws k with
          | true =>
            rw [hbit, if_pos rfl] at hsu
            have Hsu := Lib.hid hsu
            have HB := Lib.hid hbit
            clear hsu hbit
            go_wp2_with (go_at_call 49; refine (rhas_any _ _ _ _ ws k _ (hr1.below hB (Nat.le_refl _)) hs (by omega) (by omega)).mono ?_; rw [HB.out]; rintro e w2 ⟨rfl, hb2⟩)
            go_roundw
            case rel => exact ⟨k + 1, by omega, by omega, by go_num, by rw [Hsu.out]; go_num, bnext hB hb2⟩
            case measure => simp [intOf]; omega
          | false =>
            rw [hbit, if_neg (by simp)] at hsu
            have Hsu := Lib.hid hsu
            have HB := Lib.hid hbit
            clear hsu hbit
            go_wp2_with (go_at_call 49; refine (rhas_any _ _ _ _ ws k _ (hr1.below hB (Nat.le_refl _)) hs (by omega) (by omega)).mono ?_; rw [HB.out]; rintro e w2 ⟨rfl, hb2⟩)
            go_roundw
            case rel => exact ⟨k + 1, by omega, by omega, by go_num, by rw [Hsu.out]; go_num, bnext hB hb2⟩
            case measure => simp [intOf]; omega
        · obtain rfl : k = b := by omega
          go_wp2_with fail
          go_ret2
          have hb2 := hB
          exact ⟨rfl, by (repeat' (first | exact Below.refl _ _ | assumption | refine balloc ?_ _ | refine below_drawn ?_ _ | refine below_drew ?_ | refine bnext ?_ hb24 | refine bnext ?_ hb23 | refine bnext ?_ hb22 | refine bnext ?_ hb21 | refine bnext ?_ hb20 | refine bnext ?_ hb19 | refine bnext ?_ hb18 | refine bnext ?_ hb17 | refine bnext ?_ hb16 | refine bnext ?_ hb15 | refine bnext ?_ hb14 | refine bnext ?_ hb13 | refine bnext ?_ hb12 | refine bnext ?_ hb11 | refine bnext ?_ hb10 | refine bnext ?_ hb9 | refine bnext ?_ hb8 | refine bnext ?_ hb7 | refine bnext ?_ hb6 | refine bnext ?_ hb5 | refine bnext ?_ hb4 | refine bnext ?_ hb3 | refine bnext ?_ hb2 | refine bnext ?_ hb1))⟩
  · have hd : (chkE N ws != 0) = true := by simpa using hE
    have hv : countR N ws a b = (0, chkE N ws) := by simp only [countR]; rw [if_pos hE]
    rw [hv]
    clear hE hv
    go_enter Tryd.func26, Tryd.ntmps26
    go_wp2_with fail
    refine (rCheck_any _ _ _ _ ws _ (hr.alloc _) hs hn).mono ?_
    rintro e w1 ⟨rfl, hb1⟩
    have kB := (Bk.new w #[.int .i64 N, .slice A n c] 24).to hb1
    obtain ⟨cB, fB, lB⟩ := kB.facts
    go_wp2_with fail
    go_ret2
    exact ⟨rfl, by (repeat' (first | exact Below.refl _ _ | assumption | refine balloc ?_ _ | refine below_drawn ?_ _ | refine below_drew ?_ | refine bnext ?_ hb24 | refine bnext ?_ hb23 | refine bnext ?_ hb22 | refine bnext ?_ hb21 | refine bnext ?_ hb20 | refine bnext ?_ hb19 | refine bnext ?_ hb18 | refine bnext ?_ hb17 | refine bnext ?_ hb16 | refine bnext ?_ hb15 | refine bnext ?_ hb14 | refine bnext ?_ hb13 | refine bnext ?_ hb12 | refine bnext ?_ hb11 | refine bnext ?_ hb10 | refine bnext ?_ hb9 | refine bnext ?_ hb8 | refine bnext ?_ hb7 | refine bnext ?_ hb6 | refine bnext ?_ hb5 | refine bnext ?_ hb4 | refine bnext ?_ hb3 | refine bnext ?_ hb2 | refine bnext ?_ hb1))⟩

/-- The least number from i on, at most f numbers on, that is in the set (or not). -/
def nextF (ws : List Nat) (inn : Bool) : Nat → Nat → Option Nat
  | 0, _ => none
  | f + 1, i => if wbit ws i = inn then some i else nextF ws inn f (i + 1)
theorem nextF_hit (ws : List Nat) (inn : Bool) : ∀ (f i q : Nat), i ≤ q → q < i + f → (∀ j, i ≤ j → j < q → wbit ws j ≠ inn) → wbit ws q = inn → nextF ws inn f i = some q
  | 0, i, q, h1, h2, _, _ => by omega
  | f + 1, i, q, h1, h2, h3, h4 => by
    unfold nextF
    by_cases h : i = q
    · subst h; rw [if_pos h4]
    · rw [if_neg (h3 i (Nat.le_refl _) (by omega))]
      exact nextF_hit ws inn f (i + 1) q (by omega) (by omega) (fun j h5 h6 => h3 j (by omega) h6) h4
theorem nextF_none (ws : List Nat) (inn : Bool) : ∀ (f i : Nat), (∀ j, i ≤ j → j < i + f → wbit ws j ≠ inn) → nextF ws inn f i = none
  | 0, i, _ => rfl
  | f + 1, i, h => by
    unfold nextF
    rw [if_neg (h i (Nat.le_refl _) (by omega))]
    exact nextF_none ws inn f (i + 1) (fun j h1 h2 => h j (by omega) (by omega))
def nextR (N : Int) (ws : List Nat) (a : Int) (inn : Bool) : Int × Int :=
  if chkE N ws ≠ 0 then (0, chkE N ws) else if a < 0 ∨ N < a then (0, 2) else match nextF ws inn (N - a).toNat a.toNat with
    | some q => ((q : Int), 0)
    | none => (0, 6)
theorem nextR_hit (N : Int) (ws : List Nat) (a q : Nat) (inn : Bool) (hE : chkE N ws = 0) (h0 : (a : Int) ≤ N) (h1 : a ≤ q) (h2 : (q : Int) < N) (h3 : ∀ j, a ≤ j → j < q → wbit ws j ≠ inn) (h4 : wbit ws q = inn) : nextR N ws a inn = ((q : Int), 0) := by
  unfold nextR
  rw [if_neg (by simp [hE]), if_neg (by omega), Int.toNat_natCast, nextF_hit ws inn _ a q h1 (by omega) h3 h4]
theorem nextR_none (N : Int) (ws : List Nat) (a : Nat) (inn : Bool) (hE : chkE N ws = 0) (h0 : (a : Int) ≤ N) (h3 : ∀ j : Nat, a ≤ j → (j : Int) < N → wbit ws j ≠ inn) : nextR N ws a inn = (0, 6) := by
  unfold nextR
  rw [if_neg (by simp [hE]), if_neg (by omega), Int.toNat_natCast, nextF_none ws inn _ a (fun j h1 h2 => h3 j h1 (by omega))]

end Go.Proofs.YtihbdndigfnhkaaDoor
