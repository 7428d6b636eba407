/- Counts of parts of a set: plain facts for BitmapPut and BitmapRuns. -/
import Derived.Test.YtihbdndigfnhkaaDoorLawWalks
namespace Go.Proofs.YtihbdndigfnhkaaDoor
open Go
set_option linter.unusedSimpArgs false
set_option linter.unusedVariables false

theorem cnt_split (ws : List Nat) (a b : Nat) (hab : a ≤ b) : ∀ c, b ≤ c → cnt ws a c = cnt ws a b + cnt ws b c
  | 0, h => by
    obtain rfl : b = 0 := by omega
    have := cnt_same ws 0 0 (Nat.le_refl _)
    omega
  | c + 1, h => by
    by_cases hc : b = c + 1
    · subst hc; have := cnt_same ws (c + 1) (c + 1) (Nat.le_refl _); omega
    · rw [cnt_succ ws a c (by omega), cnt_succ ws b c (by omega), cnt_split ws a b hab c (by omega), Nat.add_assoc]
theorem cnt_congr (ws vs : List Nat) (a : Nat) : ∀ b, (∀ i, a ≤ i → i < b → wbit ws i = wbit vs i) → cnt ws a b = cnt vs a b
  | 0, _ => by rw [cnt_same ws a 0 (by omega), cnt_same vs a 0 (by omega)]
  | b + 1, h => by
    by_cases hb : a ≤ b
    · rw [cnt_succ ws a b hb, cnt_succ vs a b hb, cnt_congr ws vs a b (fun i h1 h2 => h i h1 (by omega)), h b hb (by omega)]
    · rw [cnt_same ws a (b + 1) (by omega), cnt_same vs a (b + 1) (by omega)]
theorem cnt_full (ws : List Nat) (a : Nat) : ∀ b, a ≤ b → (∀ i, a ≤ i → i < b → wbit ws i = true) → cnt ws a b = b - a
  | 0, h, _ => by rw [cnt_same ws a 0 (by omega)]; omega
  | b + 1, h, hw => by
    by_cases hb : a = b + 1
    · subst hb; rw [cnt_same ws (b + 1) (b + 1) (Nat.le_refl _)]; omega
    · rw [cnt_succ ws a b (by omega), if_pos (hw b (by omega) (by omega)), cnt_full ws a b (by omega) (fun i h1 h2 => hw i h1 (by omega))]
      omega
/-- What is put is there, nothing else changes, and the counts add up. -/
theorem put_facts (N : Nat) (ws : List Nat) (a b : Nat) (hE : chkE N ws = 0) (hab : a ≤ b) (hb : b ≤ N) (vs : List Nat) (hv : vs = wordsOf ((N + 63) / 64) (putF ws N a b true)) :
    (∀ i, i < N → wbit vs i = (wbit ws i || (decide (a ≤ i) && decide (i < b)))) ∧ cnt vs a b = b - a ∧ cnt vs 0 N = cnt ws 0 a + (b - a) + cnt ws b N := by
  have hbit : ∀ i, i < N → wbit vs i = (wbit ws i || (decide (a ≤ i) && decide (i < b))) := by
    intro i hi
    rw [hv, wordsOf_bit _ _ _ (by omega)]
    unfold putF
    rw [decide_eq_true hi, Bool.true_and]
    by_cases h1 : a ≤ i ∧ i < b
    · rw [if_pos h1, decide_eq_true h1.1, decide_eq_true h1.2]; simp
    · rw [if_neg h1]
      have : (decide (a ≤ i) && decide (i < b)) = false := by
        rw [Bool.and_eq_false_iff]; simp only [decide_eq_false_iff_not]; omega
      rw [this, Bool.or_false]
  have hmid : cnt vs a b = b - a := cnt_full vs a b hab (fun i h1 h2 => by rw [hbit i (by omega), decide_eq_true h1, decide_eq_true h2]; simp)
  refine ⟨hbit, hmid, ?_⟩
  have e1 : cnt vs 0 a = cnt ws 0 a := cnt_congr vs ws 0 a (fun i _ h2 => by rw [hbit i (by omega), decide_eq_false (show ¬ a ≤ i by omega)]; simp)
  have e2 : cnt vs b N = cnt ws b N := cnt_congr vs ws b N (fun i h1 h2 => by rw [hbit i h2, decide_eq_false (show ¬ i < b by omega)]; simp)
  rw [cnt_split vs 0 a (by omega) N (by omega), cnt_split vs a b hab N hb, e1, hmid, e2, Nat.add_assoc]
end Go.Proofs.YtihbdndigfnhkaaDoor
