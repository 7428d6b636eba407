/- Texts of sets: the words that the digits of a text make, one digit after the other. -/
import Derived.Test.YtihbdndigfnhkaaDoorBitT
namespace Go.Proofs.YtihbdndigfnhkaaDoor
open Go
set_option linter.unusedSimpArgs false
set_option linter.unusedVariables false

theorem parW_len (n : Nat) (ds : List UInt8) (k : Nat) : (parW n ds k).length = (n + 63) / 64 := wordsOf_len _ _
theorem parW_small (n : Nat) (ds : List UInt8) (k : Nat) : wsmall (parW n ds k) := wordsOf_small _ _
theorem parW_zero (n : Nat) (ds : List UInt8) : parW n ds 0 = List.replicate ((n + 63) / 64) 0 := by
  unfold parW
  rw [← listF_words_zero [] ((n + 63) / 64)]
  exact wordsOf_congr _ _ _ (fun i _ => by simp [listF])
theorem parW_succ (n : Nat) (ds : List UInt8) (k : Nat) (hk : k / 16 < (n + 63) / 64) :
    parW n ds (k + 1) = (parW n ds k).set (k / 16) ((parW n ds k).getD (k / 16) 0 ||| digN ds k * 2 ^ (4 * (k % 16))) := by
  have hd := digN_lt ds k
  apply List.ext_getElem
  · rw [List.length_set, parW_len, parW_len]
  intro j h1 h2
  have hj : j < (n + 63) / 64 := by rw [parW_len] at h1; exact h1
  have e1 : (parW n ds (k + 1))[j] = ofB (fun b => decide (64 * j + b < 4 * (k + 1)) && bitD ds (64 * j + b)) 64 := by simp [parW, wordsOf]
  rw [e1, List.getElem_set]
  by_cases hjk : k / 16 = j
  · rw [if_pos hjk]
    have e2 : (parW n ds k).getD (k / 16) 0 = ofB (fun b => decide (64 * j + b < 4 * k) && bitD ds (64 * j + b)) 64 := by
      unfold parW
      rw [wordsOf_get _ _ _ hk, hjk]
    rw [e2]
    have hs : 4 * k = 64 * j + 4 * (k % 16) := by omega
    have hs2 : 4 * (k % 16) ≤ 60 := by omega
    generalize hsv : 4 * (k % 16) = s at hs hs2
    have hlt : digN ds k * 2 ^ s < 2 ^ 64 := by
      have h3 : digN ds k * 2 ^ s < 16 * 2 ^ s := Nat.mul_lt_mul_of_pos_right hd (Nat.two_pow_pos s)
      have h4 : 16 * 2 ^ s = 2 ^ (s + 4) := by rw [Nat.pow_add]; omega
      have h5 : 2 ^ (s + 4) ≤ 2 ^ 64 := Nat.pow_le_pow_right (by omega) (by omega)
      omega
    have hx : (ofB (fun b => decide (64 * j + b < 4 * k) && bitD ds (64 * j + b)) 64 ||| digN ds k * 2 ^ s) < 2 ^ 64 := Nat.or_lt_two_pow (ofB_lt _ 64) hlt
    refine (word_eq _ (by simpa using hx) _ ?_).symm
    intro b hb
    rw [Nat.testBit_or, ofB_bit, Nat.testBit_mul_two_pow]
    by_cases h6 : b < s
    · simp [hb, show ¬ s ≤ b by omega, show 64 * j + b < 4 * k by omega, show 64 * j + b < 4 * (k + 1) by omega]
    · have h7 : ¬ 64 * j + b < 4 * k := by omega
      by_cases h8 : b < s + 4
      · have h9 : bitD ds (64 * j + b) = (digN ds k).testBit (b - s) := by
          unfold bitD
          rw [show (64 * j + b) / 4 = k by omega, show (64 * j + b) % 4 = b - s by omega]
        simp [h7, show s ≤ b by omega, show 64 * j + b < 4 * (k + 1) by omega, h9]
      · have h9 : (digN ds k).testBit (b - s) = false := Nat.testBit_lt_two_pow (Nat.lt_of_lt_of_le hd (show 2 ^ 4 ≤ 2 ^ (b - s) from Nat.pow_le_pow_right (by omega) (by omega)))
        simp [h7, h9, show ¬ 64 * j + b < 4 * (k + 1) by omega]
  · rw [if_neg hjk]
    have e2 : (parW n ds k)[j]'(by rw [parW_len]; exact hj) = ofB (fun b => decide (64 * j + b < 4 * k) && bitD ds (64 * j + b)) 64 := by simp [parW, wordsOf]
    rw [e2]
    refine word_eq _ (by simpa using ofB_lt _ 64) _ ?_
    intro b hb
    have h3 : (64 * j + b < 4 * (k + 1)) ↔ (64 * j + b < 4 * k) := by omega
    rw [ofB_bit]
    simp [hb, h3]
end Go.Proofs.YtihbdndigfnhkaaDoor
