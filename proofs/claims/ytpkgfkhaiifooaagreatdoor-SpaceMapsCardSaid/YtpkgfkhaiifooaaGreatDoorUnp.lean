/- Entries and words lead back to one another: plain numbers, no program in sight. -/
import Derived.Test.YtpkgfkhaiifooaaGreatDoorTab1
namespace Go.Proofs.YtpkgfkhaiifooaaGreatDoor
open Go
set_option linter.unusedSimpArgs false
set_option linter.unusedVariables false

theorem flagN_bitsU (a b c : Bool) : flagN a b c % 2 = a.toNat ∧ flagN a b c / 2 % 2 = b.toNat ∧ flagN a b c / 4 % 2 = c.toNat := by cases a <;> cases b <;> cases c <;> decide
theorem toNat_decU (a : Bool) (x : Nat) (h : x = a.toNat) : decide (x = 1) = a := by cases a <;> simp_all
/-- The word of a valid entry is this entry. -/
theorem unp_packN (k n : Nat) (a b c : Bool) (h : chk k n a b c = 0) : unpR (packN k n a b c) = (((k : Int), (n : Int), a, b, c), 0) := by
  obtain ⟨hk, hn0, hn1⟩ := chk_ok _ _ _ _ _ h
  have hf := flagN_lt a b c
  obtain ⟨f1, f2, f3⟩ := flagN_bitsU a b c
  have e1 : packN k n a b c % 4 = k := by unfold packN; omega
  have e2 : packN k n a b c / 256 = n := by unfold packN; omega
  have e3 : packN k n a b c / 4 % 2 = a.toNat := by unfold packN; omega
  have e4 : packN k n a b c / 8 % 2 = b.toNat := by unfold packN; omega
  have e5 : packN k n a b c / 16 % 2 = c.toNat := by unfold packN; omega
  have e6 : packN k n a b c / 32 % 8 = 0 := by unfold packN; omega
  have e7 : packN k n a b c / 65536 = 0 := by unfold packN; omega
  have hE : unpE (packN k n a b c) = 0 := by
    unfold unpE
    rw [if_neg (by omega), if_neg (by omega), e1, e2, toNat_decU a _ e3, toNat_decU b _ e4, toNat_decU c _ e5]
    exact h
  unfold unpR
  rw [if_pos hE, e1, e2, toNat_decU a _ e3, toNat_decU b _ e4, toNat_decU c _ e5]
theorem packN_ltU (k n : Nat) (a b c : Bool) (h : chk k n a b c = 0) : packN k n a b c < 65536 := by
  obtain ⟨hk, hn0, hn1⟩ := chk_ok _ _ _ _ _ h
  have hf := flagN_lt a b c
  unfold packN
  omega
theorem dec_toNatU (x : Nat) (h : x < 2) : (decide (x = 1)).toNat = x := by
  have : x = 0 ∨ x = 1 := by omega
  rcases this with rfl | rfl <;> rfl
theorem unpE_form (x : Nat) (h : unpE x = 0) : x % 4 ≠ 3 ∧ x / 32 % 8 = 0 ∧ x / 65536 = 0 ∧ chk (x % 4 : Nat) (x / 256 : Nat) (decide (x / 4 % 2 = 1)) (decide (x / 8 % 2 = 1)) (decide (x / 16 % 2 = 1)) = 0 := by
  unfold unpE at h
  by_cases h1 : x % 4 = 3
  · rw [if_pos h1] at h; simp at h
  · rw [if_neg h1] at h
    by_cases h2 : x / 32 % 8 ≠ 0 ∨ x / 65536 ≠ 0
    · rw [if_pos h2] at h; simp at h
    · rw [if_neg h2] at h
      exact ⟨h1, by omega, by omega, h⟩
theorem unpR_chk (x : Nat) (h : unpE x = 0) : chk (unpR x).1.1 (unpR x).1.2.1 (unpR x).1.2.2.1 (unpR x).1.2.2.2.1 (unpR x).1.2.2.2.2 = 0 := by
  unfold unpR
  rw [if_pos h]
  exact (unpE_form x h).2.2.2
theorem unpR_err (x : Nat) : (unpR x).2 = unpE x := by
  unfold unpR
  by_cases h : unpE x = 0
  · rw [if_pos h, h]
  · rw [if_neg h]
/-- A word that is an entry is this entry's word. -/
theorem pack_unpN (x : Nat) (h : unpE x = 0) : packR (unpR x).1.1 (unpR x).1.2.1 (unpR x).1.2.2.1 (unpR x).1.2.2.2.1 (unpR x).1.2.2.2.2 = ((x : Int), 0) := by
  have hok := unpR_chk x h
  unfold packR
  rw [if_neg (by simp [hok])]
  obtain ⟨h1, h2, h3, h4⟩ := unpE_form x h
  unfold unpR at hok ⊢
  rw [if_pos h] at hok ⊢
  simp only [Int.toNat_natCast]
  congr 2
  unfold packN flagN
  rw [dec_toNatU _ (by omega), dec_toNatU _ (by omega), dec_toNatU _ (by omega)]
  omega
end Go.Proofs.YtpkgfkhaiifooaaGreatDoor
