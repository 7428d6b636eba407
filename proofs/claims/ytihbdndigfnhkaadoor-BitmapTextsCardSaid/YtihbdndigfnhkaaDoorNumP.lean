/- Decimal numbers in texts: plain lists, no program in sight. -/
import Derived.Test.YtihbdndigfnhkaaDoorBase
import Derived.Lib.CutLaws
import Derived.Lib.ItoaNum
namespace Go.Proofs.YtihbdndigfnhkaaDoor
open Go
set_option linter.unusedSimpArgs false
set_option linter.unusedVariables false

def isD (c : UInt8) : Bool := decide (48 ≤ c.toNat) && decide (c.toNat ≤ 57)
def numV (l : List UInt8) : Nat := l.foldl (fun n c => 10 * n + (c.toNat - 48)) 0
theorem numV_snoc (l : List UInt8) (c : UInt8) : numV (l ++ [c]) = 10 * numV l + (c.toNat - 48) := by simp [numV]
theorem numV_acc : ∀ (l : List UInt8) (x : Nat), l.all isD = true → l.foldl (fun n c => 10 * n + (c.toNat - 48)) x < (x + 1) * 10 ^ l.length
  | [], x, _ => by simp
  | c :: l, x, h => by
    rw [List.all_cons, Bool.and_eq_true] at h
    have h2 := h.1
    unfold isD at h2
    simp at h2
    have h1 := numV_acc l (10 * x + (c.toNat - 48)) h.2
    rw [List.foldl_cons, List.length_cons, Nat.pow_succ]
    have h3 : (10 * x + (c.toNat - 48) + 1) * 10 ^ l.length ≤ ((x + 1) * 10) * 10 ^ l.length := Nat.mul_le_mul_right _ (by omega)
    have h4 : (x + 1) * 10 * 10 ^ l.length = (x + 1) * (10 ^ l.length * 10) := by rw [Nat.mul_assoc, Nat.mul_comm 10]
    omega
theorem numV_lt (l : List UInt8) (h : l.all isD = true) : numV l < 10 ^ l.length := by
  have := numV_acc l 0 h
  simpa [numV] using this
/-- A number of at most m digits that is a whole text. -/
def numM (m : Nat) (l : List UInt8) : Option Nat := if l.length = 0 ∨ m < l.length ∨ (1 < l.length ∧ l.getD 0 0 = 48) ∨ l.all isD = false then none else some (numV l)
theorem numM_lt (m : Nat) (l : List UInt8) (n : Nat) (h : numM m l = some n) : n < 10 ^ m := by
  unfold numM at h
  split at h
  · cases h
  · rename_i hc
    injection h with h
    have hall : l.all isD = true := by
      rcases hb : l.all isD with _ | _
      · exact absurd (.inr (.inr (.inr hb))) hc
      · rfl
    have h1 := numV_lt l hall
    have h2 : 10 ^ l.length ≤ 10 ^ m := Nat.pow_le_pow_right (by omega) (by omega)
    omega
theorem numM_bad (m : Nat) (l : List UInt8) (h : l.length = 0 ∨ m < l.length ∨ (1 < l.length ∧ l.getD 0 0 = 48) ∨ l.all isD = false) : numM m l = none := by unfold numM; rw [if_pos h]
theorem numM_ok (m : Nat) (l : List UInt8) (h : ¬ (l.length = 0 ∨ m < l.length ∨ (1 < l.length ∧ l.getD 0 0 = 48))) (hd : l.all isD = true) : numM m l = some (numV l) := by
  unfold numM
  rw [if_neg]
  rintro (h1 | h1 | h1 | h1)
  · exact h (.inl h1)
  · exact h (.inr (.inl h1))
  · exact h (.inr (.inr h1))
  · rw [hd] at h1; cases h1
theorem take_snocL (l : List UInt8) (k : Nat) (h : k < l.length) : l.take (k + 1) = l.take k ++ [l[k]] := by rw [List.take_succ_eq_append_getElem]
theorem dig_small (m : Nat) (h : m < 10) : Lib.decDigits m = [UInt8.ofNat (48 + m)] := by rw [Lib.decDigits]; simp [h]
theorem dig_big (m : Nat) (h : ¬ m < 10) : Lib.decDigits m = Lib.decDigits (m / 10) ++ [UInt8.ofNat (48 + m % 10)] := by rw [Lib.decDigits]; simp [h]
end Go.Proofs.YtihbdndigfnhkaaDoor
