/- Pages of a kind in a valid table, and the entries that are read: plain facts. -/
import Derived.Test.YtnmknbnidfmmoaaDoorMade2
namespace Go.Proofs.YtnmknbnidfmmoaaDoor
open Go Go.Proofs Go.RowKit
set_option linter.unusedSimpArgs false
set_option linter.unusedVariables false

theorem get_at {r : Int} {ls : List Int} {es : List Nat} (h : tabE r ls es = 0) (p : Nat) (hp : p < 64) :
    ∃ k n a b c, getR r ls es p = ((k, n, a, b, c), 0) ∧ unpR (es.getD p 0) = ((k, n, a, b, c), 0) ∧ k = unpK (es.getD p 0) := by
  have ha : askE r ls es p = 0 := by unfold askE; rw [orE_r _ h, if_neg (by omega)]
  have hU := (tab_zero h).2.2.2.2.2.2.1 p hp
  have hu := unpR_ok0 (es.getD p 0) hU
  refine ⟨_, _, _, _, _, ?_, hu, (unpK_eq _ hU).symm⟩
  unfold getR
  rw [if_neg (by simp [ha]), Int.toNat_natCast, hu]
theorem kin_at (es : List Nat) (kd : Int) (n i : Nat) (hi : i < (kinL es kd n).length) : ∃ p : Nat, (kinL es kd n).getD i 0 = (p : Int) ∧ p < n ∧ unpK (es.getD p 0) = kd := by
  have hm : (kinL es kd n)[i] ∈ kinL es kd n := List.getElem_mem hi
  have hm2 : (kinL es kd n)[i] ∈ ((List.range n).filter fun p => unpK (es.getD p 0) == kd).map fun p : Nat => (p : Int) := hm
  obtain ⟨p, hp, he⟩ := List.mem_map.1 hm2
  obtain ⟨h1, h2⟩ := List.mem_filter.1 hp
  refine ⟨p, ?_, List.mem_range.1 h1, by simpa using h2⟩
  rw [List.getD_eq_getElem?_getD, List.getElem?_eq_getElem hi, Option.getD_some, ← he]
theorem kin_asc (es : List Nat) (kd : Int) (n i j : Nat) (hij : i < j) (hj : j < (kinL es kd n).length) : (kinL es kd n).getD i 0 < (kinL es kd n).getD j 0 := by
  have hp : (kinL es kd n).Pairwise (· < ·) := by
    unfold kinL
    rw [List.pairwise_map]
    exact ((List.pairwise_lt_range (n := n)).filter _).imp fun h => by omega
  rw [List.getD_eq_getElem?_getD, List.getD_eq_getElem?_getD, List.getElem?_eq_getElem hj, List.getElem?_eq_getElem (by omega : i < _)]
  exact List.pairwise_iff_getElem.1 hp i j (by omega) hj hij
/-- How many pages the first kinds have. -/
def sumL (es : List Nat) : Nat → Nat
  | 0 => 0
  | k + 1 => sumL es k + (kinL es (k : Int) 64).length
theorem sumL_succ (es : List Nat) (k : Nat) : sumL es (k + 1) = sumL es k + (kinL es (k : Int) 64).length := rfl
theorem sumL_le (es : List Nat) (k : Nat) : sumL es k ≤ 64 * k := by
  induction k with
  | zero => exact Nat.le_refl _
  | succ k ih =>
    have := kinL_len es (k : Int) 64
    rw [sumL_succ]
    omega
theorem kin_sum (es : List Nat) (n : Nat) (hU : ∀ p, p < n → unpK (es.getD p 0) = 0 ∨ unpK (es.getD p 0) = 1 ∨ unpK (es.getD p 0) = 2) : (kinL es 0 n).length + (kinL es 1 n).length + (kinL es 2 n).length = n := by
  induction n with
  | zero => rfl
  | succ n ih =>
    have := ih fun p hp => hU p (by omega)
    rw [kinL_succ, kinL_succ, kinL_succ]
    simp only [List.length_append]
    rcases hU n (by omega) with h | h | h <;> rw [h] <;> simp <;> omega
theorem unpK_cases {r : Int} {ls : List Int} {es : List Nat} (h : tabE r ls es = 0) (p : Nat) (hp : p < 64) : unpK (es.getD p 0) = 0 ∨ unpK (es.getD p 0) = 1 ∨ unpK (es.getD p 0) = 2 := by
  have hU := (tab_zero h).2.2.2.2.2.2.1 p hp
  have h3 := unpE_lt4 _ hU
  rw [unpK_eq _ hU]
  omega
theorem sumL_three {r : Int} {ls : List Int} {es : List Nat} (h : tabE r ls es = 0) : sumL es 3 = 64 := by
  have := kin_sum es 64 (unpK_cases h)
  show 0 + (kinL es ((0 : Nat) : Int) 64).length + (kinL es ((1 : Nat) : Int) 64).length + (kinL es ((2 : Nat) : Int) 64).length = 64
  simpa using this
theorem pag_at {r : Int} {ls : List Int} {es : List Nat} (h : tabE r ls es = 0) (k : Nat) (hk : k < 3) : pagR r ls es k = (kinL es k 64, 0) := by
  unfold pagR
  rw [if_neg (by simp [h]), if_neg (by omega)]
theorem cnt_at {r : Int} {ls : List Int} {es : List Nat} (h : tabE r ls es = 0) : cntR r ls es = (((kinL es 1 64).length : Int), ((kinL es 2 64).length : Int), (0 : Int)) := by
  unfold cntR
  rw [if_neg (by simp [h])]
end Go.Proofs.YtnmknbnidfmmoaaDoor
