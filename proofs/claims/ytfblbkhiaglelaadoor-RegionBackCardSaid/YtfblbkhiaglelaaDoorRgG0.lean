/- Pages that are mapped and unmapped, plain facts; Unmap by the program. -/
import Derived.Test.YtfblbkhiaglelaaDoorRgD
import Derived.Test.YtfblbkhiaglelaaDoorRgF
namespace Go.Proofs.YtfblbkhiaglelaaDoor
open Go Go.Proofs Go.RowKit
set_option linter.unusedSimpArgs false
set_option linter.unusedVariables false
set_option maxRecDepth 100000

/-- The pages of a list, with those from a to p - 1 put in or out. -/
def puF (rs : List (Int × Int)) (x : Bool) (a p : Int) (q : Nat) : Bool := if a ≤ (q : Int) ∧ (q : Int) < p then x else hasP rs q
theorem puF_start (rs : List (Int × Int)) (x : Bool) (a : Int) : bl (hasP rs) = bl (puF rs x a a) := bl_congr _ _ (fun q _ => by unfold puF; rw [if_neg (by omega)])
theorem puF_step (rs : List (Int × Int)) (x : Bool) (a : Int) (p : Nat) (h : a ≤ (p : Int)) : (bl (puF rs x a p)).set p x = bl (puF rs x a ((p : Int) + 1)) := by
  rw [bl_set]
  refine bl_congr _ _ (fun q _ => ?_)
  unfold puF
  by_cases hq : q = p
  · subst hq
    rw [if_pos rfl, if_pos (by omega)]
  · rw [if_neg hq]
    by_cases hc : a ≤ (q : Int) ∧ (q : Int) < (p : Int)
    · rw [if_pos hc, if_pos (by omega)]
    · rw [if_neg hc, if_neg (by omega)]
theorem puF_add (rs : List (Int × Int)) (a b : Int) (q : Nat) : puF rs true a (b + 1) q = addF rs a b q := by
  unfold puF addF inR
  by_cases hc : a ≤ (q : Int) ∧ (q : Int) < b + 1
  · rw [if_pos hc, decide_eq_true hc.1, decide_eq_true (by omega)]; simp
  · rw [if_neg hc]
    have : (decide (a ≤ (q : Int)) && decide ((q : Int) ≤ b)) = false := by rw [Bool.and_eq_false_iff]; simp only [decide_eq_false_iff_not]; omega
    rw [this, Bool.or_false]
theorem puF_sub (rs : List (Int × Int)) (a b : Int) (q : Nat) : puF rs false a (b + 1) q = subF rs a b q := by
  unfold puF subF inR
  by_cases hc : a ≤ (q : Int) ∧ (q : Int) < b + 1
  · rw [if_pos hc, decide_eq_true hc.1, decide_eq_true (by omega)]; simp
  · rw [if_neg hc]
    have : (decide (a ≤ (q : Int)) && decide ((q : Int) ≤ b)) = false := by rw [Bool.and_eq_false_iff]; simp only [decide_eq_false_iff_not]; omega
    rw [this]; simp
theorem regs_eq (f g : Nat → Bool) (h : ∀ p, f p = g p) : regs f = regs g := by rw [show f = g from funext h]
theorem begE_two {rs : List (Int × Int)} {a b : Int} (h : begE rs a b ≠ 0) : (begE rs a b = (regE rs).1 ∧ (regE rs).1 ≠ 0) ∨ ((regE rs).1 = 0 ∧ begE rs a b = 2 ∧ rngE a b = 2) := by
  unfold begE at h ⊢
  by_cases h1 : (regE rs).1 = 0
  · rw [if_neg (by simp [h1])] at h ⊢
    rcases rngE_cases a b with h2 | ⟨h2, _⟩
    · exact .inr ⟨h1, h2, h2⟩
    · exact absurd h2 h
  · rw [if_pos h1]
    exact .inl ⟨rfl, h1⟩
theorem begE_parts {rs : List (Int × Int)} {a b : Int} (h : begE rs a b = 0) : (regE rs).1 = 0 ∧ rngE a b = 0 := by
  unfold begE at h
  split at h
  · rename_i h1; exact absurd h h1
  · rename_i h1; exact ⟨by omega, h⟩
theorem Unmap_any (A : Option Addr) (n c : Nat) (rs : List (Int × Int)) (a b : Int) (w : World) (hr : Rd w 2 A n (flat2 .i64 rs)) (hn : n ≤ 1000) :
    Calls Tryd.prog 45 #[.slice A n c, .int .i64 a, .int .i64 b] w fun e w' => RgRes w w' (unmR rs a b).1 (unmR rs a b).2 e := by
  by_cases hE : begE rs a b = 0
  · exact Unmap_go A n c rs a b w hr hn hE
  · have : unmR rs a b = ([], begE rs a b) := by unfold unmR; rw [if_pos hE]
    rw [this]
    exact Unmap_bad A n c rs a b w hr (by omega) hE
theorem RgRes.open {w w' : World} {l : List (Int × Int)} {er : Int} {e : Ending} (h : RgRes w w' l er e) : ∃ A c, e = .returned (.tuple #[.slice A l.length c, .int .i64 er]) ∧ Rd w' 2 A l.length (flat2 .i64 l) ∧ Below w.heap.size w w' := by
  obtain ⟨v, rfl, hown, hb⟩ := h
  obtain ⟨A, c, rfl, hr⟩ := own_slice hown
  exact ⟨A, c, rfl, hr, hb⟩
theorem regK_le (f : Nat → Bool) : ∀ k, (regK f k).length ≤ k
  | 0 => by simp [regK]
  | k + 1 => by
    have h := regK_le f k
    rw [regK, regA]
    split
    · omega
    · split
      · simp; omega
      · simp; omega
theorem regs_le (f : Nat → Bool) : (regs f).length ≤ 64 := regK_le f 64
theorem mapR_le (rs : List (Int × Int)) (a b m : Int) : (mapR rs a b m).1.length ≤ 64 := by
  unfold mapR
  split
  · simp
  · split
    · simp
    · split
      · simp
      · exact regs_le _
theorem unmR_le (rs : List (Int × Int)) (a b : Int) : (unmR rs a b).1.length ≤ 64 := by
  unfold unmR
  split
  · simp
  · split
    · simp
    · exact regs_le _
end Go.Proofs.YtfblbkhiaglelaaDoor
