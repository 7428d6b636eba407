/- Texts of ranges: plain lists, no program in sight. -/
import Derived.Test.YtmaebbbaooodaaaDoorNumP
namespace Go.Proofs.YtmaebbbaooodaaaDoor
open Go
set_option linter.unusedSimpArgs false
set_option linter.unusedVariables false

def headA (l : List UInt8) : List UInt8 := (Lib.cut l [46, 46]).1
def tailA (l : List UInt8) : List UInt8 := if (Lib.cut l [46, 46]).2.2 then (Lib.cut l [46, 46]).2.1 else (Lib.cut l [46, 46]).1
def rngA (a b : Option Nat) : Int × Int × Int :=
  match a, b with
  | some x, some y => if y < x ∨ 64 ≤ y then (0, 0, 2) else ((x : Int), (y : Int), 0)
  | _, _ => (0, 0, 3)
/-- Which range a text is, or which error. -/
def parA (l : List UInt8) : Int × Int × Int := rngA (numM 18 (headA l)) (numM 18 (tailA l))
def txtA (f t : Nat) : List UInt8 := if f = t then Lib.decDigits f else Lib.decDigits f ++ [46, 46] ++ Lib.decDigits t
/-- The text of a range, or which error. -/
def textA (a b : Int) : List UInt8 × Int := if a < 0 ∨ b < a ∨ 64 ≤ b then ([], 2) else (txtA a.toNat b.toNat, 0)

theorem back_all : ((List.range 64).all fun f => (List.range 64).all fun t => decide (t < f) || decide (parA (txtA f t) = ((f : Int), (t : Int), 0))) = true := by decide +kernel
theorem back_one (f t : Nat) (h : f ≤ t) (ht : t < 64) : parA (txtA f t) = ((f : Int), (t : Int), 0) := by
  have h1 := List.all_eq_true.1 back_all f (List.mem_range.2 (by omega))
  have h2 := List.all_eq_true.1 h1 t (List.mem_range.2 ht)
  simp only [Bool.or_eq_true, decide_eq_true_eq] at h2
  rcases h2 with h2 | h2
  · omega
  · exact h2
theorem len_all : ((List.range 64).all fun f => (List.range 64).all fun t => decide ((txtA f t).length ≤ 6)) = true := by decide +kernel
theorem txtA_len (f t : Nat) (hf : f < 64) (ht : t < 64) : (txtA f t).length ≤ 6 := by
  have h1 := List.all_eq_true.1 len_all f (List.mem_range.2 hf)
  have h2 := List.all_eq_true.1 h1 t (List.mem_range.2 ht)
  simpa using h2
theorem txtA_inj (f t g u : Nat) (h : f ≤ t) (ht : t < 64) (h' : g ≤ u) (hu : u < 64) : (txtA f t = txtA g u) ↔ (f = g ∧ t = u) := by
  constructor
  · intro e
    have h1 := back_one f t h ht
    rw [e, back_one g u h' hu] at h1
    simp only [Prod.mk.injEq] at h1
    omega
  · rintro ⟨rfl, rfl⟩; rfl
theorem dig64_all : ((List.range 64).all fun n => decide ((Lib.decDigits n).length ≤ 2)) = true := by decide +kernel
theorem dig64_len (n : Nat) (h : n < 64) : (Lib.decDigits n).length ≤ 2 := by simpa using List.all_eq_true.1 dig64_all n (List.mem_range.2 h)

/-- Where the two points are first, by their places. -/
theorem occ_at (l : List UInt8) (i : Nat) : Lib.occAt l [46, 46] i = true ↔ (l[i]? = some 46 ∧ l[i + 1]? = some 46) := by
  unfold Lib.occAt
  rw [List.isPrefixOf_iff_prefix]
  constructor
  · rintro ⟨r, h⟩
    have h0 : (l.drop i)[0]? = some 46 := by rw [← h]; rfl
    have h1 : (l.drop i)[1]? = some 46 := by rw [← h]; rfl
    rw [List.getElem?_drop] at h0 h1
    exact ⟨by simpa using h0, h1⟩
  · rintro ⟨h0, h1⟩
    obtain ⟨a0, b0⟩ := List.getElem?_eq_some_iff.1 h0
    obtain ⟨a1, b1⟩ := List.getElem?_eq_some_iff.1 h1
    refine ⟨l.drop (i + 2), ?_⟩
    rw [List.drop_eq_getElem_cons a0, List.drop_eq_getElem_cons a1, b0, b1]
    rfl
theorem cut_hit (l : List UInt8) (i : Nat) (h : Lib.occAt l [46, 46] i = true) (hn : ∀ j, j < i → Lib.occAt l [46, 46] j = false) : headA l = l.take i ∧ tailA l = l.drop (i + 2) := by
  have hi : i ≤ l.length := by
    have := (List.getElem?_eq_some_iff.1 ((occ_at l i).1 h).1).1
    omega
  have e := Lib.index_first hi h hn
  have e2 : Lib.cut l [46, 46] = (l.take i, l.drop (i + 2), true) := by unfold Lib.cut; rw [e, if_pos (by omega)]; simp
  unfold headA tailA
  rw [e2]
  exact ⟨rfl, rfl⟩
theorem cut_none (l : List UInt8) (hn : ∀ j, j + 1 < l.length → Lib.occAt l [46, 46] j = false) : headA l = l ∧ tailA l = l := by
  have e : Lib.index l [46, 46] = -1 := Lib.index_none fun j hj => by
    by_cases h : j + 1 < l.length
    · exact hn j h
    · rw [Bool.eq_false_iff]
      intro h1
      have := (List.getElem?_eq_some_iff.1 ((occ_at l j).1 h1).2).1
      exact h this
  have e2 : Lib.cut l [46, 46] = (l, [], false) := by unfold Lib.cut; rw [e, if_neg (by omega)]
  unfold headA tailA
  rw [e2]
  exact ⟨rfl, rfl⟩
theorem rngA_min (x y : Nat) : rngA (some x) (some y) = if min (y : Int) 64 < min (x : Int) 64 ∨ 64 ≤ min (y : Int) 64 then (0, 0, 2) else (min (x : Int) 64, min (y : Int) 64, 0) := by
  show (if y < x ∨ 64 ≤ y then ((0 : Int), (0 : Int), (2 : Int)) else ((x : Int), (y : Int), (0 : Int))) = _
  by_cases h : y < x ∨ 64 ≤ y
  · rw [if_pos h, if_pos (by omega)]
  · rw [if_neg h, if_neg (by omega)]
    simp only [Prod.mk.injEq, and_true]
    omega
end Go.Proofs.YtmaebbbaooodaaaDoor
