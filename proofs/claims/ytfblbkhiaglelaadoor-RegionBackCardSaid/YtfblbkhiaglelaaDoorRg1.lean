/- Regions as plain lists and numbers: which lists are valid, and which pages they have. No walk here. -/
import Derived.Test.YtfblbkhiaglelaaDoorBase
namespace Go.Proofs.YtfblbkhiaglelaaDoor
open Go
set_option linter.unusedSimpArgs false
set_option linter.unusedVariables false

/-- The error of the range i of a list. -/
def rgE (rs : List (Int × Int)) (i : Nat) : Int :=
  if (rs.getD i (0, 0)).1 < 0 ∨ (rs.getD i (0, 0)).2 < (rs.getD i (0, 0)).1 ∨ 63 < (rs.getD i (0, 0)).2 then 2
  else if 0 < i ∧ (rs.getD i (0, 0)).1 < (rs.getD (i - 1) (0, 0)).2 + 2 then 8 else 0
/-- The first error from the range i on. -/
def rgF (rs : List (Int × Int)) : Nat → Nat → Int × Int
  | 0, _ => (0, 0)
  | f + 1, i => if rgE rs i = 0 then rgF rs f (i + 1) else (rgE rs i, (i : Int))
/-- The first error of a list, and the number of its range. -/
def regE (rs : List (Int × Int)) : Int × Int := rgF rs rs.length 0
theorem rgF_hit (rs : List (Int × Int)) : ∀ (f i k : Nat), i ≤ k → k < i + f → (∀ j, i ≤ j → j < k → rgE rs j = 0) → rgE rs k ≠ 0 → rgF rs f i = (rgE rs k, (k : Int))
  | 0, i, k, h1, h2, _, _ => by omega
  | f + 1, i, k, h1, h2, h3, h4 => by
    rw [rgF]
    rcases Nat.eq_or_lt_of_le h1 with h | h
    · subst h; rw [if_neg h4]
    · rw [if_pos (h3 i (Nat.le_refl _) h)]
      exact rgF_hit rs f (i + 1) k h (by omega) (fun j a b => h3 j (by omega) b) h4
theorem rgF_ok (rs : List (Int × Int)) : ∀ (f i : Nat), (∀ j, i ≤ j → j < i + f → rgE rs j = 0) → rgF rs f i = (0, 0)
  | 0, i, _ => rfl
  | f + 1, i, h => by
    rw [rgF, if_pos (h i (Nat.le_refl _) (by omega))]
    exact rgF_ok rs f (i + 1) (fun j a b => h j (by omega) (by omega))
theorem regE_hit (rs : List (Int × Int)) (k : Nat) (hk : k < rs.length) (h : ∀ j, j < k → rgE rs j = 0) (h' : rgE rs k ≠ 0) : regE rs = (rgE rs k, (k : Int)) :=
  rgF_hit rs rs.length 0 k (Nat.zero_le _) (by omega) (fun j _ b => h j b) h'
theorem regE_ok (rs : List (Int × Int)) (h : ∀ j, j < rs.length → rgE rs j = 0) : regE rs = (0, 0) := rgF_ok rs rs.length 0 (fun j _ b => h j (by omega))
theorem rgF_zero (rs : List (Int × Int)) : ∀ (f i : Nat), (rgF rs f i).1 = 0 → ∀ j, i ≤ j → j < i + f → rgE rs j = 0
  | 0, i, _ => fun j a b => by omega
  | f + 1, i, h => by
    intro j a b
    rw [rgF] at h
    split at h
    · rename_i h0
      by_cases hj : j = i
      · rw [hj]; exact h0
      · exact rgF_zero rs f (i + 1) h j (by omega) (by omega)
    · rename_i h0; exact absurd h h0
/-- A list is valid: every range of it is. -/
def RgV (rs : List (Int × Int)) : Prop := ∀ j, j < rs.length → rgE rs j = 0
theorem regE_zero (rs : List (Int × Int)) (h : (regE rs).1 = 0) : RgV rs := fun j hj => rgF_zero rs rs.length 0 h j (Nat.zero_le _) (by omega)
theorem RgV.ok {rs : List (Int × Int)} (h : RgV rs) : regE rs = (0, 0) := regE_ok rs h
theorem rgE_one {rs : List (Int × Int)} {i : Nat} (h : rgE rs i = 0) : 0 ≤ (rs.getD i (0, 0)).1 ∧ (rs.getD i (0, 0)).1 ≤ (rs.getD i (0, 0)).2 ∧ (rs.getD i (0, 0)).2 ≤ 63 ∧ (0 < i → (rs.getD (i - 1) (0, 0)).2 + 2 ≤ (rs.getD i (0, 0)).1) := by
  unfold rgE at h
  split at h
  · omega
  · split at h
    · omega
    · refine ⟨by omega, by omega, by omega, fun hi => by omega⟩
/-- Whether a page is mapped. -/
def hasP (rs : List (Int × Int)) (p : Nat) : Bool := rs.any fun r => decide (r.1 ≤ (p : Int)) && decide ((p : Int) ≤ r.2)
theorem hasP_iff (rs : List (Int × Int)) (p : Nat) : hasP rs p = true ↔ ∃ j, j < rs.length ∧ (rs.getD j (0, 0)).1 ≤ (p : Int) ∧ (p : Int) ≤ (rs.getD j (0, 0)).2 := by
  unfold hasP
  rw [List.any_eq_true]
  constructor
  · rintro ⟨r, hr, h⟩
    obtain ⟨j, hj, rfl⟩ := List.getElem_of_mem hr
    simp only [Bool.and_eq_true, decide_eq_true_eq] at h
    exact ⟨j, hj, by simpa [List.getD_eq_getElem?_getD, hj] using h⟩
  · rintro ⟨j, hj, h⟩
    refine ⟨rs[j], List.getElem_mem hj, ?_⟩
    simpa [List.getD_eq_getElem?_getD, hj] using h
def hasRg (rs : List (Int × Int)) (page : Int) : Bool × Int :=
  if (regE rs).1 ≠ 0 then (false, (regE rs).1) else if page < 0 ∨ 63 < page then (false, 2) else (hasP rs page.toNat, 0)
theorem hasRg_ok (rs : List (Int × Int)) (p : Nat) (h : RgV rs) (hp : p < 64) : hasRg rs p = (hasP rs p, 0) := by
  unfold hasRg
  rw [h.ok, if_neg (by simp), if_neg (by omega), Int.toNat_natCast]

/-- The pages from a to b as the bits of a word. -/
def spanN (a b : Nat) : Nat := 18446744073709551615 / 2 ^ (63 - b) / 2 ^ a * 2 ^ a
theorem ones_bit (j : Nat) : (18446744073709551615 : Nat).testBit j = decide (j < 64) := by
  rw [show (18446744073709551615 : Nat) = 2 ^ 64 - 1 from rfl, Nat.testBit_two_pow_sub_one]
theorem spanN_bit (a b j : Nat) (hb : b < 64) : (spanN a b).testBit j = (decide (a ≤ j) && decide (j ≤ b)) := by
  unfold spanN
  rw [Nat.testBit_mul_two_pow, Nat.testBit_div_two_pow, Nat.testBit_div_two_pow, ones_bit]
  by_cases h : a ≤ j
  · simp [h]; omega
  · simp [h]
theorem spanN_lt (a b : Nat) : spanN a b < 18446744073709551616 := by
  unfold spanN
  have h1 : 18446744073709551615 / 2 ^ (63 - b) / 2 ^ a * 2 ^ a ≤ 18446744073709551615 / 2 ^ (63 - b) := Nat.div_mul_le_self _ _
  have h2 : 18446744073709551615 / 2 ^ (63 - b) ≤ 18446744073709551615 := Nat.div_le_self _ _
  omega
/-- The pages of the first k ranges as the bits of a word. -/
def setN (rs : List (Int × Int)) : Nat → Nat
  | 0 => 0
  | k + 1 => setN rs k ||| spanN (rs.getD k (0, 0)).1.toNat (rs.getD k (0, 0)).2.toNat
theorem setN_lt (rs : List (Int × Int)) : ∀ k, setN rs k < 18446744073709551616
  | 0 => by simp [setN]
  | k + 1 => Nat.or_lt_two_pow (n := 64) (setN_lt rs k) (spanN_lt _ _)
theorem setN_bit (rs : List (Int × Int)) (h : RgV rs) (p : Nat) : ∀ k, k ≤ rs.length → ((setN rs k).testBit p = true ↔ ∃ j, j < k ∧ (rs.getD j (0, 0)).1 ≤ (p : Int) ∧ (p : Int) ≤ (rs.getD j (0, 0)).2)
  | 0, _ => by simp [setN]
  | k + 1, hk => by
    obtain ⟨h1, h2, h3, _⟩ := rgE_one (h k (by omega))
    rw [setN, Nat.testBit_or, spanN_bit _ _ _ (by omega), Bool.or_eq_true, setN_bit rs h p k (by omega), Bool.and_eq_true, decide_eq_true_eq, decide_eq_true_eq]
    constructor
    · rintro (⟨j, a, b⟩ | ⟨a, b⟩)
      · exact ⟨j, by omega, b⟩
      · exact ⟨k, by omega, by omega, by omega⟩
    · rintro ⟨j, a, b, c⟩
      by_cases hj : j = k
      · subst hj; exact .inr ⟨by omega, by omega⟩
      · exact .inl ⟨j, by omega, b, c⟩
theorem setN_has (rs : List (Int × Int)) (h : RgV rs) (p : Nat) : (setN rs rs.length).testBit p = hasP rs p := by
  rw [Bool.eq_iff_iff, setN_bit rs h p _ (Nat.le_refl _), hasP_iff]
theorem getD_pair {rs : List (Int × Int)} {i : Nat} {r : Int × Int} (h : rs[i]? = some r) : rs.getD i (0, 0) = r := by rw [List.getD_eq_getElem?_getD, h]; rfl
end Go.Proofs.YtfblbkhiaglelaaDoor
