/- Several texts in one. -/
import Derived.Test.YtpkgfkhaiifooaaGreatDoorBase
/- Regions as plain lists and numbers: which lists are valid, and which pages they have. No walk here. -/
namespace Go.Proofs.YtpkgfkhaiifooaaGreatDoor
open Go
set_option linter.unusedSimpArgs false
set_option linter.unusedVariables false

/-- The error of the range i of a list. -/
def rgE (rs : List (Int × Int)) (i : Nat) : Int :=
  if (rs.getD i (0, 0)).1 < 0 ∨ (rs.getD i (0, 0)).2 < (rs.getD i (0, 0)).1 ∨ 63 < (rs.getD i (0, 0)).2 then 2
  else if 0 < i ∧ (rs.getD i (0, 0)).1 < (rs.getD (i - 1) (0, 0)).2 + 2 then 8 else 0
/-- The first error from the range i on. -/
def rgF (rs : List (Int × Int)) : Nat → Nat → Int × Int
  | 0, _ => (0, 0)
  | f + 1, i => if rgE rs i = 0 then rgF rs f (i + 1) else (rgE rs i, (i : Int))
/-- The first error of a list, and the number of its range. -/
def regE (rs : List (Int × Int)) : Int × Int := rgF rs rs.length 0
theorem rgF_hit (rs : List (Int × Int)) : ∀ (f i k : Nat), i ≤ k → k < i + f → (∀ j, i ≤ j → j < k → rgE rs j = 0) → rgE rs k ≠ 0 → rgF rs f i = (rgE rs k, (k : Int))
  | 0, i, k, h1, h2, _, _ => by omega
  | f + 1, i, k, h1, h2, h3, h4 => by
    rw [rgF]
    rcases Nat.eq_or_lt_of_le h1 with h | h
    · subst h; rw [if_neg h4]
    · rw [if_pos (h3 i (Nat.le_refl _) h)]
      exact rgF_hit rs f (i + 1) k h (by omega) (fun j a b => h3 j (by omega) b) h4
theorem rgF_ok (rs : List (Int × Int)) : ∀ (f i : Nat), (∀ j, i ≤ j → j < i + f → rgE rs j = 0) → rgF rs f i = (0, 0)
  | 0, i, _ => rfl
  | f + 1, i, h => by
    rw [rgF, if_pos (h i (Nat.le_refl _) (by omega))]
    exact rgF_ok rs f (i + 1) (fun j a b => h j (by omega) (by omega))
theorem regE_hit (rs : List (Int × Int)) (k : Nat) (hk : k < rs.length) (h : ∀ j, j < k → rgE rs j = 0) (h' : rgE rs k ≠ 0) : regE rs = (rgE rs k, (k : Int)) :=
  rgF_hit rs rs.length 0 k (Nat.zero_le _) (by omega) (fun j _ b => h j b) h'
theorem regE_ok (rs : List (Int × Int)) (h : ∀ j, j < rs.length → rgE rs j = 0) : regE rs = (0, 0) := rgF_ok rs rs.length 0 (fun j _ b => h j (by omega))
theorem rgF_zero (rs : List (Int × Int)) : ∀ (f i : Nat), (rgF rs f i).1 = 0 → ∀ j, i ≤ j → j < i + f → rgE rs j = 0
  | 0, i, _ => fun j a b => by omega
  | f + 1, i, h => by
    intro j a b
    rw [rgF] at h
    split at h
    · rename_i h0
      by_cases hj : j = i
      · rw [hj]; exact h0
      · exact rgF_zero rs f (i + 1) h j (by omega) (by omega)
    · rename_i h0; exact absurd h h0
/-- A list is valid: every range of it is. -/
def RgV (rs : List (Int × Int)) : Prop := ∀ j, j < rs.length → rgE rs j = 0
theorem regE_zero (rs : List (Int × Int)) (h : (regE rs).1 = 0) : RgV rs := fun j hj => rgF_zero rs rs.length 0 h j (Nat.zero_le _) (by omega)
theorem RgV.ok {rs : List (Int × Int)} (h : RgV rs) : regE rs = (0, 0) := regE_ok rs h
theorem rgE_one {rs : List (Int × Int)} {i : Nat} (h : rgE rs i = 0) : 0 ≤ (rs.getD i (0, 0)).1 ∧ (rs.getD i (0, 0)).1 ≤ (rs.getD i (0, 0)).2 ∧ (rs.getD i (0, 0)).2 ≤ 63 ∧ (0 < i → (rs.getD (i - 1) (0, 0)).2 + 2 ≤ (rs.getD i (0, 0)).1) := by
  unfold rgE at h
  split at h
  · omega
  · split at h
    · omega
    · refine ⟨by omega, by omega, by omega, fun hi => by omega⟩
/-- Whether a page is mapped. -/
def hasP (rs : List (Int × Int)) (p : Nat) : Bool := rs.any fun r => decide (r.1 ≤ (p : Int)) && decide ((p : Int) ≤ r.2)
theorem hasP_iff (rs : List (Int × Int)) (p : Nat) : hasP rs p = true ↔ ∃ j, j < rs.length ∧ (rs.getD j (0, 0)).1 ≤ (p : Int) ∧ (p : Int) ≤ (rs.getD j (0, 0)).2 := by
  unfold hasP
  rw [List.any_eq_true]
  constructor
  · rintro ⟨r, hr, h⟩
    obtain ⟨j, hj, rfl⟩ := List.getElem_of_mem hr
    simp only [Bool.and_eq_true, decide_eq_true_eq] at h
    exact ⟨j, hj, by simpa [List.getD_eq_getElem?_getD, hj] using h⟩
  · rintro ⟨j, hj, h⟩
    refine ⟨rs[j], List.getElem_mem hj, ?_⟩
    simpa [List.getD_eq_getElem?_getD, hj] using h
def hasRg (rs : List (Int × Int)) (page : Int) : Bool × Int :=
  if (regE rs).1 ≠ 0 then (false, (regE rs).1) else if page < 0 ∨ 63 < page then (false, 2) else (hasP rs page.toNat, 0)
theorem hasRg_ok (rs : List (Int × Int)) (p : Nat) (h : RgV rs) (hp : p < 64) : hasRg rs p = (hasP rs p, 0) := by
  unfold hasRg
  rw [h.ok, if_neg (by simp), if_neg (by omega), Int.toNat_natCast]

/-- The pages from a to b as the bits of a word. -/
def spanN (a b : Nat) : Nat := 18446744073709551615 / 2 ^ (63 - b) / 2 ^ a * 2 ^ a
theorem ones_bit (j : Nat) : (18446744073709551615 : Nat).testBit j = decide (j < 64) := by
  rw [show (18446744073709551615 : Nat) = 2 ^ 64 - 1 from rfl, Nat.testBit_two_pow_sub_one]
theorem spanN_bit (a b j : Nat) (hb : b < 64) : (spanN a b).testBit j = (decide (a ≤ j) && decide (j ≤ b)) := by
  unfold spanN
  rw [Nat.testBit_mul_two_pow, Nat.testBit_div_two_pow, Nat.testBit_div_two_pow, ones_bit]
  by_cases h : a ≤ j
  · simp [h]; omega
  · simp [h]
theorem spanN_lt (a b : Nat) : spanN a b < 18446744073709551616 := by
  unfold spanN
  have h1 : 18446744073709551615 / 2 ^ (63 - b) / 2 ^ a * 2 ^ a ≤ 18446744073709551615 / 2 ^ (63 - b) := Nat.div_mul_le_self _ _
  have h2 : 18446744073709551615 / 2 ^ (63 - b) ≤ 18446744073709551615 := Nat.div_le_self _ _
  omega
/-- The pages of the first k ranges as the bits of a word. -/
def setN (rs : List (Int × Int)) : Nat → Nat
  | 0 => 0
  | k + 1 => setN rs k ||| spanN (rs.getD k (0, 0)).1.toNat (rs.getD k (0, 0)).2.toNat
theorem setN_lt (rs : List (Int × Int)) : ∀ k, setN rs k < 18446744073709551616
  | 0 => by simp [setN]
  | k + 1 => Nat.or_lt_two_pow (n := 64) (setN_lt rs k) (spanN_lt _ _)
theorem setN_bit (rs : List (Int × Int)) (h : RgV rs) (p : Nat) : ∀ k, k ≤ rs.length → ((setN rs k).testBit p = true ↔ ∃ j, j < k ∧ (rs.getD j (0, 0)).1 ≤ (p : Int) ∧ (p : Int) ≤ (rs.getD j (0, 0)).2)
  | 0, _ => by simp [setN]
  | k + 1, hk => by
    obtain ⟨h1, h2, h3, _⟩ := rgE_one (h k (by omega))
    rw [setN, Nat.testBit_or, spanN_bit _ _ _ (by omega), Bool.or_eq_true, setN_bit rs h p k (by omega), Bool.and_eq_true, decide_eq_true_eq, decide_eq_true_eq]
    constructor
    · rintro (⟨j, a, b⟩ | ⟨a, b⟩)
      · exact ⟨j, by omega, b⟩
      · exact ⟨k, by omega, by omega, by omega⟩
    · rintro ⟨j, a, b, c⟩
      by_cases hj : j = k
      · subst hj; exact .inr ⟨by omega, by omega⟩
      · exact .inl ⟨j, by omega, b, c⟩
theorem setN_has (rs : List (Int × Int)) (h : RgV rs) (p : Nat) : (setN rs rs.length).testBit p = hasP rs p := by
  rw [Bool.eq_iff_iff, setN_bit rs h p _ (Nat.le_refl _), hasP_iff]
theorem getD_pair {rs : List (Int × Int)} {i : Nat} {r : Int × Int} (h : rs[i]? = some r) : rs.getD i (0, 0) = r := by rw [List.getD_eq_getElem?_getD, h]; rfl
end Go.Proofs.YtpkgfkhaiifooaaGreatDoor
/- Regions: a valid list is known by its pages; the regions of a set of pages. Plain lists, no program in sight. -/
namespace Go.Proofs.YtpkgfkhaiifooaaGreatDoor
open Go
set_option linter.unusedSimpArgs false
set_option linter.unusedVariables false

/-- A list is valid from a page on. -/
def VF (lo : Int) : List (Int × Int) → Prop
  | [] => True
  | r :: t => lo ≤ r.1 ∧ r.1 ≤ r.2 ∧ r.2 ≤ 63 ∧ VF (r.2 + 2) t
theorem rgE_iff (rs : List (Int × Int)) (i : Nat) : rgE rs i = 0 ↔ 0 ≤ (rs.getD i (0, 0)).1 ∧ (rs.getD i (0, 0)).1 ≤ (rs.getD i (0, 0)).2 ∧ (rs.getD i (0, 0)).2 ≤ 63 ∧ (0 < i → (rs.getD (i - 1) (0, 0)).2 + 2 ≤ (rs.getD i (0, 0)).1) := by
  refine ⟨rgE_one, fun ⟨h1, h2, h3, h4⟩ => ?_⟩
  unfold rgE
  rw [if_neg (by omega), if_neg]
  rintro ⟨h5, h6⟩
  have := h4 h5
  omega
theorem VF_iff : ∀ (rs : List (Int × Int)) (lo : Int), 0 ≤ lo → (VF lo rs ↔ RgV rs ∧ (0 < rs.length → lo ≤ (rs.getD 0 (0, 0)).1))
  | [], lo, _ => by simp [VF, RgV]
  | r :: t, lo, h0 => by
    rw [VF]
    constructor
    · rintro ⟨h1, h2, h3, h4⟩
      have ih := (VF_iff t (r.2 + 2) (by omega)).1 h4
      refine ⟨fun j hj => ?_, fun _ => by simpa using h1⟩
      rw [rgE_iff]
      rcases j with _ | j
      · simp; omega
      · have hj' : j < t.length := by simpa using hj
        have hh := (rgE_iff t j).1 (ih.1 j hj')
        simp only [List.getD_cons_succ, Nat.add_sub_cancel]
        refine ⟨hh.1, hh.2.1, hh.2.2.1, fun _ => ?_⟩
        rcases j with _ | j
        · simpa using ih.2 (by omega)
        · simpa using hh.2.2.2 (by omega)
    · rintro ⟨h1, h2⟩
      have a0 := (rgE_iff _ _).1 (h1 0 (by simp))
      have b0 := h2 (by simp)
      simp at a0 b0
      refine ⟨b0, by omega, by omega, (VF_iff t (r.2 + 2) (by omega)).2 ⟨fun j hj => ?_, fun hl => ?_⟩⟩
      · have hh := (rgE_iff _ _).1 (h1 (j + 1) (by simp; omega))
        simp only [List.getD_cons_succ, Nat.add_sub_cancel] at hh
        rw [rgE_iff]
        refine ⟨hh.1, hh.2.1, hh.2.2.1, fun hj0 => ?_⟩
        have := hh.2.2.2 (by omega)
        rcases j with _ | j
        · omega
        · simpa using this
      · have hh := (rgE_iff _ _).1 (h1 1 (by simp; omega))
        simp only [List.getD_cons_succ] at hh
        simpa using hh.2.2.2 (by omega)
theorem RgV_iff (rs : List (Int × Int)) : RgV rs ↔ VF 0 rs := by
  rw [VF_iff rs 0 (by omega)]
  refine ⟨fun h => ⟨h, fun hl => ((rgE_iff _ _).1 (h 0 hl)).1⟩, fun h => h.1⟩
theorem VF_mono : ∀ {rs : List (Int × Int)} {lo lo' : Int}, VF lo rs → lo' ≤ lo → VF lo' rs
  | [], _, _, _, _ => trivial
  | r :: t, _, _, h, hl => ⟨by have := h.1; omega, h.2⟩
theorem hasP_cons (r : Int × Int) (t : List (Int × Int)) (p : Nat) : hasP (r :: t) p = ((decide (r.1 ≤ (p : Int)) && decide ((p : Int) ≤ r.2)) || hasP t p) := by simp [hasP]
theorem hasP_append (a b : List (Int × Int)) (p : Nat) : hasP (a ++ b) p = (hasP a p || hasP b p) := by simp [hasP]
theorem hasP_nil (p : Nat) : hasP [] p = false := rfl
/-- All pages of a list that is valid from a page on are from that page on, and at most 63. -/
theorem VF_has : ∀ {rs : List (Int × Int)} {lo : Int} {p : Nat}, VF lo rs → hasP rs p = true → lo ≤ (p : Int) ∧ (p : Int) ≤ 63
  | [], _, _, _, h => by simp [hasP] at h
  | r :: t, lo, p, hv, h => by
    obtain ⟨h1, h2, h3, h4⟩ := hv
    rw [hasP_cons, Bool.or_eq_true, Bool.and_eq_true, decide_eq_true_eq, decide_eq_true_eq] at h
    rcases h with h | h
    · omega
    · have := VF_has h4 h; omega
theorem VF_not {rs : List (Int × Int)} {lo : Int} {p : Nat} (hv : VF lo rs) (h : (p : Int) < lo) : hasP rs p = false := by
  rw [Bool.eq_false_iff]
  intro hp
  have := (VF_has hv hp).1
  omega
/-- Two valid lists with the same pages are equal. -/
theorem VF_uniq : ∀ (rs ts : List (Int × Int)) (lo : Int), 0 ≤ lo → VF lo rs → VF lo ts → (∀ p : Nat, p < 64 → hasP rs p = hasP ts p) → rs = ts
  | [], [], _, _, _, _, _ => rfl
  | [], s :: u, lo, h0, _, hv, h => by
    obtain ⟨h1, h2, h3, h4⟩ := hv
    have := h s.1.toNat (by omega)
    rw [hasP_nil, hasP_cons, decide_eq_true (by omega), decide_eq_true (by omega)] at this
    cases this
  | r :: t, [], lo, h0, hv, _, h => by
    obtain ⟨h1, h2, h3, h4⟩ := hv
    have := h r.1.toNat (by omega)
    rw [hasP_nil, hasP_cons, decide_eq_true (by omega), decide_eq_true (by omega)] at this
    cases this
  | r :: t, s :: u, lo, h0, hr, hs, h => by
    obtain ⟨a1, a2, a3, a4⟩ := hr
    obtain ⟨b1, b2, b3, b4⟩ := hs
    have e1 : r.1 = s.1 := by
      rcases Int.lt_trichotomy r.1 s.1 with hl | hl | hl
      · have := h r.1.toNat (by omega)
        rw [hasP_cons, hasP_cons, decide_eq_true (show r.1 ≤ ((r.1.toNat : Nat) : Int) by omega), decide_eq_true (show ((r.1.toNat : Nat) : Int) ≤ r.2 by omega), decide_eq_false (show ¬ s.1 ≤ ((r.1.toNat : Nat) : Int) by omega), VF_not b4 (by omega)] at this
        simp at this
      · exact hl
      · have := h s.1.toNat (by omega)
        rw [hasP_cons, hasP_cons, decide_eq_true (show s.1 ≤ ((s.1.toNat : Nat) : Int) by omega), decide_eq_true (show ((s.1.toNat : Nat) : Int) ≤ s.2 by omega), decide_eq_false (show ¬ r.1 ≤ ((s.1.toNat : Nat) : Int) by omega), VF_not a4 (by omega)] at this
        simp at this
    have e2 : r.2 = s.2 := by
      rcases Int.lt_trichotomy r.2 s.2 with hl | hl | hl
      · have := h (r.2 + 1).toNat (by omega)
        rw [hasP_cons, hasP_cons, decide_eq_false (show ¬ (((r.2 + 1).toNat : Nat) : Int) ≤ r.2 by omega), VF_not a4 (by omega), decide_eq_true (show s.1 ≤ (((r.2 + 1).toNat : Nat) : Int) by omega), decide_eq_true (show (((r.2 + 1).toNat : Nat) : Int) ≤ s.2 by omega)] at this
        simp at this
      · exact hl
      · have := h (s.2 + 1).toNat (by omega)
        rw [hasP_cons, hasP_cons, decide_eq_false (show ¬ (((s.2 + 1).toNat : Nat) : Int) ≤ s.2 by omega), VF_not b4 (by omega), decide_eq_true (show r.1 ≤ (((s.2 + 1).toNat : Nat) : Int) by omega), decide_eq_true (show (((s.2 + 1).toNat : Nat) : Int) ≤ r.2 by omega)] at this
        simp at this
    have e3 : r = s := Prod.ext e1 e2
    subst e3
    congr 1
    refine VF_uniq t u (r.2 + 2) (by omega) a4 b4 (fun p hp => ?_)
    by_cases hc : (p : Int) < r.2 + 2
    · rw [VF_not a4 hc, VF_not b4 hc]
    · have := h p hp
      rwa [hasP_cons, hasP_cons, decide_eq_false (show ¬ (p : Int) ≤ r.2 by omega), Bool.and_false, Bool.false_or, Bool.false_or] at this
theorem RgV_uniq {rs ts : List (Int × Int)} (h1 : RgV rs) (h2 : RgV ts) (h : ∀ p : Nat, p < 64 → hasP rs p = hasP ts p) : rs = ts :=
  VF_uniq rs ts 0 (Int.le_refl _) ((RgV_iff rs).1 h1) ((RgV_iff ts).1 h2) h

/-- Where a range may begin behind a list. -/
def endOf (lo : Int) (l : List (Int × Int)) : Int := match l.getLast? with | some r => r.2 + 2 | none => lo
theorem endOf_nil (lo : Int) : endOf lo [] = lo := rfl
theorem endOf_snoc (lo : Int) (l : List (Int × Int)) (r : Int × Int) : endOf lo (l ++ [r]) = r.2 + 2 := by simp [endOf]
theorem endOf_cons (lo : Int) (r : Int × Int) (l : List (Int × Int)) : endOf lo (r :: l) = endOf (r.2 + 2) l := by
  rcases List.eq_nil_or_concat l with rfl | ⟨l', x, rfl⟩
  · rfl
  · rw [List.concat_eq_append, endOf_snoc, show r :: (l' ++ [x]) = (r :: l') ++ [x] from rfl, endOf_snoc]
theorem VF_append : ∀ (a b : List (Int × Int)) (lo : Int), VF lo (a ++ b) ↔ VF lo a ∧ VF (endOf lo a) b
  | [], b, lo => by simp [VF, endOf_nil]
  | r :: a, b, lo => by
    rw [List.cons_append, VF, VF, VF_append a b (r.2 + 2), endOf_cons]
    constructor
    · rintro ⟨h1, h2, h3, h4, h5⟩; exact ⟨⟨h1, h2, h3, h4⟩, h5⟩
    · rintro ⟨⟨h1, h2, h3, h4⟩, h5⟩; exact ⟨h1, h2, h3, h4, h5⟩
theorem VF_snoc (l : List (Int × Int)) (r : Int × Int) (lo : Int) : VF lo (l ++ [r]) ↔ VF lo l ∧ endOf lo l ≤ r.1 ∧ r.1 ≤ r.2 ∧ r.2 ≤ 63 := by
  rw [VF_append]
  simp [VF]
theorem VF_endOf : ∀ {l : List (Int × Int)} {lo : Int}, VF lo l → lo ≤ endOf lo l ∧ ∀ p : Nat, hasP l p = true → (p : Int) + 2 ≤ endOf lo l
  | [], lo, _ => ⟨Int.le_refl _, fun p h => by simp [hasP] at h⟩
  | r :: t, lo, hv => by
    obtain ⟨h1, h2, h3, h4⟩ := hv
    rw [endOf_cons]
    obtain ⟨h5, h6⟩ := VF_endOf h4
    refine ⟨by omega, fun p hp => ?_⟩
    rw [hasP_cons, Bool.or_eq_true, Bool.and_eq_true, decide_eq_true_eq, decide_eq_true_eq] at hp
    rcases hp with hp | hp
    · omega
    · exact h6 p hp

/-- One page more: it goes into the last range if the page before is in, else it begins one. -/
def regA (f : Nat → Bool) (l : List (Int × Int)) (k : Nat) : List (Int × Int) :=
  if f k = false then l else if 0 < k ∧ f (k - 1) = true then l.dropLast ++ [((l.getLastD (0, 0)).1, (k : Int))] else l ++ [((k : Int), (k : Int))]
/-- The regions of the pages below k. -/
def regK (f : Nat → Bool) : Nat → List (Int × Int)
  | 0 => []
  | k + 1 => regA f (regK f k) k
theorem regK_no (f : Nat → Bool) (k : Nat) (h : f k = false) : regK f (k + 1) = regK f k := by rw [regK, regA, if_pos h]
theorem regK_new (f : Nat → Bool) (k : Nat) (h : f k = true) (h' : k = 0 ∨ f (k - 1) = false) : regK f (k + 1) = regK f k ++ [((k : Int), (k : Int))] := by
  rw [regK, regA, if_neg (by simp [h]), if_neg]
  rintro ⟨h1, h2⟩
  rcases h' with h' | h'
  · omega
  · rw [h2] at h'; cases h'
theorem regK_on (f : Nat → Bool) (k : Nat) (l : List (Int × Int)) (a : Int) (b : Int) (h : f (k + 1) = true) (h' : f k = true) (hl : regK f (k + 1) = l ++ [(a, b)]) : regK f (k + 2) = l ++ [(a, ((k + 1 : Nat) : Int))] := by
  rw [show k + 2 = (k + 1) + 1 from rfl, regK, regA, if_neg (by simp [h]), if_pos ⟨by omega, by simpa using h'⟩, hl]
  simp
/-- The regions are valid, have the pages below k that are in, and end where the pages end. -/
theorem regK_ok (f : Nat → Bool) : ∀ k, k ≤ 64 → VF 0 (regK f k) ∧ (∀ p : Nat, hasP (regK f k) p = (decide (p < k) && f p)) ∧ endOf 0 (regK f k) ≤ (k : Int) + 1 ∧
    ((0 < k ∧ f (k - 1) = true) → ∃ l a, regK f k = l ++ [(a, ((k : Int) - 1))]) ∧ ((k = 0 ∨ f (k - 1) = false) → endOf 0 (regK f k) ≤ (k : Int))
  | 0, _ => by
    refine ⟨trivial, fun p => by simp [regK, hasP], by simp [regK, endOf], fun h => by omega, fun _ => by simp [regK, endOf]⟩
  | k + 1, hk => by
    obtain ⟨h1, h2, h3, h4, h5⟩ := regK_ok f k (by omega)
    rcases hf : f k with _ | _
    · rw [regK_no f k hf]
      refine ⟨h1, fun p => ?_, by omega, fun h => ?_, fun _ => by omega⟩
      · rw [h2 p]
        by_cases hp : p = k
        · subst hp; simp [hf]
        · congr 1; simp; omega
      · simp [hf] at h
    · by_cases hc : 0 < k ∧ f (k - 1) = true
      · obtain ⟨l, a, hl⟩ := h4 hc
        obtain ⟨m, rfl⟩ : ∃ m, k = m + 1 := ⟨k - 1, by omega⟩
        have hr := regK_on f m l a _ hf (by simpa using hc.2) hl
        rw [hl] at h1 h2
        rw [VF_snoc] at h1
        rw [hr]
        simp only at h1
        refine ⟨(VF_snoc _ _ _).2 ⟨h1.1, h1.2.1, by simp only; omega, by simp only; omega⟩, fun p => ?_, by rw [endOf_snoc]; simp only; omega, fun _ => ⟨l, a, by congr 3; omega⟩, fun h => ?_⟩
        · have h6 := h2 p
          rw [hasP_append, hasP_cons, hasP_nil, Bool.or_false] at h6 ⊢
          simp only at h6 ⊢
          by_cases hp : p = m + 1
          · subst hp
            rw [decide_eq_true (by omega), decide_eq_true (by omega), hf]
            simp
          · have e1 : decide ((p : Int) ≤ ((m + 1 : Nat) : Int)) = decide ((p : Int) ≤ ((m + 1 : Nat) : Int) - 1) := by congr 1; simp; omega
            rw [e1, h6]
            congr 1; simp; omega
        · rcases h with h | h
          · omega
          · simp [hf] at h
      · have hc' : k = 0 ∨ f (k - 1) = false := by
          by_cases h0 : k = 0
          · exact .inl h0
          · right
            rw [Bool.eq_false_iff]
            intro h; exact hc ⟨by omega, h⟩
        rw [regK_new f k hf hc']
        have h6 := h5 hc'
        refine ⟨(VF_snoc _ _ _).2 ⟨h1, h6, Int.le_refl _, by simp only; omega⟩, fun p => ?_, by rw [endOf_snoc]; simp only; omega, fun _ => ⟨_, _, by congr 3; omega⟩, fun h => ?_⟩
        · rw [hasP_append, hasP_cons, hasP_nil, Bool.or_false, h2 p]
          simp only
          by_cases hp : p = k
          · subst hp; simp [hf]
          · have e1 : (decide ((k : Int) ≤ (p : Int)) && decide ((p : Int) ≤ (k : Int))) = false := by
              rw [Bool.and_eq_false_iff]; simp only [decide_eq_false_iff_not]; omega
            rw [e1, Bool.or_false]
            congr 1; simp; omega
        · rcases h with h | h
          · omega
          · simp [hf] at h
/-- The regions of a set of pages. -/
def regs (f : Nat → Bool) : List (Int × Int) := regK f 64
theorem regs_v (f : Nat → Bool) : RgV (regs f) := (RgV_iff _).2 (regK_ok f 64 (Nat.le_refl _)).1
theorem regs_has (f : Nat → Bool) (p : Nat) (hp : p < 64) : hasP (regs f) p = f p := by
  rw [regs, (regK_ok f 64 (Nat.le_refl _)).2.1 p, decide_eq_true hp, Bool.true_and]
/-- A valid list is that of the regions of its pages. -/
theorem regs_of {rs : List (Int × Int)} {f : Nat → Bool} (h : RgV rs) (hf : ∀ p : Nat, p < 64 → hasP rs p = f p) : rs = regs f :=
  RgV_uniq h (regs_v f) (fun p hp => by rw [regs_has f p hp, hf p hp])
theorem regK_congr (f g : Nat → Bool) : ∀ k, (∀ p, p < k → f p = g p) → regK f k = regK g k
  | 0, _ => rfl
  | k + 1, h => by
    rw [regK, regK, regK_congr f g k (fun p hp => h p (by omega)), regA, regA, h k (by omega)]
    rcases k with _ | k
    · rfl
    · rw [show k + 1 - 1 = k from rfl, h k (by omega)]
theorem regK_len (f : Nat → Bool) : ∀ k, (regK f k).length ≤ k
  | 0 => by simp [regK]
  | k + 1 => by
    have := regK_len f k
    rw [regK, regA]
    split
    · omega
    · split
      · rename_i h
        rw [List.length_append, List.length_dropLast]
        simp
        omega
      · simp; omega
end Go.Proofs.YtpkgfkhaiifooaaGreatDoor
/- Regions with pages mapped and unmapped: plain lists, no program in sight. -/
namespace Go.Proofs.YtpkgfkhaiifooaaGreatDoor
open Go
set_option linter.unusedSimpArgs false
set_option linter.unusedVariables false

def inR (a b : Int) (p : Nat) : Bool := decide (a ≤ (p : Int)) && decide ((p : Int) ≤ b)
/-- How many pages are in a set. -/
def cntP (f : Nat → Bool) : Nat := (List.range 64).countP f
theorem cntP_le (f : Nat → Bool) : cntP f ≤ 64 := by
  have := List.countP_le_length (p := f) (l := List.range 64)
  simpa [cntP] using this
theorem cntP_congr (f g : Nat → Bool) (h : ∀ p, p < 64 → f p = g p) : cntP f = cntP g :=
  List.countP_congr (fun p hp => by rw [h p (List.mem_range.1 hp)])
theorem cnt_or (f g : Nat → Bool) (h : ∀ p, ¬ (f p = true ∧ g p = true)) : ∀ n, (List.range n).countP (fun p => f p || g p) = (List.range n).countP f + (List.range n).countP g
  | 0 => rfl
  | n + 1 => by
    rw [List.range_succ, List.countP_append, List.countP_append, List.countP_append, cnt_or f g h n, List.countP_singleton, List.countP_singleton, List.countP_singleton]
    have := h n
    rcases hf : f n with _ | _ <;> rcases hg : g n with _ | _ <;> simp_all <;> omega
theorem cnt_in (a b : Nat) (hab : a ≤ b) : ∀ n, (List.range n).countP (inR a b) = min n (b + 1) - a
  | 0 => by simp
  | n + 1 => by
    rw [List.range_succ, List.countP_append, cnt_in a b hab n, List.countP_singleton]
    have e : inR a b n = (decide (a ≤ n) && decide (n ≤ b)) := by
      unfold inR
      congr 1 <;> (apply decide_eq_decide.2; omega)
    rw [e]
    by_cases h1 : a ≤ n <;> by_cases h2 : n ≤ b <;> simp [h1, h2] <;> omega
theorem cntP_in (a b : Int) (h0 : 0 ≤ a) (h1 : a ≤ b) (h2 : b ≤ 63) : (cntP (inR a b) : Int) = b - a + 1 := by
  obtain ⟨x, rfl⟩ : ∃ x : Nat, a = x := ⟨a.toNat, by omega⟩
  obtain ⟨y, rfl⟩ : ∃ y : Nat, b = y := ⟨b.toNat, by omega⟩
  unfold cntP
  rw [cnt_in x y (by omega) 64]
  omega
theorem cntP_add (f : Nat → Bool) (a b : Int) (h0 : 0 ≤ a) (h1 : a ≤ b) (h2 : b ≤ 63) (h : ∀ p, ¬ (f p = true ∧ inR a b p = true)) : (cntP (fun p => f p || inR a b p) : Int) = cntP f + (b - a + 1) := by
  rw [← cntP_in a b h0 h1 h2]
  unfold cntP
  rw [cnt_or f _ h]
  omega

def rngE (a b : Int) : Int := if a < 0 ∨ b < a ∨ 63 < b then 2 else 0
def begE (rs : List (Int × Int)) (a b : Int) : Int := if (regE rs).1 ≠ 0 then (regE rs).1 else rngE a b
theorem begE_zero {rs : List (Int × Int)} {a b : Int} (h : begE rs a b = 0) : RgV rs ∧ 0 ≤ a ∧ a ≤ b ∧ b ≤ 63 := by
  unfold begE rngE at h
  split at h
  · rename_i h1; exact absurd h h1
  · rename_i h1
    split at h
    · omega
    · exact ⟨regE_zero rs (by omega), by omega, by omega, by omega⟩
/-- Whether a page of a range is mapped; whether all are. -/
def anyIn (rs : List (Int × Int)) (a b : Int) : Bool := (List.range 64).any fun p => inR a b p && hasP rs p
def allIn (rs : List (Int × Int)) (a b : Int) : Bool := (List.range 64).all fun p => !inR a b p || hasP rs p
theorem anyIn_iff (rs : List (Int × Int)) (a b : Int) (hb : b ≤ 63) : anyIn rs a b = true ↔ ∃ p : Nat, a ≤ (p : Int) ∧ (p : Int) ≤ b ∧ hasP rs p = true := by
  unfold anyIn inR
  rw [List.any_eq_true]
  simp only [List.mem_range, Bool.and_eq_true, decide_eq_true_eq]
  exact ⟨fun ⟨p, _, ⟨h1, h2⟩, h3⟩ => ⟨p, h1, h2, h3⟩, fun ⟨p, h1, h2, h3⟩ => ⟨p, by omega, ⟨h1, h2⟩, h3⟩⟩
theorem allIn_iff (rs : List (Int × Int)) (a b : Int) (hb : b ≤ 63) : allIn rs a b = true ↔ ∀ p : Nat, a ≤ (p : Int) → (p : Int) ≤ b → hasP rs p = true := by
  unfold allIn inR
  rw [List.all_eq_true]
  simp only [List.mem_range, Bool.or_eq_true, Bool.not_eq_true', Bool.and_eq_false_iff, decide_eq_false_iff_not]
  constructor
  · intro h p h1 h2
    rcases h p (by omega) with h3 | h3
    · omega
    · exact h3
  · intro h p hp
    by_cases h1 : a ≤ (p : Int)
    · by_cases h2 : (p : Int) ≤ b
      · exact .inr (h p h1 h2)
      · exact .inl (.inr h2)
    · exact .inl (.inl h1)
def addF (rs : List (Int × Int)) (a b : Int) (p : Nat) : Bool := hasP rs p || inR a b p
def subF (rs : List (Int × Int)) (a b : Int) (p : Nat) : Bool := hasP rs p && !inR a b p
/-- What mapping returns, and what unmapping returns. -/
def mapR (rs : List (Int × Int)) (a b most : Int) : List (Int × Int) × Int :=
  if begE rs a b ≠ 0 then ([], begE rs a b) else if anyIn rs a b = true then ([], 7) else if most < (cntP (addF rs a b) : Int) then ([], 5) else (regs (addF rs a b), 0)
def unmR (rs : List (Int × Int)) (a b : Int) : List (Int × Int) × Int :=
  if begE rs a b ≠ 0 then ([], begE rs a b) else if allIn rs a b = false then ([], 6) else (regs (subF rs a b), 0)

/-- The list with a range put in at a place, joined with the ranges that touch it. -/
def mapL (l : List (Int × Int)) (k : Nat) (a b : Int) : List (Int × Int) :=
  l.take (if 0 < k ∧ (l.getD (k - 1) (0, 0)).2 + 1 = a then k - 1 else k) ++
    [((if 0 < k ∧ (l.getD (k - 1) (0, 0)).2 + 1 = a then (l.getD (k - 1) (0, 0)).1 else a), (if k < l.length ∧ (l.getD k (0, 0)).1 = b + 1 then (l.getD k (0, 0)).2 else b))] ++
    l.drop (if k < l.length ∧ (l.getD k (0, 0)).1 = b + 1 then k + 1 else k)
theorem has_bool (x y : Int) (p : Nat) : (decide (x ≤ (p : Int)) && decide ((p : Int) ≤ y)) = true ↔ x ≤ (p : Int) ∧ (p : Int) ≤ y := by simp
theorem mapL_ok (l : List (Int × Int)) (k : Nat) (a b : Int) (hv : RgV l) (h0 : 0 ≤ a) (h1 : a ≤ b) (h2 : b ≤ 63) (hd : anyIn l a b = false) (hk : k ≤ l.length) (hlt : ∀ j, j < k → (l.getD j (0, 0)).2 < a) (hge : k < l.length → ¬ (l.getD k (0, 0)).2 < a) :
    mapL l k a b = regs (addF l a b) := by
  have hno : ∀ p : Nat, a ≤ (p : Int) → (p : Int) ≤ b → hasP l p = false := fun p h3 h4 => by
    rw [Bool.eq_false_iff]
    intro h5
    rw [(anyIn_iff l a b h2).2 ⟨p, h3, h4, h5⟩] at hd
    cases hd
  have hV := (RgV_iff l).1 hv
  have hsplit : l = l.take k ++ l.drop k := (List.take_append_drop k l).symm
  obtain ⟨L1, hL1⟩ : ∃ L1, l.take k = L1 := ⟨_, rfl⟩
  obtain ⟨L2, hL2⟩ : ∃ L2, l.drop k = L2 := ⟨_, rfl⟩
  rw [hL1, hL2] at hsplit
  have hk1 : L1.length = k := by rw [← hL1, List.length_take]; omega
  -- the left part
  have left : ∃ L X, l.take (if 0 < k ∧ (l.getD (k - 1) (0, 0)).2 + 1 = a then k - 1 else k) = L ∧ (if 0 < k ∧ (l.getD (k - 1) (0, 0)).2 + 1 = a then (l.getD (k - 1) (0, 0)).1 else a) = X ∧
      VF 0 L ∧ endOf 0 L ≤ X ∧ X ≤ a ∧ ∀ p : Nat, (hasP L p || (decide (X ≤ (p : Int)) && decide ((p : Int) ≤ b))) = (hasP L1 p || inR a b p) := by
    rw [hsplit, VF_append] at hV
    by_cases hc : 0 < k ∧ (l.getD (k - 1) (0, 0)).2 + 1 = a
    · rw [if_pos hc, if_pos hc]
      rcases List.eq_nil_or_concat L1 with hn | ⟨L', r, hcon⟩
      · rw [hn] at hk1; simp at hk1; omega
      · rw [List.concat_eq_append] at hcon
        have hkl : k = L'.length + 1 := by rw [← hk1, hcon]; simp
        have hg : l.getD (k - 1) (0, 0) = r := by
          rw [hsplit, hcon, hkl]
          simp [List.getD_eq_getElem?_getD]
        have ht : l.take (k - 1) = L' := by
          rw [hsplit, hcon, hkl]
          simp
        rw [hg] at hc ⊢
        have hv1 := hV.1
        rw [hcon, VF_snoc] at hv1
        refine ⟨L', r.1, ht, rfl, hv1.1, hv1.2.1, by omega, fun p => ?_⟩
        rw [hcon, hasP_append, hasP_cons, hasP_nil, Bool.or_false, Bool.or_assoc]
        congr 1
        rw [Bool.eq_iff_iff]
        unfold inR
        simp only [Bool.or_eq_true, Bool.and_eq_true, decide_eq_true_eq]
        omega
    · rw [if_neg hc, if_neg hc]
      refine ⟨L1, a, hL1, rfl, hV.1, ?_, Int.le_refl _, fun p => rfl⟩
      rcases List.eq_nil_or_concat L1 with hn | ⟨L', r, hcon⟩
      · rw [hn, endOf_nil]; exact h0
      · rw [List.concat_eq_append] at hcon
        have hkl : k = L'.length + 1 := by rw [← hk1, hcon]; simp
        have hg : l.getD (k - 1) (0, 0) = r := by
          rw [hsplit, hcon, hkl]
          simp [List.getD_eq_getElem?_getD]
        rw [hcon, endOf_snoc]
        have h3 := hlt (k - 1) (by omega)
        rw [hg] at h3 hc
        omega
  -- the right part
  have right : ∃ R Y, l.drop (if k < l.length ∧ (l.getD k (0, 0)).1 = b + 1 then k + 1 else k) = R ∧ (if k < l.length ∧ (l.getD k (0, 0)).1 = b + 1 then (l.getD k (0, 0)).2 else b) = Y ∧
      VF (Y + 2) R ∧ b ≤ Y ∧ Y ≤ 63 ∧ ∀ p : Nat, b < (p : Int) → (hasP R p || decide ((p : Int) ≤ Y)) = hasP L2 p := by
    have hV2 := hV
    rw [hsplit, VF_append] at hV2
    rcases L2 with _ | ⟨s, L2⟩
    · have hkl : ¬ k < l.length := by rw [hsplit]; simp; omega
      rw [if_neg (fun h => hkl h.1), if_neg (fun h => hkl h.1)]
      refine ⟨[], b, hL2, rfl, trivial, Int.le_refl _, h2, fun p hp => ?_⟩
      rw [hasP_nil, Bool.false_or, decide_eq_false_iff_not]
      omega
    · have hkl : k < l.length := by rw [hsplit]; simp; omega
      have hg : l.getD k (0, 0) = s := by
        rw [hsplit, ← hk1]
        simp [List.getD_eq_getElem?_getD]
      have hd1 : l.drop (k + 1) = L2 := by
        rw [hsplit, ← hk1]
        simp
      obtain ⟨b1, b2, b3, b4⟩ := hV2.2
      have h3 := hge hkl
      rw [hg] at h3 ⊢
      have hsb : b < s.1 := by
        rcases Int.lt_or_le b s.1 with h4 | h4
        · exact h4
        · have hm := hno (max s.1 a).toNat (by omega) (by omega)
          rw [hsplit, hasP_append, hasP_cons, decide_eq_true (by omega), decide_eq_true (by omega)] at hm
          simp at hm
      by_cases hc : s.1 = b + 1
      · rw [if_pos ⟨hkl, hc⟩, if_pos ⟨hkl, hc⟩]
        refine ⟨L2, s.2, hd1, rfl, b4, by omega, b3, fun p hp => ?_⟩
        rw [hasP_cons, Bool.or_comm, decide_eq_true (show s.1 ≤ (p : Int) by omega), Bool.true_and]
      · rw [if_neg (fun h => hc h.2), if_neg (fun h => hc h.2)]
        refine ⟨s :: L2, b, hL2, rfl, ⟨by omega, b2, b3, b4⟩, Int.le_refl _, h2, fun p hp => ?_⟩
        rw [decide_eq_false (by omega), Bool.or_false]
  obtain ⟨L, X, eL, eX, v1, v2, v3, v4⟩ := left
  obtain ⟨R, Y, eR, eY, u1, u2, u3, u4⟩ := right
  unfold mapL
  rw [eL, eX, eR, eY]
  refine regs_of ((RgV_iff _).2 ?_) (fun p hp => ?_)
  · rw [VF_append, VF_snoc, endOf_snoc]
    exact ⟨⟨v1, v2, by simp only; omega, u3⟩, u1⟩
  · rw [hasP_append, hasP_append, hasP_cons, hasP_nil, Bool.or_false]
    simp only
    unfold addF
    rw [hsplit, hasP_append]
    rcases Int.lt_or_le b (p : Int) with h5 | h5
    · have h6 := v4 p
      have h7 := u4 p h5
      have h8 : inR a b p = false := by unfold inR; rw [decide_eq_false (show ¬ (p : Int) ≤ b by omega), Bool.and_false]
      rw [decide_eq_false (show ¬ (p : Int) ≤ b by omega), Bool.and_false, Bool.or_false, h8, Bool.or_false] at h6
      rw [h8, Bool.or_false, ← h6, ← h7, decide_eq_true (show X ≤ (p : Int) by omega), Bool.true_and, Bool.or_assoc]
      congr 1
      exact Bool.or_comm _ _
    · have h6 := v4 p
      have hR : hasP R p = false := VF_not u1 (by omega)
      have hL2' : hasP L2 p = true → (inR a b p || hasP L1 p) = true → True := fun _ _ => trivial
      rw [hR, Bool.or_false]
      have e1 : decide ((p : Int) ≤ Y) = decide ((p : Int) ≤ b) := by rw [decide_eq_true (by omega), decide_eq_true h5]
      rw [e1, h6]
      have hL2n : hasP L2 p = false := by
        rw [Bool.eq_false_iff]
        intro h7
        have hV2 := hV
        rw [hsplit, VF_append] at hV2
        rcases L2 with _ | ⟨s, L2⟩
        · simp [hasP] at h7
        · have hkl : k < l.length := by rw [hsplit]; simp; omega
          have hg : l.getD k (0, 0) = s := by
            rw [hsplit, ← hk1]
            simp [List.getD_eq_getElem?_getD]
          have h3 := hge hkl
          rw [hg] at h3
          obtain ⟨b1, b2, b3, b4⟩ := hV2.2
          have hsb : b < s.1 := by
            rcases Int.lt_or_le b s.1 with h4 | h4
            · exact h4
            · have hm := hno (max s.1 a).toNat (by omega) (by omega)
              rw [hsplit, hasP_append, hasP_cons, decide_eq_true (by omega), decide_eq_true (by omega)] at hm
              simp at hm
          rw [hasP_cons, decide_eq_false (show ¬ s.1 ≤ (p : Int) by omega), Bool.false_and, Bool.false_or] at h7
          have := (VF_has b4 h7).1
          omega
      rw [hL2n, Bool.or_false]

/-- The list with the range i cut. -/
def unmL (l : List (Int × Int)) (i : Nat) (a b : Int) : List (Int × Int) :=
  l.take i ++ ((if (l.getD i (0, 0)).1 < a then [((l.getD i (0, 0)).1, a - 1)] else []) ++ (if b < (l.getD i (0, 0)).2 then [(b + 1, (l.getD i (0, 0)).2)] else [])) ++ l.drop (i + 1)
theorem unmL_ok (l : List (Int × Int)) (i : Nat) (a b : Int) (hv : RgV l) (h0 : 0 ≤ a) (h1 : a ≤ b) (h2 : b ≤ 63) (hi : i < l.length) (h3 : (l.getD i (0, 0)).1 ≤ a) (h4 : b ≤ (l.getD i (0, 0)).2) :
    allIn l a b = true ∧ unmL l i a b = regs (subF l a b) := by
  refine ⟨(allIn_iff l a b h2).2 (fun p h5 h6 => (hasP_iff l p).2 ⟨i, hi, by omega, by omega⟩), ?_⟩
  have hV := (RgV_iff l).1 hv
  obtain ⟨s, hs⟩ : ∃ s, l.getD i (0, 0) = s := ⟨_, rfl⟩
  have hsp : l = l.take i ++ s :: l.drop (i + 1) := by
    have : l[i] = s := by rw [← hs]; simp [List.getD_eq_getElem?_getD, hi]
    rw [← this, ← List.drop_eq_getElem_cons hi, List.take_append_drop]
  unfold unmL
  rw [hs] at h3 h4 ⊢
  generalize l.take i = L at *
  generalize l.drop (i + 1) = R at *
  have hV2 := hV
  rw [hsp, VF_append] at hV2
  obtain ⟨v1, u1, u2, u3, u4⟩ := hV2
  have hmem : ∀ p : Nat, subF l a b p = (hasP L p || ((decide (s.1 ≤ (p : Int)) && decide ((p : Int) ≤ a - 1)) || (decide (b + 1 ≤ (p : Int)) && decide ((p : Int) ≤ s.2))) || hasP R p) := by
    intro p
    unfold subF inR
    rw [hsp, hasP_append, hasP_cons]
    rcases hL : hasP L p with _ | _
    · rcases hR : hasP R p with _ | _
      · rw [Bool.eq_iff_iff]
        simp only [Bool.or_eq_true, Bool.and_eq_true, Bool.not_eq_true', Bool.and_eq_false_iff, decide_eq_true_eq, decide_eq_false_iff_not, Bool.false_eq_true, false_or, or_false]
        omega
      · have := (VF_has u4 hR).1
        rw [decide_eq_false (show ¬ (p : Int) ≤ b by omega)]
        simp
    · have := (VF_endOf v1).2 p hL
      rw [decide_eq_false (show ¬ a ≤ (p : Int) by omega)]
      simp
  refine regs_of ((RgV_iff _).2 ?_) (fun p hp => ?_)
  · rw [VF_append, VF_append]
    by_cases c1 : s.1 < a
    · by_cases c2 : b < s.2
      · rw [if_pos c1, if_pos c2]
        refine ⟨⟨v1, ?_⟩, ?_⟩
        · simp [VF]; omega
        · rw [show L ++ ([(s.1, a - 1)] ++ [(b + 1, s.2)]) = (L ++ [(s.1, a - 1)]) ++ [(b + 1, s.2)] by simp, endOf_snoc]; exact u4
      · rw [if_pos c1, if_neg c2, List.append_nil]
        refine ⟨⟨v1, ?_⟩, ?_⟩
        · simp [VF]; omega
        · rw [endOf_snoc]; exact VF_mono u4 (by simp only; omega)
    · by_cases c2 : b < s.2
      · rw [if_neg c1, if_pos c2, List.nil_append]
        refine ⟨⟨v1, ?_⟩, ?_⟩
        · simp [VF]; omega
        · rw [endOf_snoc]; exact u4
      · rw [if_neg c1, if_neg c2]
        refine ⟨⟨v1, by simp [VF]⟩, ?_⟩
        simp only [List.append_nil]
        exact VF_mono u4 (by omega)
  · rw [hmem p, hasP_append, hasP_append, hasP_append]
    congr 2
    congr 1
    · by_cases c1 : s.1 < a
      · rw [if_pos c1, hasP_cons, hasP_nil, Bool.or_false]
      · rw [if_neg c1, hasP_nil, eq_comm, Bool.and_eq_false_iff]; simp only [decide_eq_false_iff_not]; omega
    · by_cases c2 : b < s.2
      · rw [if_pos c2, hasP_cons, hasP_nil, Bool.or_false]
      · rw [if_neg c2, hasP_nil, eq_comm, Bool.and_eq_false_iff]; simp only [decide_eq_false_iff_not]; omega
theorem VF_gap : ∀ {rs : List (Int × Int)} {lo : Int} {r : Int × Int} {p : Nat}, 0 ≤ lo → VF lo rs → r ∈ rs → (p : Int) = r.2 + 1 → hasP rs p = false
  | [], _, _, _, _, _, h, _ => by cases h
  | s :: t, lo, r, p, h0, hv, hm, hp => by
    obtain ⟨h1, h2, h3, h4⟩ := hv
    rw [hasP_cons]
    rcases List.mem_cons.1 hm with rfl | hm
    · rw [decide_eq_false (show ¬ (p : Int) ≤ r.2 by omega), Bool.and_false, Bool.false_or]
      exact VF_not h4 (by omega)
    · have h5 := VF_gap (by omega) h4 hm hp
      have h6 : hasP t r.2.toNat = true := by
        obtain ⟨j, hj, rfl⟩ := List.getElem_of_mem hm
        have hx := (VF_iff t (s.2 + 2) (by omega)).1 h4
        have hy := (rgE_iff _ _).1 (hx.1 j hj)
        have e : t.getD j (0, 0) = t[j] := by simp [List.getD_eq_getElem?_getD, hj]
        rw [e] at hy
        exact (hasP_iff t _).2 ⟨j, hj, by rw [e]; omega, by rw [e]; omega⟩
      have h7 := (VF_has h4 h6).1
      rw [h5, decide_eq_false (show ¬ (p : Int) ≤ s.2 by omega), Bool.and_false, Bool.false_or]
theorem unm_no (l : List (Int × Int)) (a b : Int) (hv : RgV l) (h0 : 0 ≤ a) (h1 : a ≤ b) (h2 : b ≤ 63) (hn : ∀ j, j < l.length → ¬ ((l.getD j (0, 0)).1 ≤ a ∧ b ≤ (l.getD j (0, 0)).2)) : allIn l a b = false := by
  rw [Bool.eq_false_iff]
  intro h
  have h := (allIn_iff l a b h2).1 h
  have ha := h a.toNat (by omega) (by omega)
  obtain ⟨j, hj, h3, h4⟩ := (hasP_iff l _).1 ha
  have h5 := hn j hj
  have hr := (rgE_iff _ _).1 (hv j hj)
  have e : l.getD j (0, 0) = l[j] := by simp [List.getD_eq_getElem?_getD, hj]
  have h6 := VF_gap (r := l.getD j (0, 0)) (p := ((l.getD j (0, 0)).2 + 1).toNat) (Int.le_refl 0) ((RgV_iff l).1 hv) (by rw [e]; exact List.getElem_mem hj) (by omega)
  have h7 := h ((l.getD j (0, 0)).2 + 1).toNat (by omega) (by omega)
  rw [h6] at h7
  cases h7
theorem and_zero (x y : Nat) : (x &&& y = 0) ↔ ∀ p, ¬ (x.testBit p = true ∧ y.testBit p = true) := by
  constructor
  · intro h p ⟨h1, h2⟩
    have : (x &&& y).testBit p = true := by rw [Nat.testBit_and, h1, h2]; rfl
    rw [h] at this
    simp at this
  · intro h
    apply Nat.eq_of_testBit_eq
    intro p
    rw [Nat.testBit_and, Nat.zero_testBit, Bool.and_eq_false_iff]
    have := h p
    rcases hx : x.testBit p with _ | _
    · exact .inl rfl
    · rcases hy : y.testBit p with _ | _
      · exact .inr rfl
      · exact absurd ⟨hx, hy⟩ this
/-- The bits that a set and a range share. -/
theorem setN_and (rs : List (Int × Int)) (h : RgV rs) (a b : Int) (h0 : 0 ≤ a) (h2 : b ≤ 63) (h1 : a ≤ b) : (setN rs rs.length &&& spanN a.toNat b.toNat = 0) ↔ anyIn rs a b = false := by
  rw [and_zero]
  constructor
  · intro hp
    rw [Bool.eq_false_iff]
    intro ha
    obtain ⟨p, h3, h4, h5⟩ := (anyIn_iff rs a b h2).1 ha
    refine hp p ⟨by rw [setN_has rs h]; exact h5, ?_⟩
    rw [spanN_bit _ _ _ (by omega), decide_eq_true (by omega), decide_eq_true (by omega)]
    rfl
  · rintro ha p ⟨h3, h4⟩
    rw [setN_has rs h] at h3
    rw [spanN_bit _ _ _ (by omega), Bool.and_eq_true, decide_eq_true_eq, decide_eq_true_eq] at h4
    rw [(anyIn_iff rs a b h2).2 ⟨p, by omega, by omega, h3⟩] at ha
    cases ha
end Go.Proofs.YtpkgfkhaiifooaaGreatDoor
