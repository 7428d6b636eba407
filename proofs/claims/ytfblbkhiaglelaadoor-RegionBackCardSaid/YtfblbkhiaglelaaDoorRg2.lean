/- Regions: a valid list is known by its pages; the regions of a set of pages. Plain lists, no program in sight. -/
import Derived.Test.YtfblbkhiaglelaaDoorRg1
namespace Go.Proofs.YtfblbkhiaglelaaDoor
open Go
set_option linter.unusedSimpArgs false
set_option linter.unusedVariables false

/-- A list is valid from a page on. -/
def VF (lo : Int) : List (Int × Int) → Prop
  | [] => True
  | r :: t => lo ≤ r.1 ∧ r.1 ≤ r.2 ∧ r.2 ≤ 63 ∧ VF (r.2 + 2) t
theorem rgE_iff (rs : List (Int × Int)) (i : Nat) : rgE rs i = 0 ↔ 0 ≤ (rs.getD i (0, 0)).1 ∧ (rs.getD i (0, 0)).1 ≤ (rs.getD i (0, 0)).2 ∧ (rs.getD i (0, 0)).2 ≤ 63 ∧ (0 < i → (rs.getD (i - 1) (0, 0)).2 + 2 ≤ (rs.getD i (0, 0)).1) := by
  refine ⟨rgE_one, fun ⟨h1, h2, h3, h4⟩ => ?_⟩
  unfold rgE
  rw [if_neg (by omega), if_neg]
  rintro ⟨h5, h6⟩
  have := h4 h5
  omega
theorem VF_iff : ∀ (rs : List (Int × Int)) (lo : Int), 0 ≤ lo → (VF lo rs ↔ RgV rs ∧ (0 < rs.length → lo ≤ (rs.getD 0 (0, 0)).1))
  | [], lo, _ => by simp [VF, RgV]
  | r :: t, lo, h0 => by
    rw [VF]
    constructor
    · rintro ⟨h1, h2, h3, h4⟩
      have ih := (VF_iff t (r.2 + 2) (by omega)).1 h4
      refine ⟨fun j hj => ?_, fun _ => by simpa using h1⟩
      rw [rgE_iff]
      rcases j with _ | j
      · simp; omega
      · have hj' : j < t.length := by simpa using hj
        have hh := (rgE_iff t j).1 (ih.1 j hj')
        simp only [List.getD_cons_succ, Nat.add_sub_cancel]
        refine ⟨hh.1, hh.2.1, hh.2.2.1, fun _ => ?_⟩
        rcases j with _ | j
        · simpa using ih.2 (by omega)
        · simpa using hh.2.2.2 (by omega)
    · rintro ⟨h1, h2⟩
      have a0 := (rgE_iff _ _).1 (h1 0 (by simp))
      have b0 := h2 (by simp)
      simp at a0 b0
      refine ⟨b0, by omega, by omega, (VF_iff t (r.2 + 2) (by omega)).2 ⟨fun j hj => ?_, fun hl => ?_⟩⟩
      · have hh := (rgE_iff _ _).1 (h1 (j + 1) (by simp; omega))
        simp only [List.getD_cons_succ, Nat.add_sub_cancel] at hh
        rw [rgE_iff]
        refine ⟨hh.1, hh.2.1, hh.2.2.1, fun hj0 => ?_⟩
        have := hh.2.2.2 (by omega)
        rcases j with _ | j
        · omega
        · simpa using this
      · have hh := (rgE_iff _ _).1 (h1 1 (by simp; omega))
        simp only [List.getD_cons_succ] at hh
        simpa using hh.2.2.2 (by omega)
theorem RgV_iff (rs : List (Int × Int)) : RgV rs ↔ VF 0 rs := by
  rw [VF_iff rs 0 (by omega)]
  refine ⟨fun h => ⟨h, fun hl => ((rgE_iff _ _).1 (h 0 hl)).1⟩, fun h => h.1⟩
theorem VF_mono : ∀ {rs : List (Int × Int)} {lo lo' : Int}, VF lo rs → lo' ≤ lo → VF lo' rs
  | [], _, _, _, _ => trivial
  | r :: t, _, _, h, hl => ⟨by have := h.1; omega, h.2⟩
theorem hasP_cons (r : Int × Int) (t : List (Int × Int)) (p : Nat) : hasP (r :: t) p = ((decide (r.1 ≤ (p : Int)) && decide ((p : Int) ≤ r.2)) || hasP t p) := by simp [hasP]
theorem hasP_append (a b : List (Int × Int)) (p : Nat) : hasP (a ++ b) p = (hasP a p || hasP b p) := by simp [hasP]
theorem hasP_nil (p : Nat) : hasP [] p = false := rfl
/-- All pages of a list that is valid from a page on are from that page on, and at most 63. -/
theorem VF_has : ∀ {rs : List (Int × Int)} {lo : Int} {p : Nat}, VF lo rs → hasP rs p = true → lo ≤ (p : Int) ∧ (p : Int) ≤ 63
  | [], _, _, _, h => by simp [hasP] at h
  | r :: t, lo, p, hv, h => by
    obtain ⟨h1, h2, h3, h4⟩ := hv
    rw [hasP_cons, Bool.or_eq_true, Bool.and_eq_true, decide_eq_true_eq, decide_eq_true_eq] at h
    rcases h with h | h
    · omega
    · have := VF_has h4 h; omega
theorem VF_not {rs : List (Int × Int)} {lo : Int} {p : Nat} (hv : VF lo rs) (h : (p : Int) < lo) : hasP rs p = false := by
  rw [Bool.eq_false_iff]
  intro hp
  have := (VF_has hv hp).1
  omega
/-- Two valid lists with the same pages are equal. -/
theorem VF_uniq : ∀ (rs ts : List (Int × Int)) (lo : Int), 0 ≤ lo → VF lo rs → VF lo ts → (∀ p : Nat, p < 64 → hasP rs p = hasP ts p) → rs = ts
  | [], [], _, _, _, _, _ => rfl
  | [], s :: u, lo, h0, _, hv, h => by
    obtain ⟨h1, h2, h3, h4⟩ := hv
    have := h s.1.toNat (by omega)
    rw [hasP_nil, hasP_cons, decide_eq_true (by omega), decide_eq_true (by omega)] at this
    cases this
  | r :: t, [], lo, h0, hv, _, h => by
    obtain ⟨h1, h2, h3, h4⟩ := hv
    have := h r.1.toNat (by omega)
    rw [hasP_nil, hasP_cons, decide_eq_true (by omega), decide_eq_true (by omega)] at this
    cases this
  | r :: t, s :: u, lo, h0, hr, hs, h => by
    obtain ⟨a1, a2, a3, a4⟩ := hr
    obtain ⟨b1, b2, b3, b4⟩ := hs
    have e1 : r.1 = s.1 := by
      rcases Int.lt_trichotomy r.1 s.1 with hl | hl | hl
      · have := h r.1.toNat (by omega)
        rw [hasP_cons, hasP_cons, decide_eq_true (show r.1 ≤ ((r.1.toNat : Nat) : Int) by omega), decide_eq_true (show ((r.1.toNat : Nat) : Int) ≤ r.2 by omega), decide_eq_false (show ¬ s.1 ≤ ((r.1.toNat : Nat) : Int) by omega), VF_not b4 (by omega)] at this
        simp at this
      · exact hl
      · have := h s.1.toNat (by omega)
        rw [hasP_cons, hasP_cons, decide_eq_true (show s.1 ≤ ((s.1.toNat : Nat) : Int) by omega), decide_eq_true (show ((s.1.toNat : Nat) : Int) ≤ s.2 by omega), decide_eq_false (show ¬ r.1 ≤ ((s.1.toNat : Nat) : Int) by omega), VF_not a4 (by omega)] at this
        simp at this
    have e2 : r.2 = s.2 := by
      rcases Int.lt_trichotomy r.2 s.2 with hl | hl | hl
      · have := h (r.2 + 1).toNat (by omega)
        rw [hasP_cons, hasP_cons, decide_eq_false (show ¬ (((r.2 + 1).toNat : Nat) : Int) ≤ r.2 by omega), VF_not a4 (by omega), decide_eq_true (show s.1 ≤ (((r.2 + 1).toNat : Nat) : Int) by omega), decide_eq_true (show (((r.2 + 1).toNat : Nat) : Int) ≤ s.2 by omega)] at this
        simp at this
      · exact hl
      · have := h (s.2 + 1).toNat (by omega)
        rw [hasP_cons, hasP_cons, decide_eq_false (show ¬ (((s.2 + 1).toNat : Nat) : Int) ≤ s.2 by omega), VF_not b4 (by omega), decide_eq_true (show r.1 ≤ (((s.2 + 1).toNat : Nat) : Int) by omega), decide_eq_true (show (((s.2 + 1).toNat : Nat) : Int) ≤ r.2 by omega)] at this
        simp at this
    have e3 : r = s := Prod.ext e1 e2
    subst e3
    congr 1
    refine VF_uniq t u (r.2 + 2) (by omega) a4 b4 (fun p hp => ?_)
    by_cases hc : (p : Int) < r.2 + 2
    · rw [VF_not a4 hc, VF_not b4 hc]
    · have := h p hp
      rwa [hasP_cons, hasP_cons, decide_eq_false (show ¬ (p : Int) ≤ r.2 by omega), Bool.and_false, Bool.false_or, Bool.false_or] at this
theorem RgV_uniq {rs ts : List (Int × Int)} (h1 : RgV rs) (h2 : RgV ts) (h : ∀ p : Nat, p < 64 → hasP rs p = hasP ts p) : rs = ts :=
  VF_uniq rs ts 0 (Int.le_refl _) ((RgV_iff rs).1 h1) ((RgV_iff ts).1 h2) h

/-- Where a range may begin behind a list. -/
def endOf (lo : Int) (l : List (Int × Int)) : Int := match l.getLast? with | some r => r.2 + 2 | none => lo
theorem endOf_nil (lo : Int) : endOf lo [] = lo := rfl
theorem endOf_snoc (lo : Int) (l : List (Int × Int)) (r : Int × Int) : endOf lo (l ++ [r]) = r.2 + 2 := by simp [endOf]
theorem endOf_cons (lo : Int) (r : Int × Int) (l : List (Int × Int)) : endOf lo (r :: l) = endOf (r.2 + 2) l := by
  rcases List.eq_nil_or_concat l with rfl | ⟨l', x, rfl⟩
  · rfl
  · rw [List.concat_eq_append, endOf_snoc, show r :: (l' ++ [x]) = (r :: l') ++ [x] from rfl, endOf_snoc]
theorem VF_append : ∀ (a b : List (Int × Int)) (lo : Int), VF lo (a ++ b) ↔ VF lo a ∧ VF (endOf lo a) b
  | [], b, lo => by simp [VF, endOf_nil]
  | r :: a, b, lo => by
    rw [List.cons_append, VF, VF, VF_append a b (r.2 + 2), endOf_cons]
    constructor
    · rintro ⟨h1, h2, h3, h4, h5⟩; exact ⟨⟨h1, h2, h3, h4⟩, h5⟩
    · rintro ⟨⟨h1, h2, h3, h4⟩, h5⟩; exact ⟨h1, h2, h3, h4, h5⟩
theorem VF_snoc (l : List (Int × Int)) (r : Int × Int) (lo : Int) : VF lo (l ++ [r]) ↔ VF lo l ∧ endOf lo l ≤ r.1 ∧ r.1 ≤ r.2 ∧ r.2 ≤ 63 := by
  rw [VF_append]
  simp [VF]
theorem VF_endOf : ∀ {l : List (Int × Int)} {lo : Int}, VF lo l → lo ≤ endOf lo l ∧ ∀ p : Nat, hasP l p = true → (p : Int) + 2 ≤ endOf lo l
  | [], lo, _ => ⟨Int.le_refl _, fun p h => by simp [hasP] at h⟩
  | r :: t, lo, hv => by
    obtain ⟨h1, h2, h3, h4⟩ := hv
    rw [endOf_cons]
    obtain ⟨h5, h6⟩ := VF_endOf h4
    refine ⟨by omega, fun p hp => ?_⟩
    rw [hasP_cons, Bool.or_eq_true, Bool.and_eq_true, decide_eq_true_eq, decide_eq_true_eq] at hp
    rcases hp with hp | hp
    · omega
    · exact h6 p hp

/-- One page more: it goes into the last range if the page before is in, else it begins one. -/
def regA (f : Nat → Bool) (l : List (Int × Int)) (k : Nat) : List (Int × Int) :=
  if f k = false then l else if 0 < k ∧ f (k - 1) = true then l.dropLast ++ [((l.getLastD (0, 0)).1, (k : Int))] else l ++ [((k : Int), (k : Int))]
/-- The regions of the pages below k. -/
def regK (f : Nat → Bool) : Nat → List (Int × Int)
  | 0 => []
  | k + 1 => regA f (regK f k) k
theorem regK_no (f : Nat → Bool) (k : Nat) (h : f k = false) : regK f (k + 1) = regK f k := by rw [regK, regA, if_pos h]
theorem regK_new (f : Nat → Bool) (k : Nat) (h : f k = true) (h' : k = 0 ∨ f (k - 1) = false) : regK f (k + 1) = regK f k ++ [((k : Int), (k : Int))] := by
  rw [regK, regA, if_neg (by simp [h]), if_neg]
  rintro ⟨h1, h2⟩
  rcases h' with h' | h'
  · omega
  · rw [h2] at h'; cases h'
theorem regK_on (f : Nat → Bool) (k : Nat) (l : List (Int × Int)) (a : Int) (b : Int) (h : f (k + 1) = true) (h' : f k = true) (hl : regK f (k + 1) = l ++ [(a, b)]) : regK f (k + 2) = l ++ [(a, ((k + 1 : Nat) : Int))] := by
  rw [show k + 2 = (k + 1) + 1 from rfl, regK, regA, if_neg (by simp [h]), if_pos ⟨by omega, by simpa using h'⟩, hl]
  simp
/-- The regions are valid, have the pages below k that are in, and end where the pages end. -/
theorem regK_ok (f : Nat → Bool) : ∀ k, k ≤ 64 → VF 0 (regK f k) ∧ (∀ p : Nat, hasP (regK f k) p = (decide (p < k) && f p)) ∧ endOf 0 (regK f k) ≤ (k : Int) + 1 ∧
    ((0 < k ∧ f (k - 1) = true) → ∃ l a, regK f k = l ++ [(a, ((k : Int) - 1))]) ∧ ((k = 0 ∨ f (k - 1) = false) → endOf 0 (regK f k) ≤ (k : Int))
  | 0, _ => by
    refine ⟨trivial, fun p => by simp [regK, hasP], by simp [regK, endOf], fun h => by omega, fun _ => by simp [regK, endOf]⟩
  | k + 1, hk => by
    obtain ⟨h1, h2, h3, h4, h5⟩ := regK_ok f k (by omega)
    rcases hf : f k with _ | _
    · rw [regK_no f k hf]
      refine ⟨h1, fun p => ?_, by omega, fun h => ?_, fun _ => by omega⟩
      · rw [h2 p]
        by_cases hp : p = k
        · subst hp; simp [hf]
        · congr 1; simp; omega
      · simp [hf] at h
    · by_cases hc : 0 < k ∧ f (k - 1) = true
      · obtain ⟨l, a, hl⟩ := h4 hc
        obtain ⟨m, rfl⟩ : ∃ m, k = m + 1 := ⟨k - 1, by omega⟩
        have hr := regK_on f m l a _ hf (by simpa using hc.2) hl
        rw [hl] at h1 h2
        rw [VF_snoc] at h1
        rw [hr]
        simp only at h1
        refine ⟨(VF_snoc _ _ _).2 ⟨h1.1, h1.2.1, by simp only; omega, by simp only; omega⟩, fun p => ?_, by rw [endOf_snoc]; simp only; omega, fun _ => ⟨l, a, by congr 3; omega⟩, fun h => ?_⟩
        · have h6 := h2 p
          rw [hasP_append, hasP_cons, hasP_nil, Bool.or_false] at h6 ⊢
          simp only at h6 ⊢
          by_cases hp : p = m + 1
          · subst hp
            rw [decide_eq_true (by omega), decide_eq_true (by omega), hf]
            simp
          · have e1 : decide ((p : Int) ≤ ((m + 1 : Nat) : Int)) = decide ((p : Int) ≤ ((m + 1 : Nat) : Int) - 1) := by congr 1; simp; omega
            rw [e1, h6]
            congr 1; simp; omega
        · rcases h with h | h
          · omega
          · simp [hf] at h
      · have hc' : k = 0 ∨ f (k - 1) = false := by
          by_cases h0 : k = 0
          · exact .inl h0
          · right
            rw [Bool.eq_false_iff]
            intro h; exact hc ⟨by omega, h⟩
        rw [regK_new f k hf hc']
        have h6 := h5 hc'
        refine ⟨(VF_snoc _ _ _).2 ⟨h1, h6, Int.le_refl _, by simp only; omega⟩, fun p => ?_, by rw [endOf_snoc]; simp only; omega, fun _ => ⟨_, _, by congr 3; omega⟩, fun h => ?_⟩
        · rw [hasP_append, hasP_cons, hasP_nil, Bool.or_false, h2 p]
          simp only
          by_cases hp : p = k
          · subst hp; simp [hf]
          · have e1 : (decide ((k : Int) ≤ (p : Int)) && decide ((p : Int) ≤ (k : Int))) = false := by
              rw [Bool.and_eq_false_iff]; simp only [decide_eq_false_iff_not]; omega
            rw [e1, Bool.or_false]
            congr 1; simp; omega
        · rcases h with h | h
          · omega
          · simp [hf] at h
/-- The regions of a set of pages. -/
def regs (f : Nat → Bool) : List (Int × Int) := regK f 64
theorem regs_v (f : Nat → Bool) : RgV (regs f) := (RgV_iff _).2 (regK_ok f 64 (Nat.le_refl _)).1
theorem regs_has (f : Nat → Bool) (p : Nat) (hp : p < 64) : hasP (regs f) p = f p := by
  rw [regs, (regK_ok f 64 (Nat.le_refl _)).2.1 p, decide_eq_true hp, Bool.true_and]
/-- A valid list is that of the regions of its pages. -/
theorem regs_of {rs : List (Int × Int)} {f : Nat → Bool} (h : RgV rs) (hf : ∀ p : Nat, p < 64 → hasP rs p = f p) : rs = regs f :=
  RgV_uniq h (regs_v f) (fun p hp => by rw [regs_has f p hp, hf p hp])
theorem regK_congr (f g : Nat → Bool) : ∀ k, (∀ p, p < k → f p = g p) → regK f k = regK g k
  | 0, _ => rfl
  | k + 1, h => by
    rw [regK, regK, regK_congr f g k (fun p hp => h p (by omega)), regA, regA, h k (by omega)]
    rcases k with _ | k
    · rfl
    · rw [show k + 1 - 1 = k from rfl, h k (by omega)]
theorem regK_len (f : Nat → Bool) : ∀ k, (regK f k).length ≤ k
  | 0 => by simp [regK]
  | k + 1 => by
    have := regK_len f k
    rw [regK, regA]
    split
    · omega
    · split
      · rename_i h
        rw [List.length_append, List.length_dropLast]
        simp
        omega
      · simp; omega
end Go.Proofs.YtfblbkhiaglelaaDoor
