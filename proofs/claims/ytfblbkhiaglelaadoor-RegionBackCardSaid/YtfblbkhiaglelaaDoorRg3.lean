/- Regions with pages mapped and unmapped: plain lists, no program in sight. -/
import Derived.Test.YtfblbkhiaglelaaDoorRg2
namespace Go.Proofs.YtfblbkhiaglelaaDoor
open Go
set_option linter.unusedSimpArgs false
set_option linter.unusedVariables false

def inR (a b : Int) (p : Nat) : Bool := decide (a ≤ (p : Int)) && decide ((p : Int) ≤ b)
/-- How many pages are in a set. -/
def cntP (f : Nat → Bool) : Nat := (List.range 64).countP f
theorem cntP_le (f : Nat → Bool) : cntP f ≤ 64 := by
  have := List.countP_le_length (p := f) (l := List.range 64)
  simpa [cntP] using this
theorem cntP_congr (f g : Nat → Bool) (h : ∀ p, p < 64 → f p = g p) : cntP f = cntP g :=
  List.countP_congr (fun p hp => by rw [h p (List.mem_range.1 hp)])
theorem cnt_or (f g : Nat → Bool) (h : ∀ p, ¬ (f p = true ∧ g p = true)) : ∀ n, (List.range n).countP (fun p => f p || g p) = (List.range n).countP f + (List.range n).countP g
  | 0 => rfl
  | n + 1 => by
    rw [List.range_succ, List.countP_append, List.countP_append, List.countP_append, cnt_or f g h n, List.countP_singleton, List.countP_singleton, List.countP_singleton]
    have := h n
    rcases hf : f n with _ | _ <;> rcases hg : g n with _ | _ <;> simp_all <;> omega
theorem cnt_in (a b : Nat) (hab : a ≤ b) : ∀ n, (List.range n).countP (inR a b) = min n (b + 1) - a
  | 0 => by simp
  | n + 1 => by
    rw [List.range_succ, List.countP_append, cnt_in a b hab n, List.countP_singleton]
    have e : inR a b n = (decide (a ≤ n) && decide (n ≤ b)) := by
      unfold inR
      congr 1 <;> (apply decide_eq_decide.2; omega)
    rw [e]
    by_cases h1 : a ≤ n <;> by_cases h2 : n ≤ b <;> simp [h1, h2] <;> omega
theorem cntP_in (a b : Int) (h0 : 0 ≤ a) (h1 : a ≤ b) (h2 : b ≤ 63) : (cntP (inR a b) : Int) = b - a + 1 := by
  obtain ⟨x, rfl⟩ : ∃ x : Nat, a = x := ⟨a.toNat, by omega⟩
  obtain ⟨y, rfl⟩ : ∃ y : Nat, b = y := ⟨b.toNat, by omega⟩
  unfold cntP
  rw [cnt_in x y (by omega) 64]
  omega
theorem cntP_add (f : Nat → Bool) (a b : Int) (h0 : 0 ≤ a) (h1 : a ≤ b) (h2 : b ≤ 63) (h : ∀ p, ¬ (f p = true ∧ inR a b p = true)) : (cntP (fun p => f p || inR a b p) : Int) = cntP f + (b - a + 1) := by
  rw [← cntP_in a b h0 h1 h2]
  unfold cntP
  rw [cnt_or f _ h]
  omega

def rngE (a b : Int) : Int := if a < 0 ∨ b < a ∨ 63 < b then 2 else 0
def begE (rs : List (Int × Int)) (a b : Int) : Int := if (regE rs).1 ≠ 0 then (regE rs).1 else rngE a b
theorem begE_zero {rs : List (Int × Int)} {a b : Int} (h : begE rs a b = 0) : RgV rs ∧ 0 ≤ a ∧ a ≤ b ∧ b ≤ 63 := by
  unfold begE rngE at h
  split at h
  · rename_i h1; exact absurd h h1
  · rename_i h1
    split at h
    · omega
    · exact ⟨regE_zero rs (by omega), by omega, by omega, by omega⟩
/-- Whether a page of a range is mapped; whether all are. -/
def anyIn (rs : List (Int × Int)) (a b : Int) : Bool := (List.range 64).any fun p => inR a b p && hasP rs p
def allIn (rs : List (Int × Int)) (a b : Int) : Bool := (List.range 64).all fun p => !inR a b p || hasP rs p
theorem anyIn_iff (rs : List (Int × Int)) (a b : Int) (hb : b ≤ 63) : anyIn rs a b = true ↔ ∃ p : Nat, a ≤ (p : Int) ∧ (p : Int) ≤ b ∧ hasP rs p = true := by
  unfold anyIn inR
  rw [List.any_eq_true]
  simp only [List.mem_range, Bool.and_eq_true, decide_eq_true_eq]
  exact ⟨fun ⟨p, _, ⟨h1, h2⟩, h3⟩ => ⟨p, h1, h2, h3⟩, fun ⟨p, h1, h2, h3⟩ => ⟨p, by omega, ⟨h1, h2⟩, h3⟩⟩
theorem allIn_iff (rs : List (Int × Int)) (a b : Int) (hb : b ≤ 63) : allIn rs a b = true ↔ ∀ p : Nat, a ≤ (p : Int) → (p : Int) ≤ b → hasP rs p = true := by
  unfold allIn inR
  rw [List.all_eq_true]
  simp only [List.mem_range, Bool.or_eq_true, Bool.not_eq_true', Bool.and_eq_false_iff, decide_eq_false_iff_not]
  constructor
  · intro h p h1 h2
    rcases h p (by omega) with h3 | h3
    · omega
    · exact h3
  · intro h p hp
    by_cases h1 : a ≤ (p : Int)
    · by_cases h2 : (p : Int) ≤ b
      · exact .inr (h p h1 h2)
      · exact .inl (.inr h2)
    · exact .inl (.inl h1)
def addF (rs : List (Int × Int)) (a b : Int) (p : Nat) : Bool := hasP rs p || inR a b p
def subF (rs : List (Int × Int)) (a b : Int) (p : Nat) : Bool := hasP rs p && !inR a b p
/-- What mapping returns, and what unmapping returns. -/
def mapR (rs : List (Int × Int)) (a b most : Int) : List (Int × Int) × Int :=
  if begE rs a b ≠ 0 then ([], begE rs a b) else if anyIn rs a b = true then ([], 7) else if most < (cntP (addF rs a b) : Int) then ([], 5) else (regs (addF rs a b), 0)
def unmR (rs : List (Int × Int)) (a b : Int) : List (Int × Int) × Int :=
  if begE rs a b ≠ 0 then ([], begE rs a b) else if allIn rs a b = false then ([], 6) else (regs (subF rs a b), 0)

/-- The list with a range put in at a place, joined with the ranges that touch it. -/
def mapL (l : List (Int × Int)) (k : Nat) (a b : Int) : List (Int × Int) :=
  l.take (if 0 < k ∧ (l.getD (k - 1) (0, 0)).2 + 1 = a then k - 1 else k) ++
    [((if 0 < k ∧ (l.getD (k - 1) (0, 0)).2 + 1 = a then (l.getD (k - 1) (0, 0)).1 else a), (if k < l.length ∧ (l.getD k (0, 0)).1 = b + 1 then (l.getD k (0, 0)).2 else b))] ++
    l.drop (if k < l.length ∧ (l.getD k (0, 0)).1 = b + 1 then k + 1 else k)
theorem has_bool (x y : Int) (p : Nat) : (decide (x ≤ (p : Int)) && decide ((p : Int) ≤ y)) = true ↔ x ≤ (p : Int) ∧ (p : Int) ≤ y := by simp
theorem mapL_ok (l : List (Int × Int)) (k : Nat) (a b : Int) (hv : RgV l) (h0 : 0 ≤ a) (h1 : a ≤ b) (h2 : b ≤ 63) (hd : anyIn l a b = false) (hk : k ≤ l.length) (hlt : ∀ j, j < k → (l.getD j (0, 0)).2 < a) (hge : k < l.length → ¬ (l.getD k (0, 0)).2 < a) :
    mapL l k a b = regs (addF l a b) := by
  have hno : ∀ p : Nat, a ≤ (p : Int) → (p : Int) ≤ b → hasP l p = false := fun p h3 h4 => by
    rw [Bool.eq_false_iff]
    intro h5
    rw [(anyIn_iff l a b h2).2 ⟨p, h3, h4, h5⟩] at hd
    cases hd
  have hV := (RgV_iff l).1 hv
  have hsplit : l = l.take k ++ l.drop k := (List.take_append_drop k l).symm
  obtain ⟨L1, hL1⟩ : ∃ L1, l.take k = L1 := ⟨_, rfl⟩
  obtain ⟨L2, hL2⟩ : ∃ L2, l.drop k = L2 := ⟨_, rfl⟩
  rw [hL1, hL2] at hsplit
  have hk1 : L1.length = k := by rw [← hL1, List.length_take]; omega
  -- the left part
  have left : ∃ L X, l.take (if 0 < k ∧ (l.getD (k - 1) (0, 0)).2 + 1 = a then k - 1 else k) = L ∧ (if 0 < k ∧ (l.getD (k - 1) (0, 0)).2 + 1 = a then (l.getD (k - 1) (0, 0)).1 else a) = X ∧
      VF 0 L ∧ endOf 0 L ≤ X ∧ X ≤ a ∧ ∀ p : Nat, (hasP L p || (decide (X ≤ (p : Int)) && decide ((p : Int) ≤ b))) = (hasP L1 p || inR a b p) := by
    rw [hsplit, VF_append] at hV
    by_cases hc : 0 < k ∧ (l.getD (k - 1) (0, 0)).2 + 1 = a
    · rw [if_pos hc, if_pos hc]
      rcases List.eq_nil_or_concat L1 with hn | ⟨L', r, hcon⟩
      · rw [hn] at hk1; simp at hk1; omega
      · rw [List.concat_eq_append] at hcon
        have hkl : k = L'.length + 1 := by rw [← hk1, hcon]; simp
        have hg : l.getD (k - 1) (0, 0) = r := by
          rw [hsplit, hcon, hkl]
          simp [List.getD_eq_getElem?_getD]
        have ht : l.take (k - 1) = L' := by
          rw [hsplit, hcon, hkl]
          simp
        rw [hg] at hc ⊢
        have hv1 := hV.1
        rw [hcon, VF_snoc] at hv1
        refine ⟨L', r.1, ht, rfl, hv1.1, hv1.2.1, by omega, fun p => ?_⟩
        rw [hcon, hasP_append, hasP_cons, hasP_nil, Bool.or_false, Bool.or_assoc]
        congr 1
        rw [Bool.eq_iff_iff]
        unfold inR
        simp only [Bool.or_eq_true, Bool.and_eq_true, decide_eq_true_eq]
        omega
    · rw [if_neg hc, if_neg hc]
      refine ⟨L1, a, hL1, rfl, hV.1, ?_, Int.le_refl _, fun p => rfl⟩
      rcases List.eq_nil_or_concat L1 with hn | ⟨L', r, hcon⟩
      · rw [hn, endOf_nil]; exact h0
      · rw [List.concat_eq_append] at hcon
        have hkl : k = L'.length + 1 := by rw [← hk1, hcon]; simp
        have hg : l.getD (k - 1) (0, 0) = r := by
          rw [hsplit, hcon, hkl]
          simp [List.getD_eq_getElem?_getD]
        rw [hcon, endOf_snoc]
        have h3 := hlt (k - 1) (by omega)
        rw [hg] at h3 hc
        omega
  -- the right part
  have right : ∃ R Y, l.drop (if k < l.length ∧ (l.getD k (0, 0)).1 = b + 1 then k + 1 else k) = R ∧ (if k < l.length ∧ (l.getD k (0, 0)).1 = b + 1 then (l.getD k (0, 0)).2 else b) = Y ∧
      VF (Y + 2) R ∧ b ≤ Y ∧ Y ≤ 63 ∧ ∀ p : Nat, b < (p : Int) → (hasP R p || decide ((p : Int) ≤ Y)) = hasP L2 p := by
    have hV2 := hV
    rw [hsplit, VF_append] at hV2
    rcases L2 with _ | ⟨s, L2⟩
    · have hkl : ¬ k < l.length := by rw [hsplit]; simp; omega
      rw [if_neg (fun h => hkl h.1), if_neg (fun h => hkl h.1)]
      refine ⟨[], b, hL2, rfl, trivial, Int.le_refl _, h2, fun p hp => ?_⟩
      rw [hasP_nil, Bool.false_or, decide_eq_false_iff_not]
      omega
    · have hkl : k < l.length := by rw [hsplit]; simp; omega
      have hg : l.getD k (0, 0) = s := by
        rw [hsplit, ← hk1]
        simp [List.getD_eq_getElem?_getD]
      have hd1 : l.drop (k + 1) = L2 := by
        rw [hsplit, ← hk1]
        simp
      obtain ⟨b1, b2, b3, b4⟩ := hV2.2
      have h3 := hge hkl
      rw [hg] at h3 ⊢
      have hsb : b < s.1 := by
        rcases Int.lt_or_le b s.1 with h4 | h4
        · exact h4
        · have hm := hno (max s.1 a).toNat (by omega) (by omega)
          rw [hsplit, hasP_append, hasP_cons, decide_eq_true (by omega), decide_eq_true (by omega)] at hm
          simp at hm
      by_cases hc : s.1 = b + 1
      · rw [if_pos ⟨hkl, hc⟩, if_pos ⟨hkl, hc⟩]
        refine ⟨L2, s.2, hd1, rfl, b4, by omega, b3, fun p hp => ?_⟩
        rw [hasP_cons, Bool.or_comm, decide_eq_true (show s.1 ≤ (p : Int) by omega), Bool.true_and]
      · rw [if_neg (fun h => hc h.2), if_neg (fun h => hc h.2)]
        refine ⟨s :: L2, b, hL2, rfl, ⟨by omega, b2, b3, b4⟩, Int.le_refl _, h2, fun p hp => ?_⟩
        rw [decide_eq_false (by omega), Bool.or_false]
  obtain ⟨L, X, eL, eX, v1, v2, v3, v4⟩ := left
  obtain ⟨R, Y, eR, eY, u1, u2, u3, u4⟩ := right
  unfold mapL
  rw [eL, eX, eR, eY]
  refine regs_of ((RgV_iff _).2 ?_) (fun p hp => ?_)
  · rw [VF_append, VF_snoc, endOf_snoc]
    exact ⟨⟨v1, v2, by simp only; omega, u3⟩, u1⟩
  · rw [hasP_append, hasP_append, hasP_cons, hasP_nil, Bool.or_false]
    simp only
    unfold addF
    rw [hsplit, hasP_append]
    rcases Int.lt_or_le b (p : Int) with h5 | h5
    · have h6 := v4 p
      have h7 := u4 p h5
      have h8 : inR a b p = false := by unfold inR; rw [decide_eq_false (show ¬ (p : Int) ≤ b by omega), Bool.and_false]
      rw [decide_eq_false (show ¬ (p : Int) ≤ b by omega), Bool.and_false, Bool.or_false, h8, Bool.or_false] at h6
      rw [h8, Bool.or_false, ← h6, ← h7, decide_eq_true (show X ≤ (p : Int) by omega), Bool.true_and, Bool.or_assoc]
      congr 1
      exact Bool.or_comm _ _
    · have h6 := v4 p
      have hR : hasP R p = false := VF_not u1 (by omega)
      have hL2' : hasP L2 p = true → (inR a b p || hasP L1 p) = true → True := fun _ _ => trivial
      rw [hR, Bool.or_false]
      have e1 : decide ((p : Int) ≤ Y) = decide ((p : Int) ≤ b) := by rw [decide_eq_true (by omega), decide_eq_true h5]
      rw [e1, h6]
      have hL2n : hasP L2 p = false := by
        rw [Bool.eq_false_iff]
        intro h7
        have hV2 := hV
        rw [hsplit, VF_append] at hV2
        rcases L2 with _ | ⟨s, L2⟩
        · simp [hasP] at h7
        · have hkl : k < l.length := by rw [hsplit]; simp; omega
          have hg : l.getD k (0, 0) = s := by
            rw [hsplit, ← hk1]
            simp [List.getD_eq_getElem?_getD]
          have h3 := hge hkl
          rw [hg] at h3
          obtain ⟨b1, b2, b3, b4⟩ := hV2.2
          have hsb : b < s.1 := by
            rcases Int.lt_or_le b s.1 with h4 | h4
            · exact h4
            · have hm := hno (max s.1 a).toNat (by omega) (by omega)
              rw [hsplit, hasP_append, hasP_cons, decide_eq_true (by omega), decide_eq_true (by omega)] at hm
              simp at hm
          rw [hasP_cons, decide_eq_false (show ¬ s.1 ≤ (p : Int) by omega), Bool.false_and, Bool.false_or] at h7
          have := (VF_has b4 h7).1
          omega
      rw [hL2n, Bool.or_false]

/-- The list with the range i cut. -/
def unmL (l : List (Int × Int)) (i : Nat) (a b : Int) : List (Int × Int) :=
  l.take i ++ ((if (l.getD i (0, 0)).1 < a then [((l.getD i (0, 0)).1, a - 1)] else []) ++ (if b < (l.getD i (0, 0)).2 then [(b + 1, (l.getD i (0, 0)).2)] else [])) ++ l.drop (i + 1)
theorem unmL_ok (l : List (Int × Int)) (i : Nat) (a b : Int) (hv : RgV l) (h0 : 0 ≤ a) (h1 : a ≤ b) (h2 : b ≤ 63) (hi : i < l.length) (h3 : (l.getD i (0, 0)).1 ≤ a) (h4 : b ≤ (l.getD i (0, 0)).2) :
    allIn l a b = true ∧ unmL l i a b = regs (subF l a b) := by
  refine ⟨(allIn_iff l a b h2).2 (fun p h5 h6 => (hasP_iff l p).2 ⟨i, hi, by omega, by omega⟩), ?_⟩
  have hV := (RgV_iff l).1 hv
  obtain ⟨s, hs⟩ : ∃ s, l.getD i (0, 0) = s := ⟨_, rfl⟩
  have hsp : l = l.take i ++ s :: l.drop (i + 1) := by
    have : l[i] = s := by rw [← hs]; simp [List.getD_eq_getElem?_getD, hi]
    rw [← this, ← List.drop_eq_getElem_cons hi, List.take_append_drop]
  unfold unmL
  rw [hs] at h3 h4 ⊢
  generalize l.take i = L at *
  generalize l.drop (i + 1) = R at *
  have hV2 := hV
  rw [hsp, VF_append] at hV2
  obtain ⟨v1, u1, u2, u3, u4⟩ := hV2
  have hmem : ∀ p : Nat, subF l a b p = (hasP L p || ((decide (s.1 ≤ (p : Int)) && decide ((p : Int) ≤ a - 1)) || (decide (b + 1 ≤ (p : Int)) && decide ((p : Int) ≤ s.2))) || hasP R p) := by
    intro p
    unfold subF inR
    rw [hsp, hasP_append, hasP_cons]
    rcases hL : hasP L p with _ | _
    · rcases hR : hasP R p with _ | _
      · rw [Bool.eq_iff_iff]
        simp only [Bool.or_eq_true, Bool.and_eq_true, Bool.not_eq_true', Bool.and_eq_false_iff, decide_eq_true_eq, decide_eq_false_iff_not, Bool.false_eq_true, false_or, or_false]
        omega
      · have := (VF_has u4 hR).1
        rw [decide_eq_false (show ¬ (p : Int) ≤ b by omega)]
        simp
    · have := (VF_endOf v1).2 p hL
      rw [decide_eq_false (show ¬ a ≤ (p : Int) by omega)]
      simp
  refine regs_of ((RgV_iff _).2 ?_) (fun p hp => ?_)
  · rw [VF_append, VF_append]
    by_cases c1 : s.1 < a
    · by_cases c2 : b < s.2
      · rw [if_pos c1, if_pos c2]
        refine ⟨⟨v1, ?_⟩, ?_⟩
        · simp [VF]; omega
        · rw [show L ++ ([(s.1, a - 1)] ++ [(b + 1, s.2)]) = (L ++ [(s.1, a - 1)]) ++ [(b + 1, s.2)] by simp, endOf_snoc]; exact u4
      · rw [if_pos c1, if_neg c2, List.append_nil]
        refine ⟨⟨v1, ?_⟩, ?_⟩
        · simp [VF]; omega
        · rw [endOf_snoc]; exact VF_mono u4 (by simp only; omega)
    · by_cases c2 : b < s.2
      · rw [if_neg c1, if_pos c2, List.nil_append]
        refine ⟨⟨v1, ?_⟩, ?_⟩
        · simp [VF]; omega
        · rw [endOf_snoc]; exact u4
      · rw [if_neg c1, if_neg c2]
        refine ⟨⟨v1, by simp [VF]⟩, ?_⟩
        simp only [List.append_nil]
        exact VF_mono u4 (by omega)
  · rw [hmem p, hasP_append, hasP_append, hasP_append]
    congr 2
    congr 1
    · by_cases c1 : s.1 < a
      · rw [if_pos c1, hasP_cons, hasP_nil, Bool.or_false]
      · rw [if_neg c1, hasP_nil, eq_comm, Bool.and_eq_false_iff]; simp only [decide_eq_false_iff_not]; omega
    · by_cases c2 : b < s.2
      · rw [if_pos c2, hasP_cons, hasP_nil, Bool.or_false]
      · rw [if_neg c2, hasP_nil, eq_comm, Bool.and_eq_false_iff]; simp only [decide_eq_false_iff_not]; omega
theorem VF_gap : ∀ {rs : List (Int × Int)} {lo : Int} {r : Int × Int} {p : Nat}, 0 ≤ lo → VF lo rs → r ∈ rs → (p : Int) = r.2 + 1 → hasP rs p = false
  | [], _, _, _, _, _, h, _ => by cases h
  | s :: t, lo, r, p, h0, hv, hm, hp => by
    obtain ⟨h1, h2, h3, h4⟩ := hv
    rw [hasP_cons]
    rcases List.mem_cons.1 hm with rfl | hm
    · rw [decide_eq_false (show ¬ (p : Int) ≤ r.2 by omega), Bool.and_false, Bool.false_or]
      exact VF_not h4 (by omega)
    · have h5 := VF_gap (by omega) h4 hm hp
      have h6 : hasP t r.2.toNat = true := by
        obtain ⟨j, hj, rfl⟩ := List.getElem_of_mem hm
        have hx := (VF_iff t (s.2 + 2) (by omega)).1 h4
        have hy := (rgE_iff _ _).1 (hx.1 j hj)
        have e : t.getD j (0, 0) = t[j] := by simp [List.getD_eq_getElem?_getD, hj]
        rw [e] at hy
        exact (hasP_iff t _).2 ⟨j, hj, by rw [e]; omega, by rw [e]; omega⟩
      have h7 := (VF_has h4 h6).1
      rw [h5, decide_eq_false (show ¬ (p : Int) ≤ s.2 by omega), Bool.and_false, Bool.false_or]
theorem unm_no (l : List (Int × Int)) (a b : Int) (hv : RgV l) (h0 : 0 ≤ a) (h1 : a ≤ b) (h2 : b ≤ 63) (hn : ∀ j, j < l.length → ¬ ((l.getD j (0, 0)).1 ≤ a ∧ b ≤ (l.getD j (0, 0)).2)) : allIn l a b = false := by
  rw [Bool.eq_false_iff]
  intro h
  have h := (allIn_iff l a b h2).1 h
  have ha := h a.toNat (by omega) (by omega)
  obtain ⟨j, hj, h3, h4⟩ := (hasP_iff l _).1 ha
  have h5 := hn j hj
  have hr := (rgE_iff _ _).1 (hv j hj)
  have e : l.getD j (0, 0) = l[j] := by simp [List.getD_eq_getElem?_getD, hj]
  have h6 := VF_gap (r := l.getD j (0, 0)) (p := ((l.getD j (0, 0)).2 + 1).toNat) (Int.le_refl 0) ((RgV_iff l).1 hv) (by rw [e]; exact List.getElem_mem hj) (by omega)
  have h7 := h ((l.getD j (0, 0)).2 + 1).toNat (by omega) (by omega)
  rw [h6] at h7
  cases h7
theorem and_zero (x y : Nat) : (x &&& y = 0) ↔ ∀ p, ¬ (x.testBit p = true ∧ y.testBit p = true) := by
  constructor
  · intro h p ⟨h1, h2⟩
    have : (x &&& y).testBit p = true := by rw [Nat.testBit_and, h1, h2]; rfl
    rw [h] at this
    simp at this
  · intro h
    apply Nat.eq_of_testBit_eq
    intro p
    rw [Nat.testBit_and, Nat.zero_testBit, Bool.and_eq_false_iff]
    have := h p
    rcases hx : x.testBit p with _ | _
    · exact .inl rfl
    · rcases hy : y.testBit p with _ | _
      · exact .inr rfl
      · exact absurd ⟨hx, hy⟩ this
/-- The bits that a set and a range share. -/
theorem setN_and (rs : List (Int × Int)) (h : RgV rs) (a b : Int) (h0 : 0 ≤ a) (h2 : b ≤ 63) (h1 : a ≤ b) : (setN rs rs.length &&& spanN a.toNat b.toNat = 0) ↔ anyIn rs a b = false := by
  rw [and_zero]
  constructor
  · intro hp
    rw [Bool.eq_false_iff]
    intro ha
    obtain ⟨p, h3, h4, h5⟩ := (anyIn_iff rs a b h2).1 ha
    refine hp p ⟨by rw [setN_has rs h]; exact h5, ?_⟩
    rw [spanN_bit _ _ _ (by omega), decide_eq_true (by omega), decide_eq_true (by omega)]
    rfl
  · rintro ha p ⟨h3, h4⟩
    rw [setN_has rs h] at h3
    rw [spanN_bit _ _ _ (by omega), Bool.and_eq_true, decide_eq_true_eq, decide_eq_true_eq] at h4
    rw [(anyIn_iff rs a b h2).2 ⟨p, by omega, by omega, h3⟩] at ha
    cases ha
end Go.Proofs.YtfblbkhiaglelaaDoor
