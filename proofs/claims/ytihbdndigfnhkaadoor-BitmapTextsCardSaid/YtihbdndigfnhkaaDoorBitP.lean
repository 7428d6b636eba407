/- Words made of bits, and what changes of a set make of its words: plain lists and numbers, no program in sight. -/
import Derived.Test.YtihbdndigfnhkaaDoorBit4
namespace Go.Proofs.YtihbdndigfnhkaaDoor
open Go
set_option linter.unusedSimpArgs false
set_option linter.unusedVariables false

/-- The number whose bits below m are f. -/
def ofB (f : Nat → Bool) : Nat → Nat
  | 0 => 0
  | m + 1 => ofB f m + if f m then 2 ^ m else 0
theorem ofB_lt (f : Nat → Bool) : ∀ m, ofB f m < 2 ^ m
  | 0 => by simp [ofB]
  | m + 1 => by
    have := ofB_lt f m
    rw [ofB, Nat.pow_succ]
    split <;> omega
theorem ofB_bit (f : Nat → Bool) (j : Nat) : ∀ m, (ofB f m).testBit j = (decide (j < m) && f j)
  | 0 => by simp [ofB]
  | m + 1 => by
    have ih := ofB_bit f j m
    have hl := ofB_lt f m
    rw [ofB]
    by_cases hf : f m = true
    · rw [if_pos hf, Nat.add_comm]
      rcases Nat.lt_trichotomy j m with h | h | h
      · rw [Nat.testBit_two_pow_add_gt h, ih]; simp [h, Nat.lt_succ_of_lt h]
      · subst h; rw [Nat.testBit_two_pow_add_eq, ih]; simp [hf]
      · rw [Nat.testBit_lt_two_pow]
        · simp [show ¬ j < m + 1 by omega]
        · have h2 : 2 ^ (m + 1) ≤ 2 ^ j := Nat.pow_le_pow_right (by omega) (by omega)
          rw [Nat.pow_succ] at h2
          omega
    · rw [if_neg hf, Nat.add_zero, ih]
      rcases Nat.lt_trichotomy j m with h | h | h
      · simp [h, Nat.lt_succ_of_lt h]
      · subst h; simp [hf]
      · simp [Nat.not_lt_of_lt h, show ¬ j < m + 1 by omega]

/-- The n words of a set of numbers. -/
def wordsOf (n : Nat) (f : Nat → Bool) : List Nat := (List.range n).map fun j => ofB (fun b => f (64 * j + b)) 64
theorem wordsOf_len (n : Nat) (f : Nat → Bool) : (wordsOf n f).length = n := by simp [wordsOf]
theorem wordsOf_small (n : Nat) (f : Nat → Bool) : wsmall (wordsOf n f) := by
  intro x hx
  obtain ⟨j, _, rfl⟩ := List.mem_map.1 hx
  exact ofB_lt _ 64
theorem wordsOf_get (n : Nat) (f : Nat → Bool) (k : Nat) (hk : k < n) : (wordsOf n f).getD k 0 = ofB (fun b => f (64 * k + b)) 64 := by
  simp [wordsOf, List.getD_eq_getElem?_getD, List.getElem?_range hk]
theorem wordsOf_bit (n : Nat) (f : Nat → Bool) (i : Nat) (h : i < 64 * n) : wbit (wordsOf n f) i = f i := by
  unfold wbit
  rw [wordsOf_get n f (i / 64) (by omega), ofB_bit]
  have h1 : i % 64 < 64 := by omega
  have h2 : 64 * (i / 64) + i % 64 = i := by omega
  simp [h1, h2]
theorem word_eq (x : Nat) (hx : x < 18446744073709551616) (g : Nat → Bool) (h : ∀ j, j < 64 → x.testBit j = g j) : x = ofB g 64 := by
  apply Nat.eq_of_testBit_eq
  intro j
  rw [ofB_bit]
  by_cases hj : j < 64
  · simp [hj, h j hj]
  · have h2 : 2 ^ 64 ≤ 2 ^ j := Nat.pow_le_pow_right (by omega) (by omega)
    rw [Nat.testBit_lt_two_pow (by omega)]
    simp [hj]
theorem wsmall_get (ws : List Nat) (hs : wsmall ws) (k : Nat) : ws.getD k 0 < 18446744073709551616 := by
  rw [List.getD_eq_getElem?_getD]
  cases h : ws[k]? with
  | none => decide
  | some x => exact hs x (List.mem_of_getElem? h)
theorem words_eq (ws : List Nat) (hs : wsmall ws) (f : Nat → Bool) (h : ∀ i, i < 64 * ws.length → wbit ws i = f i) : ws = wordsOf ws.length f := by
  apply List.ext_getElem
  · simp [wordsOf]
  · intro k h1 h2
    have e1 : ws[k] = ws.getD k 0 := by simp [List.getD_eq_getElem?_getD, h1]
    have e2 : (wordsOf ws.length f)[k] = (wordsOf ws.length f).getD k 0 := by simp [List.getD_eq_getElem?_getD, h2]
    rw [e1, e2, wordsOf_get _ _ _ h1]
    apply word_eq _ (wsmall_get ws hs k)
    intro j hj
    have := h (64 * k + j) (by omega)
    rw [← this]
    unfold wbit
    rw [show (64 * k + j) / 64 = k by omega, show (64 * k + j) % 64 = j by omega]
theorem wordsOf_congr (n : Nat) (f g : Nat → Bool) (h : ∀ i, i < 64 * n → f i = g i) : wordsOf n f = wordsOf n g := by
  have := words_eq (wordsOf n f) (wordsOf_small n f) g (fun i hi => by rw [wordsOf_len] at hi; rw [wordsOf_bit n f i hi, h i hi])
  rwa [wordsOf_len] at this
/-- The words of a valid set are those of its numbers. -/
theorem chkE_wordsOf (N : Nat) (f : Nat → Bool) (hN : N ≤ 1024) (hf : ∀ i, N ≤ i → f i = false) : chkE N (wordsOf ((N + 63) / 64) f) = 0 := by
  unfold chkE
  rw [if_neg (by omega), wordsOf_len, if_neg (by omega)]
  by_cases h0 : N % 64 = 0
  · rw [if_neg (by omega)]
  · rw [if_neg]
    rintro ⟨_, h⟩
    apply h
    rw [wordsOf_get _ _ _ (by omega)]
    apply Nat.eq_of_testBit_eq
    intro j
    rw [Nat.zero_testBit, Nat.testBit_div_two_pow, ofB_bit]
    have : f (64 * ((N + 63) / 64 - 1) + (j + (((N : Nat) : Int) % 64).toNat)) = false := hf _ (by omega)
    simp [this]
theorem chk_words (N : Nat) (ws : List Nat) (hs : wsmall ws) (h : chkE N ws = 0) : ws = wordsOf ((N + 63) / 64) (fun i => decide (i < N) && wbit ws i) := by
  obtain ⟨_, _, h2, h3⟩ := chk_zero N ws h
  have hl : ws.length = (N + 63) / 64 := by omega
  rw [← hl]
  apply words_eq ws hs
  intro i hi
  by_cases hn : i < N
  · simp [hn]
  · simp [hn, h3 i (by omega) hi hs]

/-- One word with a bit more. -/
theorem set_bit (x t : Nat) (hx : x < 18446744073709551616) (ht : t < 64) (g : Nat → Bool) (h : ∀ j, j < 64 → (x.testBit j || decide (j = t)) = g j) : x ||| 2 ^ t = ofB g 64 := by
  apply word_eq
  · exact Nat.or_lt_two_pow (n := 64) hx (Nat.pow_lt_pow_right (by omega) ht)
  · intro j hj
    rw [Nat.testBit_or, Nat.testBit_two_pow, ← h j hj]
    congr 1
    simp [eq_comm]

/-- The words of the first k members of a list. -/
def listF (l : List Bool) (k : Nat) (i : Nat) : Bool := decide (i < k) && l.getD i false
theorem listF_words_zero (l : List Bool) (n : Nat) : wordsOf n (listF l 0) = List.replicate n 0 := by
  apply List.ext_getElem
  · simp [wordsOf]
  · intro k h1 h2
    have e1 : (wordsOf n (listF l 0))[k] = (wordsOf n (listF l 0)).getD k 0 := by simp [List.getD_eq_getElem?_getD, h1]
    rw [wordsOf_len] at h1
    rw [e1, wordsOf_get _ _ _ h1, List.getElem_replicate]
    symm
    apply word_eq _ (by decide)
    intro j _
    simp [listF]
theorem listF_words_skip (l : List Bool) (n k : Nat) (h : l.getD k false = false) : wordsOf n (listF l (k + 1)) = wordsOf n (listF l k) := by
  apply wordsOf_congr
  intro i _
  unfold listF
  rcases Nat.lt_trichotomy i k with h1 | h1 | h1
  · simp [h1, Nat.lt_succ_of_lt h1]
  · subst h1; rw [h]; simp
  · simp [show ¬ i < k by omega, show ¬ i < k + 1 by omega]
theorem listF_words_set (l : List Bool) (n k : Nat) (hk : k < 64 * n) (h : l.getD k false = true) :
    wordsOf n (listF l (k + 1)) = (wordsOf n (listF l k)).set (k / 64) ((wordsOf n (listF l k)).getD (k / 64) 0 ||| 2 ^ (k % 64)) := by
  symm
  have hl : ((wordsOf n (listF l k)).set (k / 64) ((wordsOf n (listF l k)).getD (k / 64) 0 ||| 2 ^ (k % 64))).length = n := by simp [wordsOf]
  have hsm : (wordsOf n (listF l k)).getD (k / 64) 0 ||| 2 ^ (k % 64) < 18446744073709551616 :=
    Nat.or_lt_two_pow (n := 64) (wsmall_get _ (wordsOf_small _ _) _) (Nat.pow_lt_pow_right (by omega) (by omega))
  have := words_eq ((wordsOf n (listF l k)).set (k / 64) ((wordsOf n (listF l k)).getD (k / 64) 0 ||| 2 ^ (k % 64))) (by
    intro x hx
    rcases List.mem_or_eq_of_mem_set hx with h1 | h1
    · exact wordsOf_small _ _ x h1
    · rw [h1]; exact hsm) (listF l (k + 1)) (by
    intro i hi
    rw [hl] at hi
    unfold wbit
    rw [List.getD_eq_getElem?_getD, List.getElem?_set]
    by_cases hw : k / 64 = i / 64
    · rw [if_pos hw, if_pos (by rw [wordsOf_len]; omega), Option.getD_some, Nat.testBit_or, wordsOf_get _ _ _ (by omega), ofB_bit, Nat.testBit_two_pow]
      have e : 64 * (k / 64) + i % 64 = i := by omega
      rw [e]
      unfold listF
      rcases Nat.lt_trichotomy i k with h1 | h1 | h1
      · simp [h1, Nat.lt_succ_of_lt h1, show ¬ k % 64 = i % 64 by omega, show i % 64 < 64 by omega]
      · subst h1; simp only [h]; simp
      · simp [show ¬ i < k by omega, show ¬ i < k + 1 by omega, show ¬ k % 64 = i % 64 by omega]
    · rw [if_neg hw, ← List.getD_eq_getElem?_getD]
      have := wordsOf_bit n (listF l k) i hi
      unfold wbit at this
      rw [this]
      unfold listF
      rcases Nat.lt_trichotomy i k with h1 | h1 | h1
      · simp [h1, Nat.lt_succ_of_lt h1]
      · subst h1; exact absurd rfl hw
      · simp [show ¬ i < k by omega, show ¬ i < k + 1 by omega])
  rw [hl] at this
  exact this

/-- What a set is with the numbers from a to b - 1 in or out. -/
def putF (ws : List Nat) (N a b : Nat) (inn : Bool) (i : Nat) : Bool := decide (i < N) && if a ≤ i ∧ i < b then inn else wbit ws i
def putR (N : Int) (ws : List Nat) (a b : Int) (inn : Bool) : Int × List Nat × Int :=
  if chkE N ws ≠ 0 then (0, [], chkE N ws) else if a < 0 ∨ b < a ∨ N < b then (0, [], 2) else (N, wordsOf ((N.toNat + 63) / 64) (putF ws N.toNat a.toNat b.toNat inn), 0)
/-- The words of a set whose first k are put already. -/
def putK (ws : List Nat) (a b : Nat) (inn : Bool) (k : Nat) : List Nat :=
  (List.range ws.length).map fun j => if j < k then (if inn then ws.getD j 0 ||| maskV (mkLo j a) (mkHi j b) else ws.getD j 0 &&& (18446744073709551615 - maskV (mkLo j a) (mkHi j b))) else ws.getD j 0
theorem putK_zero (ws : List Nat) (a b : Nat) (inn : Bool) : putK ws a b inn 0 = ws := by
  apply List.ext_getElem
  · simp [putK]
  · intro k h1 h2
    simp [putK, List.getD_eq_getElem?_getD, h2]
theorem not_bit (m j : Nat) (hm : m < 18446744073709551616) (hj : j < 64) : (18446744073709551615 - m).testBit j = !m.testBit j := by
  have h := Nat.testBit_two_pow_sub_succ (n := 64) (x := m) (by simpa using hm) j
  rw [show 2 ^ 64 - (m + 1) = 18446744073709551615 - m by omega] at h
  rw [h]
  simp [hj]
theorem putK_succ (ws : List Nat) (a b : Nat) (inn : Bool) (k : Nat) (hk : k < ws.length) :
    putK ws a b inn (k + 1) = (putK ws a b inn k).set k (if inn then ws.getD k 0 ||| maskV (mkLo k a) (mkHi k b) else ws.getD k 0 &&& (18446744073709551615 - maskV (mkLo k a) (mkHi k b))) := by
  apply List.ext_getElem
  · simp [putK]
  · intro j h1 h2
    rw [List.getElem_set]
    simp only [putK, List.getElem_map, List.getElem_range]
    by_cases hj : k = j
    · subst hj; simp
    · rw [if_neg hj]
      by_cases hlt : j < k
      · rw [if_pos hlt, if_pos (by omega)]
      · rw [if_neg hlt, if_neg (by omega)]
theorem putK_get (ws : List Nat) (a b : Nat) (inn : Bool) (k : Nat) (hk : k < ws.length) : (putK ws a b inn k).getD k 0 = ws.getD k 0 := by
  simp [putK, List.getD_eq_getElem?_getD, List.getElem?_range hk]
theorem putK_small (ws : List Nat) (hs : wsmall ws) (a b : Nat) (inn : Bool) (k : Nat) : wsmall (putK ws a b inn k) := by
  intro x hx
  obtain ⟨j, _, rfl⟩ := List.mem_map.1 hx
  have h1 := wsmall_get ws hs j
  have h2 : maskV (mkLo j a) (mkHi j b) < 18446744073709551616 := mask_lt _ _ _
  split
  · split
    · exact Nat.or_lt_two_pow (n := 64) h1 h2
    · exact Nat.lt_of_le_of_lt Nat.and_le_left h1
  · exact h1
theorem putK_all (N : Nat) (ws : List Nat) (hs : wsmall ws) (a b : Nat) (inn : Bool) (hE : chkE N ws = 0) (hb : b ≤ N) : putK ws a b inn ws.length = wordsOf ((N + 63) / 64) (putF ws N a b inn) := by
  obtain ⟨_, _, h2, h3⟩ := chk_zero N ws hE
  have hl : ws.length = (N + 63) / 64 := by omega
  have hl' : (putK ws a b inn ws.length).length = ws.length := by simp [putK]
  have := words_eq (putK ws a b inn ws.length) (putK_small ws hs a b inn _) (putF ws N a b inn) (by
    intro i hi
    rw [hl'] at hi
    have hj : i / 64 < ws.length := by omega
    have hm := mask_bit (i / 64) a b (by omega) (i % 64) (by omega)
    rw [show 64 * (i / 64) + i % 64 = i by omega] at hm
    have hml : maskV (mkLo ((i / 64 : Nat) : Int) a) (mkHi ((i / 64 : Nat) : Int) b) < 18446744073709551616 := mask_lt _ _ _
    have hw : (ws.getD (i / 64) 0).testBit (i % 64) = wbit ws i := rfl
    unfold wbit putF
    have hg : (putK ws a b inn ws.length).getD (i / 64) 0 = (if inn then ws.getD (i / 64) 0 ||| maskV (mkLo ((i / 64 : Nat) : Int) a) (mkHi ((i / 64 : Nat) : Int) b) else ws.getD (i / 64) 0 &&& (18446744073709551615 - maskV (mkLo ((i / 64 : Nat) : Int) a) (mkHi ((i / 64 : Nat) : Int) b))) := by
      simp [putK, List.getD_eq_getElem?_getD, List.getElem?_range hj, hj]
    rw [hg]
    by_cases hN : i < N
    · have hd : decide (i < N) = true := by simp [hN]
      rw [hd, Bool.true_and]
      cases inn with
      | true =>
        rw [if_pos rfl, Nat.testBit_or, hm]
        by_cases hab : a ≤ i ∧ i < b
        · rw [if_pos hab]; simp [hab.1, hab.2]
        · rw [if_neg hab]
          have : (decide ((a : Int) ≤ (i : Int)) && decide ((i : Int) < (b : Int))) = false := by simp; omega
          rw [this, Bool.or_false, hw]
      | false =>
        rw [if_neg (by simp), Nat.testBit_and, not_bit _ _ hml (by omega), hm]
        by_cases hab : a ≤ i ∧ i < b
        · rw [if_pos hab]; simp [hab.1, hab.2]
        · rw [if_neg hab]
          have : (decide ((a : Int) ≤ (i : Int)) && decide ((i : Int) < (b : Int))) = false := by simp; omega
          rw [this, hw]; simp
    · have hz := h3 i (by omega) (by omega) hs
      have hd : decide (i < N) = false := by simp [hN]
      rw [hd, Bool.false_and]
      have : (decide ((a : Int) ≤ (i : Int)) && decide ((i : Int) < (b : Int))) = false := by simp; omega
      cases inn with
      | true => rw [if_pos rfl, Nat.testBit_or, hm, this, hw, hz]; rfl
      | false => rw [if_neg (by simp), Nat.testBit_and, hw, hz]; rfl)
  rw [hl', hl] at this
  rw [hl]
  exact this

end Go.Proofs.YtihbdndigfnhkaaDoor
