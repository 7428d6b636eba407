/- Plain facts for BitmapRuns and BitmapSums: runs, combinations, texts that are read back. -/
import Derived.Test.YtihbdndigfnhkaaDoorBitE
namespace Go.Proofs.YtihbdndigfnhkaaDoor
open Go
set_option linter.unusedSimpArgs false
set_option linter.unusedVariables false

theorem cnt_upto (ws : List Nat) (a : Nat) : ∀ n, cnt ws a (a + n) ≤ n
  | 0 => by rw [cnt_same ws a (a + 0) (by omega)]; omega
  | n + 1 => by
    have := cnt_upto ws a n
    rw [← Nat.add_assoc, cnt_succ ws a (a + n) (by omega)]
    split <;> omega
theorem cnt_all (ws : List Nat) (a : Nat) : ∀ n, cnt ws a (a + n) = n → ∀ j, j < n → wbit ws (a + j) = true
  | 0, _, j, h => by omega
  | n + 1, h, j, hj => by
    have h1 := cnt_upto ws a n
    rw [← Nat.add_assoc, cnt_succ ws a (a + n) (by omega)] at h
    by_cases hb : wbit ws (a + n) = true
    · rw [if_pos hb] at h
      by_cases hjn : j = n
      · subst hjn; exact hb
      · exact cnt_all ws a n (by omega) j (by omega)
    · rw [if_neg hb] at h; omega
theorem cnt_run (ws : List Nat) (a n : Nat) (h : okB ws true n a = true) : cnt ws a (a + n) = n := by
  rw [okB_iff] at h
  rw [cnt_full ws a (a + n) (by omega) (fun i h1 h2 => by have := h (i - a) (by omega); rwa [show a + (i - a) = i by omega] at this)]
  omega
theorem cnt_norun (ws : List Nat) (a n : Nat) (h : okB ws true n a = false) : cnt ws a (a + n) ≠ n := by
  intro h1
  have h2 := cnt_all ws a n h1
  rw [(okB_iff ws true n a).2 h2] at h
  cases h
theorem runF_is (ws : List Nat) (inn : Bool) (N n al : Nat) : ∀ (f i q : Nat), runF ws inn N n al f i = some q → ∃ k, q = k * al ∧ i ≤ k ∧ k * al + n ≤ N ∧ okB ws inn n (k * al) = true ∧ ∀ j, i ≤ j → j < k → okB ws inn n (j * al) = false
  | 0, i, q, h => by cases h
  | f + 1, i, q, h => by
    rw [runF] at h
    split at h
    · rename_i h1
      split at h
      · rename_i h2
        injection h with h
        exact ⟨i, h.symm, Nat.le_refl _, h1, h2, fun j a b => by omega⟩
      · rename_i h2
        obtain ⟨k, h3, h4, h5, h6, h7⟩ := runF_is ws inn N n al f (i + 1) q h
        refine ⟨k, h3, by omega, h5, h6, fun j a b => ?_⟩
        by_cases hj : j = i
        · subst hj; simpa using h2
        · exact h7 j (by omega) b
    · cases h
theorem runF_no (ws : List Nat) (inn : Bool) (N n al : Nat) : ∀ (f i : Nat), runF ws inn N n al f i = none → ∀ j, i ≤ j → j < i + f → j * al + n ≤ N → okB ws inn n (j * al) = false
  | 0, i, _ => fun j a b => by omega
  | f + 1, i, h => by
    rw [runF] at h
    intro j a b hj
    split at h
    · rename_i h1
      split at h
      · cases h
      · rename_i h2
        by_cases hji : j = i
        · subst hji; simpa using h2
        · exact runF_no ws inn N n al f (i + 1) h j (by omega) (by omega) hj
    · rename_i h1
      have : i * al ≤ j * al := Nat.mul_le_mul_right _ a
      omega
theorem run_case (N : Nat) (ws : List Nat) (n al : Nat) (hE : chkE N ws = 0) (h1 : 1 ≤ n) (h2 : n ≤ 1024) (h3 : 1 ≤ al) (h4 : al ≤ 1024) :
    (runR N ws n al true = (0, 6) ∧ ∀ j, j * al + n ≤ N → okB ws true n (j * al) = false) ∨ ∃ q : Nat, runR N ws n al true = (((q * al : Nat) : Int), 0) ∧ q * al + n ≤ N ∧ okB ws true n (q * al) = true ∧ ∀ j, j < q → okB ws true n (j * al) = false := by
  rcases hF : runF ws true N n al (N + 1) 0 with _ | q
  · have hno := runF_no ws true N n al (N + 1) 0 hF
    have : ∀ j, j * al + n ≤ N → okB ws true n (j * al) = false := fun j hj => by
      have : j ≤ j * al := Nat.le_mul_of_pos_right _ h3
      exact hno j (by omega) (by omega) hj
    exact .inl ⟨runR_none N ws n al true hE h1 h2 h3 h4 this, this⟩
  · obtain ⟨k, rfl, _, h5, h6, h7⟩ := runF_is ws true N n al _ _ _ hF
    exact .inr ⟨k, runR_hit N ws n al k true hE h1 h2 h3 h4 h5 (fun j hj => h7 j (by omega) hj) h6, h5, h6, fun j hj => h7 j (by omega) hj⟩

/-- The combination of two valid sets of one size. -/
def cmbW (N : Nat) (ws vs : List Nat) (op : Int) : List Nat := wordsOf ((N + 63) / 64) fun i => decide (i < N) && opB op (wbit ws i) (wbit vs i)
theorem cmb_ok (N : Nat) (ws vs : List Nat) (op : Int) (hE : chkE N ws = 0) (hE' : chkE N vs = 0) (h1 : 1 ≤ op) (h2 : op ≤ 4) : combR N ws N vs op = ((N : Int), cmbW N ws vs op, 0) := by
  unfold combR cmbW
  rw [if_neg (by simp [hE]), if_neg (by simp [hE']), if_neg (by omega)]
  simp only [Int.toNat_natCast]
theorem cmb_chk (N : Nat) (ws vs : List Nat) (op : Int) (hN : N ≤ 1024) : chkE N (cmbW N ws vs op) = 0 :=
  chkE_wordsOf N _ hN (fun i hi => by rw [decide_eq_false (by omega)]; rfl)
theorem cmb_small (N : Nat) (ws vs : List Nat) (op : Int) : wsmall (cmbW N ws vs op) := wordsOf_small _ _
theorem cmb_bit (N : Nat) (ws vs : List Nat) (op : Int) (i : Nat) (h : i < N) : wbit (cmbW N ws vs op) i = opB op (wbit ws i) (wbit vs i) := by
  unfold cmbW
  rw [wordsOf_bit _ _ _ (by omega), decide_eq_true h, Bool.true_and]
theorem cmb_one (N : Nat) (ws vs : List Nat) : cmbW N (cmbW N ws vs 3) (cmbW N vs ws 3) 1 = cmbW N ws vs 4 := by
  show wordsOf _ _ = wordsOf _ _
  refine wordsOf_congr _ _ _ (fun i hi => ?_)
  by_cases h : i < N
  · rw [cmb_bit N ws vs 3 i h, cmb_bit N vs ws 3 i h]
    cases wbit ws i <;> cases wbit vs i <;> simp [opB]
  · simp [h]
theorem cmb_cnt (N : Nat) (ws vs : List Nat) : ∀ k, k ≤ N → cnt (cmbW N ws vs 1) 0 k = cnt (cmbW N ws vs 2) 0 k + cnt (cmbW N ws vs 3) 0 k + cnt (cmbW N vs ws 3) 0 k
  | 0, _ => by simp [cnt]
  | k + 1, h => by
    have ih := cmb_cnt N ws vs k (by omega)
    rw [cnt_succ _ 0 k (by omega), cnt_succ _ 0 k (by omega), cnt_succ _ 0 k (by omega), cnt_succ _ 0 k (by omega), cmb_bit N ws vs 1 k (by omega), cmb_bit N ws vs 2 k (by omega), cmb_bit N ws vs 3 k (by omega), cmb_bit N vs ws 3 k (by omega)]
    cases wbit ws k <;> cases wbit vs k <;> simp [opB] <;> omega

theorem cut_at (a : List UInt8) (c : UInt8) (b : List UInt8) (h : c ∉ a) : Lib.cut (a ++ [c] ++ b) [c] = (a, b, true) := by
  have hi : Lib.index (a ++ [c] ++ b) [c] = (a.length : Int) := by
    refine Lib.index_first (by simp) ?_ ?_
    · unfold Lib.occAt
      rw [List.append_assoc, List.drop_left]
      simp
    · intro j hj
      unfold Lib.occAt
      rw [List.append_assoc, List.drop_append_of_le_length (by omega), List.drop_eq_getElem_cons hj]
      have : a[j] ≠ c := fun e => h (e ▸ List.getElem_mem hj)
      rw [List.cons_append, List.isPrefixOf_cons_cons, beq_false_of_ne (Ne.symm this), Bool.false_and]
  unfold Lib.cut
  rw [hi, if_pos (by omega)]
  simp
theorem dec_all : ((List.range 301).all fun n => decide (numM 4 (Lib.decDigits n) = some n) && !(Lib.decDigits n).contains 58) = true := by decide +kernel
theorem dec_num (n : Nat) (h : n ≤ 300) : numM 4 (Lib.decDigits n) = some n ∧ (58 : UInt8) ∉ Lib.decDigits n := by
  have := List.all_eq_true.1 dec_all n (List.mem_range.2 (by omega))
  simp only [Bool.and_eq_true, decide_eq_true_eq, Bool.not_eq_true', List.contains_eq_mem, decide_eq_false_iff_not] at this
  exact this
theorem digL_get (ws : List Nat) (k i : Nat) (h : i < k) : (digL ws k).getD i 0 = hexC (nib ws i) := by
  simp [digL, List.getD_eq_getElem?_getD, List.getElem?_range h]
theorem digN_digL (ws : List Nat) (k i : Nat) (h : i < k) : digN (digL ws k) i = nib ws i := by
  unfold digN
  rw [digL_get ws k i h, hexV_C _ (nib_lt ws i), Int.toNat_natCast]
theorem nib_tab : ((List.range 16).all fun x => (List.range 4).all fun r => decide ((∀ j ∈ List.range 4, r ≤ j → x.testBit j = false) → x / 2 ^ r = 0)) = true := by decide +kernel
theorem nib_div (x r : Nat) (hx : x < 16) (hr : r < 4) (h : ∀ j, j < 4 → r ≤ j → x.testBit j = false) : x / 2 ^ r = 0 := by
  have h1 := List.all_eq_true.1 (List.all_eq_true.1 nib_tab x (List.mem_range.2 hx)) r (List.mem_range.2 hr)
  exact of_decide_eq_true h1 (fun j hj h2 => h j (List.mem_range.1 hj) h2)
/-- The text of a set is read as this set. -/
theorem text_back (N : Nat) (ws : List Nat) (hN : N ≤ 300) (hE : chkE N ws = 0) (hs : wsmall ws) : (textB N ws).2 = 0 ∧ parB (textB N ws).1 = ((N : Int), ws, 0) := by
  obtain ⟨_, _, hl, hz⟩ := chk_zero N ws hE
  have ht : textB N ws = (Lib.decDigits N ++ [58] ++ digL ws ((N + 3) / 4), 0) := by
    unfold textB
    rw [if_neg (by simp [hE]), Int.toNat_natCast]
  rw [ht]
  refine ⟨rfl, ?_⟩
  obtain ⟨h1, h2⟩ := dec_num N hN
  have hlen := digL_len ws ((N + 3) / 4)
  have hsz : sizB (Lib.decDigits N ++ [58] ++ digL ws ((N + 3) / 4)) = some (N, digL ws ((N + 3) / 4)) := by
    unfold sizB
    rw [cut_at _ _ _ h2]
    simp only [h1, hlen, if_true]
  obtain ⟨k, hk⟩ : ∃ k, (N + 3) / 4 = k := ⟨_, rfl⟩
  rw [hk] at hsz hlen ⊢
  have hbit : ∀ i, i < 64 * ws.length → wbit ws i = (decide (i < 4 * k) && bitD (digL ws k) i) := by
    intro i hi
    by_cases h4 : i < 4 * k
    · unfold bitD
      rw [digN_digL ws k (i / 4) (by omega), decide_eq_true h4, Bool.true_and, ← nib_bit ws (i / 4) (i % 4) (by omega), show 4 * (i / 4) + i % 4 = i by omega]
    · rw [decide_eq_false h4, Bool.false_and]
      exact hz i (by omega) hi hs
  have hok : allOK N (digL ws k) k = true := by
    unfold allOK
    rw [List.all_eq_true]
    intro i hi
    have hi := List.mem_range.1 hi
    unfold digOK
    rw [digN_digL ws k i hi, digL_get ws k i hi, hexV_C _ (nib_lt ws i), decide_eq_true (by omega), Bool.true_and]
    by_cases h4 : 4 * i + 4 ≤ N
    · rw [decide_eq_true h4]; rfl
    · rw [decide_eq_false h4, Bool.false_or, decide_eq_true_eq]
      refine nib_div _ _ (nib_lt ws i) (by omega) (fun j hj h5 => ?_)
      rw [← nib_bit ws i j hj]
      exact hz _ (by omega) (by omega) hs
  unfold parB
  rw [hsz]
  simp only [hlen, hok, if_true]
  rw [if_neg (by omega)]
  have hw := words_eq ws hs _ hbit
  have e : parW N (digL ws k) k = ws := by
    unfold parW
    rw [show (N + 63) / 64 = ws.length by omega]
    exact hw.symm
  rw [e]
end Go.Proofs.YtihbdndigfnhkaaDoor
