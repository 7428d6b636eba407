/- The child's table: plain facts. -/
import Derived.Test.YtmjahjdnfijpkaaDoorHB
import Derived.Test.YtmjahjdnfijpkaaDoorGW
import Derived.Test.YtmjahjdnfijpkaaDoorGV
namespace Go.Proofs.YtmjahjdnfijpkaaDoor
open Go Go.Proofs Go.RowKit
set_option linter.unusedSimpArgs false
set_option linter.unusedVariables false

theorem tab_intro {r : Int} {ls : List Int} {es : List Nat} (h1 : ls.length = 8) (h2 : es.length = 64) (h3 : -1 ≤ r ∧ r < 256) (h4 : ∀ i, i < 8 → -1 ≤ ls.getD i 0 ∧ ls.getD i 0 < 256) (h5 : ∀ i, i < 8 → dupE r ls i = 0) (h6 : ∀ i, i < 8 → stE r ls i = 0)
    (h7 : ∀ p, p < 64 → unpE (es.getD p 0) = 0) (h8 : ∀ p, p < 64 → ¬ (es.getD p 0 % 4 ≠ 0 ∧ ls.getD (p / 8) 0 = -1)) : tabE r ls es = 0 := by
  unfold tabE
  rw [if_neg (by omega)]
  have hB : badF r = 0 := by unfold badF; rw [if_neg (by omega)]
  have hl : lsE ls = 0 := (fst0_zero _ _).2 fun i hi => by
    have := h4 i hi
    unfold badF
    rw [if_neg (by omega)]
  have hf : frmE r ls = 0 := by
    unfold frmE
    rw [orE_r _ hB, orE_r _ hl, orE_r _ ((fst0_zero _ _).2 h5)]
    exact (fst0_zero _ _).2 h6
  rw [orE_r _ hf]
  refine (fst0_zero _ _).2 fun p hp => ?_
  unfold entB
  rw [orE_r _ (h7 p hp), if_neg (h8 p hp)]
/-- The frames of a fork that fit. -/
structure FrOk (fr ls : List Int) : Prop where
  len : fr.length = neeN ls
  rng : ∀ i, i < fr.length → 0 ≤ fr.getD i 0 ∧ fr.getD i 0 ≤ 255
  ne : ∀ i j, i < j → j < fr.length → fr.getD i 0 ≠ fr.getD j 0
theorem take_mem {fr : List Int} {i j : Nat} (hij : i < j) (hj : j < fr.length) : fr.getD i 0 ∈ fr.take j := by
  have hi : i < fr.length := by omega
  rw [List.getD_eq_getElem?_getD, List.getElem?_eq_getElem hi]
  exact List.mem_iff_getElem.2 ⟨i, by rw [List.length_take]; omega, by simp⟩
theorem fit_ok {s : Sp} {fr : List Int} (h : fst0 (fitF s fr) fr.length = 0) (hl : fr.length = neeN s.2.2.1) : FrOk fr s.2.2.1 ∧ ∀ i, i < fr.length → usedB s (fr.getD i 0) = false := by
  have hi := (fst0_zero _ _).1 h
  have key : ∀ i, i < fr.length → (0 ≤ fr.getD i 0 ∧ fr.getD i 0 ≤ 255) ∧ usedB s (fr.getD i 0) = false ∧ ¬ fr.getD i 0 ∈ fr.take i := fun i hlt => by
    have := hi i hlt
    unfold fitF at this
    split at this
    · omega
    · rename_i h1
      split at this
      · omega
      · rename_i h2
        refine ⟨by omega, ?_, fun hm => h2 (.inr hm)⟩
        cases hu : usedB s (fr.getD i 0)
        · rfl
        · exact absurd (.inl hu) h2
  refine ⟨⟨hl, fun i hlt => (key i hlt).1, fun i j hij hj he => (key j hj).2.2 ?_⟩, fun i hlt => (key i hlt).2.1⟩
  rw [← he]
  exact take_mem hij hj
theorem cnt_succ (ls : List Int) (h8 : ls.length = 8) (k : Nat) (hk : k < 8) : (frmL ls (k + 1)).length = (frmL ls k).length + if ls.getD k 0 = -1 then 0 else 1 := by
  rw [frmL_succ ls k (by omega), List.length_append]
  split <;> simp
theorem cnt_mono (ls : List Int) (h8 : ls.length = 8) (i : Nat) : ∀ d : Nat, i + d ≤ 8 → (frmL ls i).length ≤ (frmL ls (i + d)).length
  | 0, _ => Nat.le_refl _
  | d + 1, h => by
    have h1 := cnt_mono ls h8 i d (by omega)
    have h2 := cnt_succ ls h8 (i + d) (by omega)
    rw [Nat.add_assoc] at h2
    omega
theorem cnt_lt {ls : List Int} (h8 : ls.length = 8) {j : Nat} (hj : j < 8) (hn : ls.getD j 0 ≠ -1) {k : Nat} (hk : j < k) (hk8 : k ≤ 8) : (frmL ls j).length < (frmL ls k).length := by
  have h1 := cnt_succ ls h8 j hj
  rw [if_neg hn] at h1
  have h2 := cnt_mono ls h8 (j + 1) (k - (j + 1)) (by omega)
  rw [show j + 1 + (k - (j + 1)) = k by omega] at h2
  omega
/-- The child's leaves behind the groups below k. -/
def chP (fr ls : List Int) (k : Nat) : List Int := (List.range 8).map fun j => if j < k then chiA fr ls j else -1
theorem chP_len (fr ls : List Int) (k : Nat) : (chP fr ls k).length = 8 := by simp [chP]
theorem chP_at (fr ls : List Int) (k : Nat) {j : Nat} (hj : j < 8) : (chP fr ls k).getD j 0 = if j < k then chiA fr ls j else -1 := by
  unfold chP
  simp [hj]
theorem chP_zero (fr ls : List Int) : chP fr ls 0 = List.replicate 8 (-1) := by
  unfold chP
  rw [show (fun j => if j < 0 then chiA fr ls j else -1) = (fun _ => -1) from funext fun j => if_neg (by omega)]
  rfl
theorem chP_all (fr ls : List Int) : chP fr ls 8 = chiL fr ls := by
  unfold chP chiL
  apply List.map_congr_left
  intro j hj
  rw [if_pos (List.mem_range.1 hj)]
theorem chP_succ (fr ls : List Int) (k : Nat) (hk : k < 8) : chP fr ls (k + 1) = (chP fr ls k).set k (chiA fr ls k) := by
  apply List.ext_getElem?
  intro i
  unfold chP
  rw [List.getElem?_set]
  by_cases hi : i < 8
  · by_cases h : k = i
    · subst h
      simp [hi]
    · rw [if_neg h]
      have h1 : (i < k) = (i < k + 1) := propext ⟨fun _ => by omega, fun _ => by omega⟩
      simp [hi, h1]
  · by_cases h : k = i
    · omega
    · simp [hi, h]
theorem chP_skip (fr ls : List Int) (k : Nat) (hk : k < 8) (h : ls.getD k 0 = -1) : chP fr ls (k + 1) = chP fr ls k := by
  unfold chP
  apply List.map_congr_left
  intro j hj
  by_cases h1 : j < k
  · rw [if_pos h1, if_pos (by omega)]
  · rw [if_neg h1]
    by_cases h2 : j = k
    · subst h2
      rw [if_pos (by omega)]
      unfold chiA
      rw [if_pos h]
    · rw [if_neg (by omega)]
section
variable {fr ls : List Int}
theorem chiA_idx (h8 : ls.length = 8) (hf : FrOk fr ls) {j : Nat} (hj : j < 8) (hn : ls.getD j 0 ≠ -1) : chiA fr ls j = fr.getD (1 + (frmL ls j).length) 0 ∧ 1 + (frmL ls j).length < fr.length := by
  have h1 := cnt_lt h8 hj hn (k := 8) (by omega) (by omega)
  have h2 := hf.len
  unfold neeN at h2
  unfold chiA
  rw [if_neg hn]
  exact ⟨rfl, by omega⟩
theorem chiA_rng (h8 : ls.length = 8) (hf : FrOk fr ls) {j : Nat} (hj : j < 8) : -1 ≤ chiA fr ls j ∧ chiA fr ls j < 256 := by
  by_cases hn : ls.getD j 0 = -1
  · unfold chiA
    rw [if_pos hn]
    omega
  · obtain ⟨e, h⟩ := chiA_idx h8 hf hj hn
    have := hf.rng _ h
    rw [e]
    omega
theorem chiA_ne0 (h8 : ls.length = 8) (hf : FrOk fr ls) {j : Nat} (hj : j < 8) : chiA fr ls j ≠ fr.getD 0 0 := by
  have h0 : 0 < fr.length := by have := hf.len; unfold neeN at this; omega
  by_cases hn : ls.getD j 0 = -1
  · unfold chiA
    rw [if_pos hn]
    have := hf.rng 0 h0
    omega
  · obtain ⟨e, h⟩ := chiA_idx h8 hf hj hn
    rw [e]
    exact fun hh => hf.ne 0 _ (by omega) h hh.symm
theorem chiA_neg (h8 : ls.length = 8) (hf : FrOk fr ls) {j : Nat} (hj : j < 8) : chiA fr ls j = -1 ↔ ls.getD j 0 = -1 := by
  constructor
  · intro h
    refine Classical.byContradiction fun hn => ?_
    obtain ⟨e, h1⟩ := chiA_idx h8 hf hj hn
    have := hf.rng _ h1
    omega
  · intro h
    unfold chiA
    rw [if_pos h]
theorem chiA_inj (h8 : ls.length = 8) (hf : FrOk fr ls) {i j : Nat} (hij : i < j) (hj : j < 8) (hn : ls.getD j 0 ≠ -1) : chiA fr ls i ≠ chiA fr ls j := by
  obtain ⟨e, h⟩ := chiA_idx h8 hf hj hn
  by_cases hi : ls.getD i 0 = -1
  · have := (chiA_neg h8 hf (j := i) (by omega)).2 hi
    have := hf.rng _ h
    omega
  · obtain ⟨e2, h2⟩ := chiA_idx h8 hf (j := i) (by omega) hi
    have := cnt_lt h8 (j := i) (by omega) hi hij (by omega)
    rw [e, e2]
    exact hf.ne _ _ (by omega) h
theorem chP_tab (h8 : ls.length = 8) (hf : FrOk fr ls) (k : Nat) {es : List Nat} (h64 : es.length = 64) (h7 : ∀ p, p < 64 → unpE (es.getD p 0) = 0) (h8' : ∀ p, p < 64 → ¬ (es.getD p 0 % 4 ≠ 0 ∧ (chP fr ls k).getD (p / 8) 0 = -1)) : tabE (fr.getD 0 0) (chP fr ls k) es = 0 := by
  have h0 : 0 < fr.length := by have := hf.len; unfold neeN at this; omega
  have hr0 := hf.rng 0 h0
  refine tab_intro (chP_len _ _ _) h64 (by omega) (fun i hi => ?_) (fun i hi => ?_) (fun i hi => ?_) h7 h8'
  · rw [chP_at _ _ _ hi]
    have := chiA_rng h8 hf hi
    split <;> omega
  · unfold dupE
    rw [if_neg]
    rintro ⟨h1, h2⟩
    rw [chP_at _ _ _ hi] at h1 h2
    by_cases hik : i < k
    · rw [if_pos hik] at h1 h2
      have hn : ls.getD i 0 ≠ -1 := fun hh => by have := (chiA_neg h8 hf hi).2 hh; omega
      rcases h2 with h2 | ⟨q, hq, h2⟩
      · exact chiA_ne0 h8 hf hi h2
      · rw [chP_at _ _ _ (by omega), if_pos (by omega)] at h2
        exact chiA_inj h8 hf hq hi hn h2
    · rw [if_neg hik] at h1
      omega
  · unfold stE
    rw [if_neg (by omega)]
theorem chP_leaf (h8 : ls.length = 8) (hf : FrOk fr ls) (k : Nat) (hk : k < 8) (hn : ls.getD k 0 ≠ -1) : leafR (fr.getD 0 0) (chP fr ls k) (List.replicate 64 0) k (fr.getD (1 + (frmL ls k).length) 0) = ((fr.getD 0 0, chP fr ls (k + 1), List.replicate 64 0), 0) := by
  have hz : ∀ p, (List.replicate 64 (0 : Nat)).getD p 0 = 0 := fun p => by
    rw [List.getD_eq_getElem?_getD, List.getElem?_replicate]
    split <;> rfl
  have hT : tabE (fr.getD 0 0) (chP fr ls k) (List.replicate 64 0) = 0 := chP_tab h8 hf k (by simp) (fun p _ => by rw [hz]; rfl) (fun p _ h => by rw [hz] at h; exact h.1 rfl)
  obtain ⟨e, hlt⟩ := chiA_idx h8 hf hk hn
  have hrg := hf.rng _ hlt
  have h0 : 0 < fr.length := by omega
  have hr0 := hf.rng 0 h0
  have hE : leafE (fr.getD 0 0) (chP fr ls k) (List.replicate 64 0) k (fr.getD (1 + (frmL ls k).length) 0) = 0 := by
    unfold leafE
    rw [orE_r _ hT, if_neg (by omega), if_neg (by omega), Int.toNat_natCast, if_neg]
    rintro (h1 | h1 | h1)
    · rw [chP_at _ _ _ hk, if_neg (by omega)] at h1
      exact h1 rfl
    · exact hf.ne 0 _ (by omega) hlt h1.symm
    · obtain ⟨j, hj, he⟩ := List.mem_iff_getElem.1 h1
      have hj8 : j < 8 := by rw [chP_len] at hj; exact hj
      have he2 : (chP fr ls k).getD j 0 = fr.getD (1 + (frmL ls k).length) 0 := by rw [List.getD_eq_getElem?_getD, List.getElem?_eq_getElem hj]; exact he
      rw [chP_at _ _ _ hj8, ← e] at he2
      by_cases hjk : j < k
      · rw [if_pos hjk] at he2
        exact chiA_inj h8 hf hjk hk hn he2
      · rw [if_neg hjk] at he2
        rw [e] at he2
        omega
  unfold leafR
  rw [if_neg (fun h => h hE), Int.toNat_natCast, chP_succ _ _ _ hk, e]
end
end Go.Proofs.YtmjahjdnfijpkaaDoor
