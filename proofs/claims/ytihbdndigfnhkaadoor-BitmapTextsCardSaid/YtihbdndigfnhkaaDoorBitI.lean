/- Texts of sets, by the reference: where the size ends. Plain lists. -/
import Derived.Test.YtihbdndigfnhkaaDoorBitF
namespace Go.Proofs.YtihbdndigfnhkaaDoor
open Go
set_option linter.unusedSimpArgs false
set_option linter.unusedVariables false

theorem cut_inv (l : List UInt8) (h : (Lib.cut l [58]).2.2 = true) : ∃ i, i < l.length ∧ l.getD i 0 = 58 ∧ (Lib.cut l [58]).1 = l.take i := by
  unfold Lib.cut at h ⊢
  rcases Lib.index_spec l [58] with ⟨h1, _⟩ | ⟨i, h1, h2, h3, _⟩
  · rw [h1] at h
    simp at h
  · rw [h1, if_pos (by omega)]
    unfold Lib.occAt at h3
    rcases hd : l.drop i with _ | ⟨c, t⟩
    · rw [hd] at h3; simp at h3
    · rw [hd, List.isPrefixOf_cons_cons] at h3
      have hc : c = 58 := by simp at h3; exact h3.symm
      have hlt : i < l.length := by
        have := congrArg List.length hd
        simp at this; omega
      refine ⟨i, hlt, ?_, by simp⟩
      have : l[i]? = some c := by
        have h5 : (l.drop i)[0]? = some c := by rw [hd]; rfl
        rwa [List.getElem?_drop, Nat.add_zero] at h5
      rw [List.getD_eq_getElem?_getD, this, hc]; rfl
theorem take_dig (l : List UInt8) (k j : Nat) (h : (l.take k).all isD = true) (hj : j < k) (hl : j < l.length) : isD (l.getD j 0) = true := by
  have h1 := List.all_eq_true.1 h
  have : (l.take k)[j]? = some (l.getD j 0) := by
    rw [List.getElem?_take_of_lt hj, List.getElem?_eq_getElem hl, List.getD_eq_getElem?_getD, List.getElem?_eq_getElem hl]; rfl
  exact h1 _ (List.mem_of_getElem? this)
theorem numM_inv (l : List UInt8) (n : Nat) (h : numM 4 l = some n) : 0 < l.length ∧ l.length ≤ 4 ∧ ¬ (1 < l.length ∧ l.getD 0 0 = 48) ∧ l.all isD = true ∧ n = numV l := by
  unfold numM at h
  split at h
  · cases h
  · rename_i hc
    injection h with h
    refine ⟨by omega, by omega, fun h1 => hc (.inr (.inr (.inl h1))), ?_, h.symm⟩
    rcases hb : l.all isD with _ | _
    · exact absurd (.inr (.inr (.inr hb))) hc
    · rfl
def sizC (l : List UInt8) (k : Nat) : Bool := decide (k = 0) || (decide (1 < k) && decide (l.getD 0 0 = 48)) || decide (l.length ≤ k) || decide (l.getD k 0 ≠ 58) || decide (l.length - k - 1 ≠ (numV (l.take k) + 3) / 4)
theorem siz_of (l : List UInt8) (k : Nat) (hk : k ≤ 4) (hkl : k ≤ l.length) (hall : (l.take k).all isD = true) (hx : k = l.length ∨ isD (l.getD k 0) = false ∨ k = 4) :
    sizB l = if sizC l k = true then none else some (numV (l.take k), l.drop (k + 1)) := by
  by_cases hc : k < l.length ∧ l.getD k 0 = 58
  · obtain ⟨h1, h2⟩ := hc
    have hl : l = l.take k ++ [58] ++ l.drop (k + 1) := by
      have h3 : l[k] = 58 := by rw [List.getD_eq_getElem?_getD, List.getElem?_eq_getElem h1] at h2; exact h2
      conv => lhs; rw [← List.take_append_drop k l, List.drop_eq_getElem_cons h1, h3]
      simp
    have hnot : (58 : UInt8) ∉ l.take k := by
      intro hm
      have := List.all_eq_true.1 hall _ hm
      exact absurd this (by decide)
    have hcut : Lib.cut l [58] = (l.take k, l.drop (k + 1), true) := by
      conv => lhs; rw [hl]
      exact cut_at _ _ _ hnot
    have hlen : (l.take k).length = k := by simp; omega
    have hg0 : 0 < k → (l.take k).getD 0 0 = l.getD 0 0 := fun h => by rw [List.getD_eq_getElem?_getD, List.getElem?_take_of_lt h, ← List.getD_eq_getElem?_getD]
    have hdl : (l.drop (k + 1)).length = l.length - k - 1 := by simp; omega
    unfold sizB
    rw [hcut]
    simp only [if_true]
    by_cases c1 : k = 0
    · have : sizC l k = true := by unfold sizC; rw [decide_eq_true c1]; simp
      rw [this, if_pos rfl, numM_bad 4 _ (.inl (by omega))]
    by_cases c2 : 1 < k ∧ l.getD 0 0 = 48
    · have : sizC l k = true := by unfold sizC; rw [decide_eq_true c2.1, decide_eq_true c2.2]; simp
      rw [this, if_pos rfl, numM_bad 4 _ (.inr (.inr (.inl ⟨by omega, by rw [hg0 (by omega)]; exact c2.2⟩)))]
    have hn : numM 4 (l.take k) = some (numV (l.take k)) := numM_ok 4 _ (by
      rintro (h | h | h)
      · omega
      · omega
      · exact c2 ⟨by omega, by rw [← hg0 (by omega)]; exact h.2⟩) hall
    rw [hn]
    simp only
    rw [hdl]
    have hS : sizC l k = decide (l.length - k - 1 ≠ (numV (l.take k) + 3) / 4) := by
      unfold sizC
      rw [decide_eq_false c1, decide_eq_false (show ¬ l.length ≤ k by omega), decide_eq_false (show ¬ l.getD k 0 ≠ 58 by simpa using h2)]
      have : (decide (1 < k) && decide (l.getD 0 0 = 48)) = false := by
        rw [Bool.and_eq_false_iff]
        simp only [decide_eq_false_iff_not]
        by_cases h : 1 < k
        · exact .inr (fun h' => c2 ⟨h, h'⟩)
        · exact .inl h
      rw [this]; simp
    rw [hS]
    by_cases c3 : l.length - k - 1 = (numV (l.take k) + 3) / 4
    · rw [if_pos c3, decide_eq_false (by simpa using c3), if_neg (by simp)]
    · rw [if_neg c3, decide_eq_true c3, if_pos rfl]
  · have hS : sizC l k = true := by
      unfold sizC
      by_cases h1 : l.length ≤ k
      · rw [decide_eq_true h1]; simp
      · have : l.getD k 0 ≠ 58 := fun h => hc ⟨by omega, h⟩
        rw [decide_eq_true this]; simp
    rw [hS, if_pos rfl]
    unfold sizB
    split
    · rename_i h
      obtain ⟨i, h1, h2, h3⟩ := cut_inv l h
      rw [h3]
      rcases hn : numM 4 (l.take i) with _ | n
      · rfl
      · exfalso
        obtain ⟨n1, n2, n3, n4, _⟩ := numM_inv _ _ hn
        have hlen : (l.take i).length = i := by simp; omega
        rw [hlen] at n1 n2
        by_cases hki : k < i
        · have := take_dig l i k n4 hki (by omega)
          rcases hx with h | h | h
          · omega
          · rw [h] at this; cases this
          · omega
        · by_cases hik : i < k
          · have := take_dig l k i hall hik h1
            rw [h2] at this
            exact absurd this (by decide)
          · have : k = i := by omega
            subst this
            exact hc ⟨h1, h2⟩
    · rfl
theorem siz_bad (l : List UInt8) (k : Nat) (h : sizB l = if sizC l k = true then none else some (numV (l.take k), l.drop (k + 1))) (hc : sizC l k = true) : parB l = (0, [], 3) := by
  unfold parB
  rw [h, hc, if_pos rfl]
end Go.Proofs.YtihbdndigfnhkaaDoor
