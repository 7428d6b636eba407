/- Entries that are put and cleared, leaves that are trimmed: plain facts. -/
import Derived.Test.YtnmknbnidfmmoaaDoorMade3
namespace Go.Proofs.YtnmknbnidfmmoaaDoor
open Go Go.Proofs Go.RowKit
set_option linter.unusedSimpArgs false
set_option linter.unusedVariables false

theorem getD_setI (ls : List Int) (p j : Nat) (x : Int) (hp : p < ls.length) : (ls.set p x).getD j 0 = if j = p then x else ls.getD j 0 := by
  rw [List.getD_eq_getElem?_getD, List.getElem?_set]
  by_cases h : p = j
  · subst h
    rw [if_pos rfl, if_pos hp, if_pos rfl]
    rfl
  · rw [if_neg h, if_neg (fun e => h e.symm), List.getD_eq_getElem?_getD]
theorem empty_iff (es : List Nat) (j : Nat) : emptyB es j = true ↔ ∀ i, i < 8 → unpK (es.getD (j * 8 + i) 0) = 0 := by
  unfold emptyB
  rw [List.all_eq_true]
  constructor
  · intro h i hi
    simpa using h i (List.mem_range.2 hi)
  · intro h i hi
    simpa using h i (List.mem_range.1 hi)
/-- A table without an empty leaf is valid. -/
theorem unset_valid {r : Int} {ls : List Int} {es : List Nat} (h : tabE r ls es = 0) (j : Nat) (hj : j < 8) (he : emptyB es j = true) : tabE r (ls.set j (-1)) es = 0 := by
  obtain ⟨h1, h2, h3, h4, h5, h6, h7, h8⟩ := tab_zero h
  have hg : ∀ i, (ls.set j (-1)).getD i 0 = if i = j then -1 else ls.getD i 0 := fun i => getD_setI ls j i (-1) (by omega)
  unfold tabE
  rw [if_neg (by rw [List.length_set]; omega)]
  have hB : badF r = 0 := by unfold badF; rw [if_neg (by omega)]
  have hl : lsE (ls.set j (-1)) = 0 := by
    refine (fst0_zero _ _).2 fun i hi => ?_
    rw [hg]
    unfold badF
    rw [if_neg]
    have := h4 i hi
    split <;> omega
  have hd : fst0 (dupE r (ls.set j (-1))) 8 = 0 := by
    refine (fst0_zero _ _).2 fun i hi => ?_
    have := h5 i hi
    unfold dupE at this ⊢
    rw [if_neg]
    rintro ⟨ha, hb⟩
    rw [hg i] at ha hb
    by_cases hij : i = j
    · rw [if_pos hij] at ha
      omega
    · rw [if_neg hij] at ha hb
      rw [if_pos] at this
      · omega
      · refine ⟨ha, ?_⟩
        rcases hb with hb | ⟨q, hq, hb⟩
        · exact Or.inl hb
        · rw [hg q] at hb
          by_cases hqj : q = j
          · rw [if_pos hqj] at hb
            omega
          · rw [if_neg hqj] at hb
            exact Or.inr ⟨q, hq, hb⟩
  have hs : fst0 (stE r (ls.set j (-1))) 8 = 0 := by
    refine (fst0_zero _ _).2 fun i hi => ?_
    have := h6 i hi
    unfold stE at this ⊢
    rw [hg i]
    by_cases hij : i = j
    · rw [if_pos hij, if_neg (by omega)]
    · rw [if_neg hij]
      exact this
  have hf : frmE r (ls.set j (-1)) = 0 := by
    unfold frmE
    rw [orE_r _ hB, orE_r _ hl, orE_r _ hd, hs]
  rw [orE_r _ hf]
  refine (fst0_zero _ _).2 fun p hp => ?_
  unfold entB
  rw [orE_r _ (h7 p hp), if_neg]
  rintro ⟨ha, hb⟩
  rw [hg] at hb
  by_cases hij : p / 8 = j
  · have := (empty_iff es j).1 he (p % 8) (by omega)
    rw [show j * 8 + p % 8 = p by omega, unpK_eq _ (h7 p hp)] at this
    omega
  · rw [if_neg hij] at hb
    exact h8 p hp ⟨ha, hb⟩
theorem unpE0 : unpE 0 = 0 := by decide
theorem unpR0 : unpR 0 = ((0, 0, false, false, false), 0) := by decide
/-- An entry is put, or its leaf is missing. -/
theorem back_put {r : Int} {ls : List Int} {es : List Nat} (h : tabE r ls es = 0) (p : Nat) (hp : p < 64) (k n : Int) (a b c : Bool) (hc : chk k n a b c = 0) :
    (ls.getD (p / 8) 0 = -1 ∧ k ≠ 0 ∧ putR r ls es p k n a b c = (tb0, 9)) ∨
    ((k ≠ 0 → ls.getD (p / 8) 0 ≠ -1) ∧ ∃ x : Nat, putR r ls es p k n a b c = ((r, ls, es.set p x), 0) ∧ tabE r ls (es.set p x) = 0 ∧ x < 65536 ∧ unpR x = ((k, n, a, b, c), 0) ∧ unpK x = k ∧ unpE x = 0) := by
  have ha : askE r ls es p = 0 := by unfold askE; rw [orE_r _ h, if_neg (by omega)]
  have hp2 : (packR k n a b c).2 = 0 := by unfold packR; rw [if_neg (by simp [hc])]
  obtain ⟨x, hx, hx2⟩ := packR_nat k n a b c hp2
  have hpk : packR k n a b c = ((x : Int), 0) := Prod.ext hx hp2
  obtain ⟨u1, u2, u3, u4⟩ := unpE_pack k n a b c x hpk
  by_cases hl : ls.getD (p / 8) 0 = -1 ∧ k ≠ 0
  · left
    have hE : putE r ls es p k n a b c = 9 := by unfold putE; rw [orE_r _ ha, orE_r _ hp2, Int.toNat_natCast, if_pos hl]
    exact ⟨hl.1, hl.2, by unfold putR; rw [if_pos (by omega), hE]⟩
  · right
    have hE : putE r ls es p k n a b c = 0 := by unfold putE; rw [orE_r _ ha, orE_r _ hp2, Int.toNat_natCast, if_neg hl]
    refine ⟨fun h0 h1 => hl ⟨h1, h0⟩, x, by unfold putR; rw [if_neg (by omega), hx, Int.toNat_natCast, Int.toNat_natCast], put_valid h p x hp u1 (fun hh => hl ⟨hh.2, by omega⟩), u4, u3, by unfold unpK; rw [u3], u1⟩
theorem back_clear0 {r : Int} {ls : List Int} {es : List Nat} (h : tabE r ls es = 0) (p : Nat) (hp : p < 64) (hk : unpK (es.getD p 0) = 0) : clearR r ls es p = (tb0, 0, 6) := by
  have ha : askE r ls es p = 0 := by unfold askE; rw [orE_r _ h, if_neg (by omega)]
  have hE : clearE r ls es p = 6 := by unfold clearE; rw [orE_r _ ha, Int.toNat_natCast, if_pos hk]
  unfold clearR
  rw [if_pos (by omega), hE]
theorem back_clear {r : Int} {ls : List Int} {es : List Nat} (h : tabE r ls es = 0) (p : Nat) (hp : p < 64) (hk : unpK (es.getD p 0) ≠ 0) :
    (emptyB (es.set p 0) (p / 8) = true ∧ clearR r ls es p = ((r, ls.set (p / 8) (-1), es.set p 0), ls.getD (p / 8) 0, 0) ∧ tabE r (ls.set (p / 8) (-1)) (es.set p 0) = 0) ∨
    (emptyB (es.set p 0) (p / 8) = false ∧ clearR r ls es p = ((r, ls, es.set p 0), -1, 0) ∧ tabE r ls (es.set p 0) = 0) := by
  have ha : askE r ls es p = 0 := by unfold askE; rw [orE_r _ h, if_neg (by omega)]
  have hE : clearE r ls es p = 0 := by unfold clearE; rw [orE_r _ ha, Int.toNat_natCast, if_neg hk]
  have hv : tabE r ls (es.set p 0) = 0 := put_valid h p 0 hp unpE0 (by simp)
  unfold clearR
  rw [if_neg (by omega), Int.toNat_natCast]
  by_cases he : emptyB (es.set p 0) (p / 8) = true
  · left
    rw [if_pos he]
    exact ⟨he, rfl, unset_valid hv _ (by omega) he⟩
  · right
    rw [if_neg he]
    exact ⟨by simpa using he, rfl, hv⟩
theorem mdL_at : ∀ j, j < 8 → (mdL 8).getD j 0 = -1 ∨ (mdL 8).getD j 0 = 100 + (j : Int) := by decide +kernel
end Go.Proofs.YtnmknbnidfmmoaaDoor
