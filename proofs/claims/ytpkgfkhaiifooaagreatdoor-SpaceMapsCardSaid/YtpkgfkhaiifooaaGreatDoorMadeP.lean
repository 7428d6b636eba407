/- Page tables: plain facts on words that are put. No walk here. -/
import Derived.Test.YtpkgfkhaiifooaaGreatDoorGU
namespace Go.Proofs.YtpkgfkhaiifooaaGreatDoor
open Go Go.Proofs Go.RowKit
set_option linter.unusedSimpArgs false
set_option linter.unusedVariables false
set_option maxRecDepth 100000

theorem flagN_bits (a b c : Bool) : flagN a b c % 2 = a.toNat ∧ flagN a b c / 2 % 2 = b.toNat ∧ flagN a b c / 4 % 2 = c.toNat := by cases a <;> cases b <;> cases c <;> decide
theorem toNat_dec (a : Bool) (x : Nat) (h : x = a.toNat) : decide (x = 1) = a := by cases a <;> simp_all
/-- The word of a valid entry is this entry. -/
theorem unp_pack (k n : Nat) (a b c : Bool) (h : chk k n a b c = 0) : unpR (packN k n a b c) = (((k : Int), (n : Int), a, b, c), 0) := by
  obtain ⟨hk, hn0, hn1⟩ := chk_ok _ _ _ _ _ h
  have hf := flagN_lt a b c
  obtain ⟨f1, f2, f3⟩ := flagN_bits a b c
  have e1 : packN k n a b c % 4 = k := by unfold packN; omega
  have e2 : packN k n a b c / 256 = n := by unfold packN; omega
  have e3 : packN k n a b c / 4 % 2 = a.toNat := by unfold packN; omega
  have e4 : packN k n a b c / 8 % 2 = b.toNat := by unfold packN; omega
  have e5 : packN k n a b c / 16 % 2 = c.toNat := by unfold packN; omega
  have e6 : packN k n a b c / 32 % 8 = 0 := by unfold packN; omega
  have e7 : packN k n a b c / 65536 = 0 := by unfold packN; omega
  have hE : unpE (packN k n a b c) = 0 := by
    unfold unpE
    rw [if_neg (by omega), if_neg (by omega), e1, e2, toNat_dec a _ e3, toNat_dec b _ e4, toNat_dec c _ e5]
    exact h
  unfold unpR
  rw [if_pos hE, e1, e2, toNat_dec a _ e3, toNat_dec b _ e4, toNat_dec c _ e5]
theorem packN_lt (k n : Nat) (a b c : Bool) (h : chk k n a b c = 0) : packN k n a b c < 65536 := by
  obtain ⟨hk, hn0, hn1⟩ := chk_ok _ _ _ _ _ h
  have hf := flagN_lt a b c
  unfold packN
  omega
theorem chk_sw (z : Int) (h0 : 0 ≤ z) (h1 : z ≤ 255) : chk 2 z false false false = 0 := by grind [chk]
theorem chk_pr (z : Int) (a b c : Bool) (h0 : 0 ≤ z) (h1 : z ≤ 255) (h : a ≠ b) : chk 1 z a b c = 0 := by grind [chk]

/-- A table stays valid if a valid entry is put where there is a leaf. -/
theorem unpE_pack (k n : Int) (a b c : Bool) (x : Nat) (h : packR k n a b c = ((x : Int), 0)) : unpE x = 0 ∧ ((x % 4 : Nat) : Int) = k ∧ unpR x = ((k, n, a, b, c), 0) ∧ x < 65536 := by
  have hc : chk k n a b c = 0 := by
    apply Classical.byContradiction
    intro hc
    unfold packR at h
    rw [if_pos hc] at h
    injection h with _ h
    exact hc h
  obtain ⟨hk, hn0, hn1⟩ := chk_ok _ _ _ _ _ hc
  have hx : x = packN k.toNat n.toNat a b c := by
    unfold packR at h
    rw [if_neg (by simp [hc])] at h
    injection h with h _
    omega
  obtain ⟨k', rfl⟩ : ∃ q : Nat, k = q := ⟨k.toNat, by omega⟩
  obtain ⟨n', rfl⟩ : ∃ q : Nat, n = q := ⟨n.toNat, by omega⟩
  simp only [Int.toNat_natCast] at hx
  have hu := unp_pack k' n' a b c hc
  rw [← hx] at hu
  have hE : unpE x = 0 := by
    apply Classical.byContradiction
    intro h0
    unfold unpR at hu
    rw [if_neg h0] at hu
    injection hu with _ h2
    exact h0 h2
  have hlt := packN_lt k' n' a b c hc
  refine ⟨hE, ?_, hu, by omega⟩
  have := unpK_eq x hE
  unfold unpK at this
  rw [hu] at this
  exact this.symm
theorem getD_set (es : List Nat) (p x j : Nat) (hp : p < es.length) : (es.set p x).getD j 0 = if j = p then x else es.getD j 0 := by
  rw [List.getD_eq_getElem?_getD, List.getElem?_set]
  by_cases h : p = j
  · subst h
    rw [if_pos rfl, if_pos hp, if_pos rfl]
    rfl
  · rw [if_neg h, if_neg (fun e => h e.symm), List.getD_eq_getElem?_getD]
theorem put_valid {r : Int} {ls : List Int} {es : List Nat} (h : tabE r ls es = 0) (p x : Nat) (hp : p < 64) (hx : unpE x = 0) (hl : ¬ (x % 4 ≠ 0 ∧ ls.getD (p / 8) 0 = -1)) : tabE r ls (es.set p x) = 0 := by
  obtain ⟨h1, h2, _⟩ := tab_zero h
  have hf : frmE r ls = 0 ∧ fst0 (entB ls es) 64 = 0 := by
    unfold tabE at h
    rw [if_neg (by omega)] at h
    exact orE_zero h
  unfold tabE
  rw [if_neg (by rw [List.length_set]; omega), orE_r _ hf.1]
  refine (fst0_zero _ _).2 fun j hj => ?_
  have hold := (fst0_zero _ _).1 hf.2 j hj
  unfold entB at hold ⊢
  rw [getD_set es p x j (by omega)]
  by_cases hjp : j = p
  · subst hjp
    rw [if_pos rfl, orE_r _ hx, if_neg hl]
  · rw [if_neg hjp]
    exact hold
theorem lack_at {r : Int} {ls : List Int} {es : List Nat} (h : tabE r ls es = 0) (p : Nat) (hp : p < 64) : lackR r ls es p = (decide (ls.getD (p / 8) 0 = -1), 0) := by
  have ha : askE r ls es p = 0 := by unfold askE; rw [orE_r _ h, if_neg (by omega)]
  unfold lackR
  rw [if_neg (by simp [ha]), Int.toNat_natCast]
theorem put_at {r : Int} {ls : List Int} {es : List Nat} (h : tabE r ls es = 0) (p : Nat) (hp : p < 64) (k n : Int) (a b c : Bool) (hc : chk k n a b c = 0) (hl : ls.getD (p / 8) 0 ≠ -1) :
    ∃ x : Nat, putR r ls es p k n a b c = ((r, ls, es.set p x), 0) ∧ packR k n a b c = ((x : Int), 0) ∧ tabE r ls (es.set p x) = 0 ∧ x < 65536 := by
  have ha : askE r ls es p = 0 := by unfold askE; rw [orE_r _ h, if_neg (by omega)]
  have hp2 : (packR k n a b c).2 = 0 := by unfold packR; rw [if_neg (by simp [hc])]
  obtain ⟨x, hx, hx2⟩ := packR_nat k n a b c hp2
  have hpk : packR k n a b c = ((x : Int), 0) := Prod.ext hx hp2
  have hE : putE r ls es p k n a b c = 0 := by unfold putE; rw [orE_r _ ha, orE_r _ hp2, Int.toNat_natCast, if_neg (fun hh => hl hh.1)]
  refine ⟨x, by unfold putR; rw [if_neg (by omega), hx, Int.toNat_natCast, Int.toNat_natCast], hpk, ?_, hx2⟩
  exact put_valid h p x hp (unpE_pack k n a b c x hpk).1 (fun hh => hl hh.2)

end Go.Proofs.YtpkgfkhaiifooaaGreatDoor
