/- Page tables made of numbers: the entries. -/
import Derived.Test.YtnmknbnidfmmoaaDoorAwake23b
namespace Go.Proofs.YtnmknbnidfmmoaaDoor
open Go Go.Proofs Go.RowKit
set_option linter.unusedSimpArgs false
set_option linter.unusedVariables false
set_option maxRecDepth 100000

theorem flagN_bits (a b c : Bool) : flagN a b c % 2 = a.toNat ∧ flagN a b c / 2 % 2 = b.toNat ∧ flagN a b c / 4 % 2 = c.toNat := by cases a <;> cases b <;> cases c <;> decide
theorem toNat_dec (a : Bool) (x : Nat) (h : x = a.toNat) : decide (x = 1) = a := by cases a <;> simp_all
/-- The word of a valid entry is this entry. -/
theorem unp_pack (k n : Nat) (a b c : Bool) (h : chk k n a b c = 0) : unpR (packN k n a b c) = (((k : Int), (n : Int), a, b, c), 0) := by
  obtain ⟨hk, hn0, hn1⟩ := chk_ok _ _ _ _ _ h
  have hf := flagN_lt a b c
  obtain ⟨f1, f2, f3⟩ := flagN_bits a b c
  have e1 : packN k n a b c % 4 = k := by unfold packN; omega
  have e2 : packN k n a b c / 256 = n := by unfold packN; omega
  have e3 : packN k n a b c / 4 % 2 = a.toNat := by unfold packN; omega
  have e4 : packN k n a b c / 8 % 2 = b.toNat := by unfold packN; omega
  have e5 : packN k n a b c / 16 % 2 = c.toNat := by unfold packN; omega
  have e6 : packN k n a b c / 32 % 8 = 0 := by unfold packN; omega
  have e7 : packN k n a b c / 65536 = 0 := by unfold packN; omega
  have hE : unpE (packN k n a b c) = 0 := by
    unfold unpE
    rw [if_neg (by omega), if_neg (by omega), e1, e2, toNat_dec a _ e3, toNat_dec b _ e4, toNat_dec c _ e5]
    exact h
  unfold unpR
  rw [if_pos hE, e1, e2, toNat_dec a _ e3, toNat_dec b _ e4, toNat_dec c _ e5]
theorem packN_lt (k n : Nat) (a b c : Bool) (h : chk k n a b c = 0) : packN k n a b c < 65536 := by
  obtain ⟨hk, hn0, hn1⟩ := chk_ok _ _ _ _ _ h
  have hf := flagN_lt a b c
  unfold packN
  omega
theorem chk_sw (z : Int) (h0 : 0 ≤ z) (h1 : z ≤ 255) : chk 2 z false false false = 0 := by grind [chk]
theorem chk_pr (z : Int) (a b c : Bool) (h0 : 0 ≤ z) (h1 : z ≤ 255) (h : a ≠ b) : chk 1 z a b c = 0 := by grind [chk]

set_option maxHeartbeats 1000000 in
theorem entry_any (n : Int) (w : World) :
    Calls Tryd.prog 38 #[.int .i64 n] w fun e w' => ∃ (k m : Int) (a b c : Bool), e = .returned (.agg #[.int .i64 k, .int .i64 m, .bool a, .bool b, .bool c]) ∧ chk k m a b c = 0 ∧ Below w.heap.size w w' := by
  have kR := Bk.new w #[.int .i64 0, .int .i64 0, .bool false, .bool false, .bool false] 35
  have hB1 := balloc (Below.refl _ w) (.cells #[.int .i64 0, .int .i64 0, .bool false, .bool false, .bool false] 35)
  generalize hw1 : w.alloc (.cells #[.int .i64 0, .int .i64 0, .bool false, .bool false, .bool false] 35) = w1 at *
  obtain ⟨q, hq⟩ : ∃ q : Nat, n % 1048576 = q := ⟨(n % 1048576).toNat, by have := Int.emod_nonneg n (show (1048576 : Int) ≠ 0 by omega); omega⟩
  have hq2 : q < 1048576 := by have := Int.emod_lt_of_pos n (show (0 : Int) < 1048576 by omega); omega
  have HM := Lib.hid (fun W => Mod_any n 1048576 W (by omega) (by omega))
  rw [hq] at HM
  clear hq
  obtain ⟨cR, fR, lR⟩ := kR.facts
  go_enter Tryd.func38, Tryd.ntmps38
  go_wp2_with (first | (go_at_call 37; refine (HM.out _).mono ?_; rintro e w2 ⟨rfl, rfl⟩))
  · have kF := kR.put5 (.int .i64 2) (.int .i64 ((q : Int) / 4 % 24)) (.bool false) (.bool false) (.bool false)
    have hBF := below_put5 hB1 (b := w.heap.size) (Nat.le_refl _) (.int .i64 2) (.int .i64 ((q : Int) / 4 % 24)) (.bool false) (.bool false) (.bool false)
    exact bodyPost_ret (kF.res1 (P := Tryd.prog) rfl _ rfl (by kernel_rfl) (by kernel_rfl)) rfl ⟨2, _, _, _, _, rfl, chk_sw _ (by omega) (by omega), hBF⟩
  · have kF := kR.put5 (.int .i64 0) (.int .i64 0) (.bool false) (.bool false) (.bool false)
    have hBF := below_put5 hB1 (b := w.heap.size) (Nat.le_refl _) (.int .i64 0) (.int .i64 0) (.bool false) (.bool false) (.bool false)
    exact bodyPost_ret (kF.res1 (P := Tryd.prog) rfl _ rfl (by kernel_rfl) (by kernel_rfl)) rfl ⟨0, _, _, _, _, rfl, by decide, hBF⟩
  · have kF := kR.put5 (.int .i64 1) (.int .i64 ((q : Int) / 4 % 48)) (.bool ((q : Int) / 192 % 2 == 0)) (.bool ((q : Int) / 192 % 2 == 1)) (.bool ((q : Int) / 384 % 2 == 1))
    have hBF := below_put5 hB1 (b := w.heap.size) (Nat.le_refl _) (.int .i64 1) (.int .i64 ((q : Int) / 4 % 48)) (.bool ((q : Int) / 192 % 2 == 0)) (.bool ((q : Int) / 192 % 2 == 1)) (.bool ((q : Int) / 384 % 2 == 1))
    refine bodyPost_ret (kF.res1 (P := Tryd.prog) rfl _ rfl (by kernel_rfl) (by kernel_rfl)) rfl ⟨1, _, _, _, _, rfl, chk_pr _ _ _ _ (by omega) (by omega) ?_, hBF⟩
    have : (q : Int) / 192 % 2 = 0 ∨ (q : Int) / 192 % 2 = 1 := by omega
    rcases this with h | h <;> rw [h] <;> decide

/-- The leaves of a table that is made, after k of them were set. -/
def mdL (k : Nat) : List Int := (List.range 8).map fun j => if j < k ∧ j % 3 ≠ 2 then 100 + (j : Int) else -1
theorem md_all : ((List.range 8).all fun k => k % 3 == 2 || decide (leafR 1 (mdL k) xe0 (k : Int) (100 + (k : Int)) = (((1, mdL (k + 1), xe0), 0) : Tb × Int))) = true := by decide +kernel
theorem md_set (k : Nat) (hk : k < 8) (h3 : k % 3 ≠ 2) : leafR 1 (mdL k) xe0 k (100 + k) = ((1, mdL (k + 1), xe0), 0) := by
  have := List.all_eq_true.1 md_all k (List.mem_range.2 hk)
  simp only [Bool.or_eq_true, beq_iff_eq, decide_eq_true_eq] at this
  exact this.resolve_left h3
theorem md_skip : ∀ k : Nat, k < 8 → k % 3 = 2 → mdL (k + 1) = mdL k := by decide +kernel
theorem md_new : newR 1 = ((1, mdL 0, xe0), 0) := by decide +kernel
theorem md_tab : tabE 1 (mdL 8) xe0 = 0 := by decide +kernel
theorem md_len (k : Nat) : (mdL k).length = 8 := by simp [mdL]
/-- A table stays valid if a valid entry is put where there is a leaf. -/
theorem unpE_pack (k n : Int) (a b c : Bool) (x : Nat) (h : packR k n a b c = ((x : Int), 0)) : unpE x = 0 ∧ ((x % 4 : Nat) : Int) = k ∧ unpR x = ((k, n, a, b, c), 0) ∧ x < 65536 := by
  have hc : chk k n a b c = 0 := by
    apply Classical.byContradiction
    intro hc
    unfold packR at h
    rw [if_pos hc] at h
    injection h with _ h
    exact hc h
  obtain ⟨hk, hn0, hn1⟩ := chk_ok _ _ _ _ _ hc
  have hx : x = packN k.toNat n.toNat a b c := by
    unfold packR at h
    rw [if_neg (by simp [hc])] at h
    injection h with h _
    omega
  obtain ⟨k', rfl⟩ : ∃ q : Nat, k = q := ⟨k.toNat, by omega⟩
  obtain ⟨n', rfl⟩ : ∃ q : Nat, n = q := ⟨n.toNat, by omega⟩
  simp only [Int.toNat_natCast] at hx
  have hu := unp_pack k' n' a b c hc
  rw [← hx] at hu
  have hE : unpE x = 0 := by
    apply Classical.byContradiction
    intro h0
    unfold unpR at hu
    rw [if_neg h0] at hu
    injection hu with _ h2
    exact h0 h2
  have hlt := packN_lt k' n' a b c hc
  refine ⟨hE, ?_, hu, by omega⟩
  have := unpK_eq x hE
  unfold unpK at this
  rw [hu] at this
  exact this.symm
theorem getD_set (es : List Nat) (p x j : Nat) (hp : p < es.length) : (es.set p x).getD j 0 = if j = p then x else es.getD j 0 := by
  rw [List.getD_eq_getElem?_getD, List.getElem?_set]
  by_cases h : p = j
  · subst h
    rw [if_pos rfl, if_pos hp, if_pos rfl]
    rfl
  · rw [if_neg h, if_neg (fun e => h e.symm), List.getD_eq_getElem?_getD]
theorem put_valid {r : Int} {ls : List Int} {es : List Nat} (h : tabE r ls es = 0) (p x : Nat) (hp : p < 64) (hx : unpE x = 0) (hl : ¬ (x % 4 ≠ 0 ∧ ls.getD (p / 8) 0 = -1)) : tabE r ls (es.set p x) = 0 := by
  obtain ⟨h1, h2, _⟩ := tab_zero h
  have hf : frmE r ls = 0 ∧ fst0 (entB ls es) 64 = 0 := by
    unfold tabE at h
    rw [if_neg (by omega)] at h
    exact orE_zero h
  unfold tabE
  rw [if_neg (by rw [List.length_set]; omega), orE_r _ hf.1]
  refine (fst0_zero _ _).2 fun j hj => ?_
  have hold := (fst0_zero _ _).1 hf.2 j hj
  unfold entB at hold ⊢
  rw [getD_set es p x j (by omega)]
  by_cases hjp : j = p
  · subst hjp
    rw [if_pos rfl, orE_r _ hx, if_neg hl]
  · rw [if_neg hjp]
    exact hold
end Go.Proofs.YtnmknbnidfmmoaaDoor
