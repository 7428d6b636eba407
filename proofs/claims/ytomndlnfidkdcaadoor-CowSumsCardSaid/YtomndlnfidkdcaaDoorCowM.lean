/- Sharings made of numbers: each step keeps them valid, with rows of six entries and small numbers. No program in sight. -/
import Derived.Test.YtomndlnfidkdcaaDoorCowP
namespace Go.Proofs.YtomndlnfidkdcaaDoor
open Go
set_option linter.unusedSimpArgs false
set_option linter.unusedVariables false

def pW (n : Int) (b : Bool) : Nat := packE (1, n, b, !b, false)
def sW (n : Int) : Nat := packE (2, n, false, false, false)
def md0 : Sh := [[pW 0 true, pW 1 true, 0, pW 3 true, sW 0, pW 5 true]]
/-- What one number makes of a sharing, and the error. -/
def mdR (t : Sh) (i : Nat) (n : Int) : Sh × Int :=
  if n % 8 = 0 ∨ n % 8 = 1 then (if t.length < 4 then forkR t (n / 8 % (t.length : Int)) else (t, 0))
  else if n % 8 = 2 ∨ n % 8 = 3 then ((brkR t (n / 8 % (t.length : Int)) (n / 64 % 6) (10 + (i : Int))).1, (brkR t (n / 8 % (t.length : Int)) (n / 64 % 6) (10 + (i : Int))).2.2)
  else if n % 8 = 4 then takeR t (n / 8 % (t.length : Int)) (n / 64 % 6)
  else if n % 8 = 5 then ((dropR t (n / 8 % (t.length : Int)) (n / 64 % 6)).1, (dropR t (n / 8 % (t.length : Int)) (n / 64 % 6)).2.2.2)
  else ((outR t (n / 512 % 50) (10 + (i : Int))).1, (outR t (n / 512 % 50) (10 + (i : Int))).2.2)
def mdStep (t : Sh) (i : Nat) (n : Int) : Sh := if (mdR t i n).2 = 0 then (mdR t i n).1 else t
def mdTo (nums : List Int) : Nat → Sh
  | 0 => md0
  | i + 1 => mdStep (mdTo nums i) i (nums.getD i 0 % 1048576)

/-- A sharing that was made so. -/
structure MdV (t : Sh) : Prop where
  v : ShV t
  lo : 1 ≤ t.length
  hi : t.length ≤ 4
  six : ∀ l ∈ t, l.length = 6
  num : ∀ l ∈ t, ∀ x ∈ l, (entW x).2.1 < 50
theorem md0_ok : MdV md0 := by
  have hl : ∀ l ∈ md0, l = [pW 0 true, pW 1 true, 0, pW 3 true, sW 0, pW 5 true] := fun l hl => by simpa [md0] using hl
  refine ⟨(sh_iff _).1 (by decide +kernel), by decide, by decide, fun l h => by rw [hl l h]; rfl, fun l h x hx => ?_⟩
  rw [hl l h] at hx
  have : ([pW 0 true, pW 1 true, 0, pW 3 true, sW 0, pW 5 true].all fun x => decide ((entW x).2.1 < 50)) = true := by decide +kernel
  simpa using List.all_eq_true.1 this x hx
theorem setW_len (t : Sh) (i j y : Nat) : (setW t i j y).length = t.length := by simp [setW]
theorem set_keeps {t : Sh} (h : MdV t) {i j y : Nat} (hi : i < t.length) (hy : (entW y).2.1 < 50) (hv : ShV (setW t i j y)) : MdV (setW t i j y) := by
  have key : ∀ l ∈ setW t i j y, l.length = 6 ∧ ∀ x ∈ l, (entW x).2.1 < 50 := by
    intro l hl
    obtain ⟨m, hm, e, hx⟩ := mem_setW hl
    have hm' : m ∈ t := by
      rcases hm with hm | rfl
      · exact hm
      · exact rowAt_mem hi
    refine ⟨by rw [e]; exact h.six m hm', fun x hxl => ?_⟩
    rcases hx x hxl with rfl | hxm
    · exact hy
    · exact h.num m hm' x hxm
  exact ⟨hv, by rw [setW_len]; exact h.lo, by rw [setW_len]; exact h.hi, fun l hl => (key l hl).1, fun l hl => (key l hl).2⟩
theorem MdV.row {t : Sh} (h : MdV t) {i : Nat} (hi : i < t.length) : (rowAt t i).length = 6 := h.six _ (rowAt_mem hi)
theorem share_num (x : Nat) (h : unpE x = 0) : (entW (shareW x)).2.1 = (entW x).2.1 ∧ (entW (childW x)).2.1 = (entW x).2.1 := by
  have h1 := (share_use x h).1
  have h2 := (child_use x h).1
  exact ⟨congrArg Prod.snd h1, congrArg Prod.snd h2⟩
theorem mdR_ok {t : Sh} (h : MdV t) (i : Nat) (hi : i < 40) (n : Int) (h0 : (mdR t i n).2 = 0) : MdV (mdR t i n).1 := by
  unfold mdR at h0 ⊢
  split
  · rename_i c1
    rw [if_pos c1] at h0
    split
    · rename_i c2
      rw [if_pos c2] at h0
      have hE : forkE t (n / 8 % (t.length : Int)) = 0 := by
        refine Classical.byContradiction fun hne => ?_
        unfold forkR at h0
        rw [if_pos hne] at h0
        exact hne h0
      obtain ⟨_, k, hk, hkl, _⟩ := fork_zero hE
      have hval := fork_valid hE
      unfold forkR at hval ⊢
      rw [if_neg (by simp [hE])] at hval ⊢
      simp only at hval ⊢
      rw [hk, Int.toNat_natCast] at hval ⊢
      have who : ∀ l ∈ t.set k ((rowAt t k).map shareW) ++ [(rowAt t k).map childW], l ∈ t ∨ l = (rowAt t k).map shareW ∨ l = (rowAt t k).map childW := by
        intro l hl
        rcases List.mem_append.1 hl with hl | hl
        · rcases List.mem_or_eq_of_mem_set hl with hl | rfl
          · exact .inl hl
          · exact .inr (.inl rfl)
        · simp at hl; exact .inr (.inr hl)
      refine ⟨hval, by simp, by simp; omega, fun l hl => ?_, fun l hl x hx => ?_⟩
      · rcases who l hl with hl | rfl | rfl
        · exact h.six l hl
        · simpa using h.row hkl
        · simpa using h.row hkl
      · rcases who l hl with hl | rfl | rfl
        · exact h.num l hl x hx
        · obtain ⟨y, hy, rfl⟩ := List.mem_map.1 hx
          rw [(share_num y (h.v.ok _ (rowAt_mem hkl) y hy)).1]
          exact h.num _ (rowAt_mem hkl) y hy
        · obtain ⟨y, hy, rfl⟩ := List.mem_map.1 hx
          rw [(share_num y (h.v.ok _ (rowAt_mem hkl) y hy)).2]
          exact h.num _ (rowAt_mem hkl) y hy
    · exact h
  · rename_i c1
    rw [if_neg c1] at h0
    split
    · rename_i c2
      rw [if_pos c2] at h0
      simp only at h0 ⊢
      have hE : brkE t (n / 8 % (t.length : Int)) (n / 64 % 6) (10 + (i : Int)) = 0 := by
        refine Classical.byContradiction fun hne => ?_
        unfold brkR at h0
        rw [if_pos hne] at h0
        exact hne h0
      have hval := brk_valid hE
      obtain ⟨_, a, b, ea, eb, ha, hb⟩ := ask_zero (orE_zero hE).1
      unfold brkR at hval ⊢
      rw [if_neg (by simp [hE])] at hval ⊢
      simp only at hval ⊢
      rw [ea, eb, Int.toNat_natCast, Int.toNat_natCast] at hval ⊢
      exact set_keeps h ha (by rw [entW_packE _ (chk_own _ _ _ _ (by omega) (by omega) (by decide))]; show (10 + (i : Int)) < 50; omega) hval
    · rename_i c2
      rw [if_neg c2] at h0
      split
      · rename_i c3
        rw [if_pos c3] at h0
        have hE : takeE t (n / 8 % (t.length : Int)) (n / 64 % 6) = 0 := by
          refine Classical.byContradiction fun hne => ?_
          unfold takeR at h0
          rw [if_pos hne] at h0
          exact hne h0
        have hval := take_valid hE
        obtain ⟨hA, hB⟩ := orE_zero hE
        obtain ⟨_, a, b, ea, eb, ha, hb⟩ := ask_zero hA
        unfold takeR at hval ⊢
        rw [if_neg (by simp [hE])] at hval ⊢
        simp only at hval ⊢
        rw [ea, eb, Int.toNat_natCast, Int.toNat_natCast] at hval hB ⊢
        have hx := h.v.ok _ (rowAt_mem ha) _ (wordAt_mem hb)
        refine set_keeps h ha ?_ hval
        split at hB
        · omega
        · obtain ⟨m, c, e, h5, h6, h7⟩ := need_three (t := t) hx (by omega)
          have e2 : ownE (entW (wordAt t a b)) = (1, m, true, false, c) := by rw [e]; rfl
          rw [e2, entW_packE _ (chk_own _ _ _ _ h5 h6 (by decide))]
          have := h.num _ (rowAt_mem ha) _ (wordAt_mem hb)
          rw [e] at this
          exact this
      · rename_i c3
        rw [if_neg c3] at h0
        split
        · rename_i c4
          rw [if_pos c4] at h0
          simp only at h0 ⊢
          have hE : askS t (n / 8 % (t.length : Int)) (n / 64 % 6) = 0 := by
            refine Classical.byContradiction fun hne => ?_
            unfold dropR at h0
            rw [if_pos hne] at h0
            exact hne h0
          have hval := drop_valid hE
          obtain ⟨_, a, b, ea, eb, ha, hb⟩ := ask_zero hE
          unfold dropR at hval ⊢
          rw [if_neg (by simp [hE])] at hval ⊢
          simp only at hval ⊢
          rw [ea, eb, Int.toNat_natCast, Int.toNat_natCast] at hval ⊢
          exact set_keeps h ha (by rw [entW_nil]; decide) hval
        · rename_i c4
          rw [if_neg c4] at h0
          simp only at h0 ⊢
          have hE : outE2 t (n / 512 % 50) (10 + (i : Int)) = 0 := by
            refine Classical.byContradiction fun hne => ?_
            unfold outR at h0
            rw [if_pos hne] at h0
            exact hne h0
          have hval := out_valid hE
          unfold outR at hval ⊢
          rw [if_neg (by simp [hE])] at hval ⊢
          simp only at hval ⊢
          refine ⟨hval, by simpa using h.lo, by simpa using h.hi, fun l hl => ?_, fun l hl x hx => ?_⟩
          · obtain ⟨m, hm, rfl⟩ := List.mem_map.1 hl
            simpa using h.six m hm
          · obtain ⟨m, hm, rfl⟩ := List.mem_map.1 hl
            obtain ⟨y, hy, rfl⟩ := List.mem_map.1 hx
            unfold outW
            split
            · rw [entW_packE _ (chk_slot _ (by omega) (by omega))]
              show (10 + (i : Int)) < 50
              omega
            · exact h.num m hm y hy
theorem mdStep_ok {t : Sh} (h : MdV t) (i : Nat) (hi : i < 40) (n : Int) : MdV (mdStep t i n) := by
  unfold mdStep
  split
  · rename_i h0; exact mdR_ok h i hi n h0
  · exact h
theorem mdTo_ok (nums : List Int) : ∀ k, k ≤ 40 → MdV (mdTo nums k)
  | 0, _ => md0_ok
  | k + 1, hk => mdStep_ok (mdTo_ok nums k (by omega)) k (by omega) _
end Go.Proofs.YtomndlnfidkdcaaDoor
