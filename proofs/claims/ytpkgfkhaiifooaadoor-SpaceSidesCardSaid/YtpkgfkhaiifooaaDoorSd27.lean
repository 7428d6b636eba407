/- What a read and a write find, and what they find behind Set: plain numbers. -/
import Derived.Test.YtpkgfkhaiifooaaDoorMd27
namespace Go.Proofs.YtpkgfkhaiifooaaDoor
open Go Go.Proofs Go.RowKit
set_option linter.unusedSimpArgs false
set_option linter.unusedVariables false

/-- The pairs that a read and a write may find where Set goes through. -/
def sidesOk (a b : Int) : Prop := (a = 8 ∧ b = 8) ∨ (a = 2 ∧ b = 6) ∨ (a = 3 ∧ b = 3) ∨ (a = 3 ∧ b = 4) ∨ (a = 3 ∧ b = 7)
theorem entP_kind {es : List Nat} {p : Nat} : (entP es p).1 = unpK (es.getD p 0) := rfl
theorem sides_cases {rs : List (Int × Int)} {r : Int} {ls : List Int} {es : List Nat} (h : spcE (rs, r, ls, es) = 0) (hs : wsmall es) (p : Nat) (hp : p < 64) (c : Int) :
    (finR (rs, r, ls, es) p false c = 1 ∧ finR (rs, r, ls, es) p true c = 1 ∧ (setR (rs, r, ls, es) p 1 5 true false false).2 = 6) ∨
    (finR (rs, r, ls, es) p false c = 2 ∧ finR (rs, r, ls, es) p true c = 5 ∧ (setR (rs, r, ls, es) p 1 5 true false false).2 = 9) ∨
    (sidesOk (finR (rs, r, ls, es) p false c) (finR (rs, r, ls, es) p true c) ∧ ∃ x : Nat, setR (rs, r, ls, es) p 1 5 true false false = ((rs, r, ls, es.set p x), 0) ∧ spcE (rs, r, ls, es.set p x) = 0 ∧ wsmall (es.set p x) ∧ finR (rs, r, ls, es.set p x) p false c = 3 ∧ finR (rs, r, ls, es.set p x) p true c = 3) := by
  obtain ⟨h1, h2, h3⟩ := spc_zero h
  simp only at h1 h2 h3
  obtain ⟨_, h64, _, _, _, _, hU, hM⟩ := tab_zero h2
  have hE0 : setE (rs, r, ls, es) p 1 5 true false false = if hasP rs p = false then 6 else (putR r ls es p 1 5 true false false).2 := by
    unfold setE
    rw [orE_r _ h, if_neg (by omega), Int.toNat_natCast]
  by_cases hm : hasP rs p = false
  · left
    refine ⟨?_, ?_, ?_⟩
    · unfold finR; rw [if_pos hm]
    · unfold finR; rw [if_pos hm]
    · rw [if_pos hm] at hE0
      unfold setR
      rw [if_pos (by rw [hE0]; decide)]
      exact hE0
  rw [if_neg hm] at hE0
  have ha : askE r ls es p = 0 := by unfold askE; rw [orE_r _ h2, if_neg (by omega)]
  have hpk : packR 1 5 true false false = (1285, 0) := by decide +kernel
  by_cases hl : ls.getD (p / 8) 0 = -1
  · right; left
    have hk : (entP es p).1 = 0 := by
      rw [entP_kind, unpK_eq _ (hU p hp)]
      apply Classical.byContradiction
      intro hc
      exact hM p hp ⟨by omega, hl⟩
    have hpE : putE r ls es p 1 5 true false false = 9 := by
      unfold putE
      rw [orE_r _ ha, hpk, orE_r _ rfl, Int.toNat_natCast, if_pos ⟨hl, by decide⟩]
    have hp2 : (putR r ls es p 1 5 true false false).2 = 9 := by unfold putR; rw [if_pos (by omega)]; exact hpE
    refine ⟨?_, ?_, ?_⟩
    · unfold finR; rw [if_neg hm, if_neg (by simp only; omega), if_pos (by simpa using hk), if_pos rfl]
    · unfold finR; rw [if_neg hm, if_neg (by simp only; omega), if_pos (by simpa using hk), if_neg (by decide), if_pos hl]
    · unfold setR
      rw [if_pos (by rw [hE0, hp2]; decide), hE0, hp2]
  · right; right
    have hpE : putE r ls es p 1 5 true false false = 0 := by
      unfold putE
      rw [orE_r _ ha, hpk, orE_r _ rfl, Int.toNat_natCast, if_neg (fun hh => hl hh.1)]
    have hp2 : (putR r ls es p 1 5 true false false).2 = 0 := by unfold putR; rw [if_neg (by omega)]
    have hs2 : (setR (rs, r, ls, es) p 1 5 true false false).2 = 0 := by unfold setR; rw [if_neg (by rw [hE0, hp2]; decide)]
    obtain ⟨x, g1, g2, g3, g4, g5⟩ := set_okR h hs p hp 1 5 true false false hs2
    have hx : x = 1285 := by
      rw [hpk] at g2
      injection g2 with g2 _
      omega
    subst hx
    have hent : entP (es.set p 1285) p = (1, 5, true, false, false) := by
      unfold entP
      rw [getD_set es p 1285 p (by omega), if_pos rfl]
      decide +kernel
    refine ⟨?_, 1285, g1, g3, g4, ?_, ?_⟩
    · have hk3 := unpK_3 (es.getD p 0)
      rw [← entP_kind] at hk3
      unfold sidesOk
      rcases hk3 with hk | hk | hk
      · right; left
        constructor
        · unfold finR; rw [if_neg hm, if_neg (by simp only; omega), if_pos (by simpa using hk), if_pos rfl]
        · unfold finR; rw [if_neg hm, if_neg (by simp only; omega), if_pos (by simpa using hk), if_neg (by decide), if_neg hl]
      · right; right
        have hf : finR (rs, r, ls, es) p false c = 3 := by
          unfold finR; rw [if_neg hm, if_neg (by simp only; omega), if_neg (by simp only; omega), if_pos (.inl rfl)]
        rw [hf]
        by_cases hw : (entP es p).2.2.1 = true
        · left
          refine ⟨rfl, ?_⟩
          unfold finR; rw [if_neg hm, if_neg (by simp only; omega), if_neg (by simp only; omega), if_pos (.inr hw)]
        · have hw2 : ¬ (true = false ∨ (entP es p).2.2.1 = true) := by rintro (hh | hh); cases hh; exact hw hh
          by_cases hc : c ≤ 1
          · right; left
            refine ⟨rfl, ?_⟩
            unfold finR; rw [if_neg hm, if_neg (by simp only; omega), if_neg (by simp only; omega), if_neg hw2, if_pos hc]
          · right; right
            refine ⟨rfl, ?_⟩
            unfold finR; rw [if_neg hm, if_neg (by simp only; omega), if_neg (by simp only; omega), if_neg hw2, if_neg hc]
      · left
        constructor
        · unfold finR; rw [if_neg hm, if_pos (by simpa using hk)]
        · unfold finR; rw [if_neg hm, if_pos (by simpa using hk)]
    · unfold finR
      simp only [hent]
      rw [if_neg hm, if_neg (by decide), if_neg (by decide), if_pos (by simp)]
    · unfold finR
      simp only [hent]
      rw [if_neg hm, if_neg (by decide), if_neg (by decide), if_pos (by simp)]
end Go.Proofs.YtpkgfkhaiifooaaDoor
