/- A frame written out: plain numbers. -/
import Derived.Test.YtpkgfkhaiifooaaDoorMd27
import Derived.Test.YtpkgfkhaiifooaaDoorSpM
namespace Go.Proofs.YtpkgfkhaiifooaaDoor
open Go Go.Proofs Go.RowKit
set_option linter.unusedSimpArgs false
set_option linter.unusedVariables false

theorem movL_length (es : List Nat) (f : Int) (x : Nat) : ∀ n, (movL es f x n).length = es.length
  | 0 => rfl
  | n + 1 => by
    unfold movL
    split
    · rw [List.length_set, movL_length es f x n]
    · exact movL_length es f x n
theorem movL_getD (es : List Nat) (h64 : es.length = 64) (f : Int) (x : Nat) : ∀ n, n ≤ 64 → ∀ j, j < 64 → (movL es f x n).getD j 0 = if j < n ∧ ownB es f j = true then x else es.getD j 0
  | 0, _, j, _ => by rw [if_neg (by omega)]; rfl
  | n + 1, hn, j, hj => by
    have ih := movL_getD es h64 f x n (by omega) j hj
    have hlen := movL_length es f x n
    unfold movL
    by_cases hb : ownB es f n = true
    · rw [if_pos hb, getD_set _ n x j (by omega)]
      by_cases hjn : j = n
      · subst hjn
        rw [if_pos rfl, if_pos ⟨by omega, hb⟩]
      · rw [if_neg hjn, ih]
        by_cases hc : j < n ∧ ownB es f j = true
        · rw [if_pos hc, if_pos ⟨by omega, hc.2⟩]
        · rw [if_neg hc, if_neg (fun hh => hc ⟨by omega, hh.2⟩)]
    · rw [if_neg hb, ih]
      by_cases hc : j < n ∧ ownB es f j = true
      · rw [if_pos hc, if_pos ⟨by omega, hc.2⟩]
      · rw [if_neg hc, if_neg (fun hh => hc ⟨by
          rcases Nat.lt_or_ge j n with h | h
          · exact h
          · have : j = n := by omega
            subst this
            exact absurd hh.2 hb, hh.2⟩)]
theorem ownB_kind {es : List Nat} {f : Int} {p : Nat} (h : ownB es f p = true) : (entP es p).1 = 1 := by
  unfold ownB at h
  simp only [Bool.and_eq_true, decide_eq_true_eq] at h
  exact h.1
theorem movL_valid {rs : List (Int × Int)} {r : Int} {ls : List Int} {es : List Nat} (hE : spcE (rs, r, ls, es) = 0) (f : Int) (x : Nat) (hx : unpE x = 0) : ∀ n, n ≤ 64 → spcE (rs, r, ls, movL es f x n) = 0
  | 0, _ => hE
  | n + 1, hn => by
    have ih := movL_valid hE f x hx n (by omega)
    obtain ⟨h1, h2, h3⟩ := spc_zero hE
    obtain ⟨g1, g2, g3⟩ := spc_zero ih
    simp only at h1 h2 h3 g1 g2 g3
    unfold movL
    by_cases hb : ownB es f n = true
    · rw [if_pos hb]
      obtain ⟨_, h64, _, _, _, _, hU, hM⟩ := tab_zero h2
      have hk := ownB_kind hb
      have hk2 : unpK (es.getD n 0) = 1 := hk
      rw [unpK_eq _ (hU n (by omega))] at hk2
      have hl : ls.getD (n / 8) 0 ≠ -1 := fun hc => hM n (by omega) ⟨by omega, hc⟩
      have hm : hasP rs n = true := by
        have := h3 n (by omega)
        unfold outE at this
        cases hh : hasP rs n
        · rw [if_pos ⟨by rw [unpK_eq _ (hU n (by omega))]; omega, hh⟩] at this; omega
        · rfl
      refine spc_ok g1 (put_valid g2 n x (by omega) hx (fun hh => hl hh.2)) (fun j hj => ?_)
      have hold := g3 j hj
      simp only
      unfold outE at hold ⊢
      rw [getD_set _ n x j (by rw [movL_length]; omega)]
      by_cases hjn : j = n
      · subst hjn
        rw [if_neg]
        rintro ⟨_, hh⟩
        rw [hm] at hh
        cases hh
      · rw [if_neg hjn]
        exact hold
    · rw [if_neg hb]
      exact ih
theorem movL_small {es : List Nat} (hs : wsmall es) (f : Int) (x : Nat) (hx : x < 18446744073709551616) : ∀ n, wsmall (movL es f x n)
  | 0 => hs
  | n + 1 => by
    unfold movL
    split
    · exact wsmall_set (movL_small hs f x hx n) n hx
    · exact movL_small hs f x hx n
theorem moves_facts {rs : List (Int × Int)} {r : Int} {ls : List Int} {es : List Nat} (hE : spcE (rs, r, ls, es) = 0) (hs : wsmall es) (f slot : Int) (hf0 : 0 ≤ f) (hf1 : f ≤ 255) (h0 : 0 ≤ slot) (h1 : slot ≤ 255) :
    ∃ es2, movR (rs, r, ls, es) f slot = ((rs, r, ls, es2), ((ownL es f 64).length : Int), 0) ∧ spcE (rs, r, ls, es2) = 0 ∧ wsmall es2 ∧ ownR (rs, r, ls, es2) f = ([], 0) ∧
      (∀ k, k < 64 → ownB es f k = true → unpR (es2.getD k 0) = ((2, slot, false, false, false), 0)) ∧ (∀ k, k < 64 → ownB es f k = false → es2.getD k 0 = es.getD k 0) := by
  obtain ⟨x, hpk, hx⟩ := pack_slot slot h0 h1
  obtain ⟨u1, _, u3, _⟩ := unpE_pack 2 slot false false false x hpk
  obtain ⟨_, h2, _⟩ := spc_zero hE
  simp only at h2
  have h64 := (tab_zero h2).2.1
  have hG := movL_getD es h64 f x 64 (Nat.le_refl _)
  have hV := movL_valid hE f x u1 64 (Nat.le_refl _)
  refine ⟨movL es f x 64, ?_, hV, movL_small hs f x (by omega) 64, ?_, fun k hk hb => by rw [hG k hk, if_pos ⟨hk, hb⟩]; exact u3, fun k hk hb => by rw [hG k hk, if_neg (by rw [hb]; simp)]⟩
  · unfold movR
    rw [if_neg (by simpa using hE), if_neg (by omega), hpk]
    rfl
  · have hno : ownL (movL es f x 64) f 64 = [] := by
      unfold ownL
      rw [List.map_eq_nil_iff, List.filter_eq_nil_iff]
      intro j hj
      have hj := List.mem_range.1 hj
      have hk : ownB (movL es f x 64) f j = false := by
        cases hb : ownB es f j
        · have he : entP (movL es f x 64) j = entP es j := by unfold entP; rw [hG j hj, if_neg (by rw [hb]; simp)]
          unfold ownB at hb ⊢
          rw [he]
          exact hb
        · have he : entP (movL es f x 64) j = (2, slot, false, false, false) := by unfold entP; rw [hG j hj, if_pos ⟨hj, hb⟩, u3]
          unfold ownB
          rw [he]
          rfl
      rw [hk]
      simp
    unfold ownR
    rw [if_neg (by simpa using hV), if_neg (by omega), hno]
theorem ownL_mem (es : List Nat) (f : Int) (k : Nat) (hk : k < 64) : ((k : Int) ∈ ownL es f 64) ↔ ownB es f k = true := by
  unfold ownL
  rw [List.mem_map]
  constructor
  · rintro ⟨j, hj, he⟩
    have : j = k := by omega
    subst this
    exact (List.mem_filter.1 hj).2
  · intro h
    exact ⟨k, List.mem_filter.2 ⟨List.mem_range.2 hk, h⟩, rfl⟩
end Go.Proofs.YtpkgfkhaiifooaaDoor
