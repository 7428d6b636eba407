/- A table that is trimmed: plain facts; and whether a number is in a list. -/
import Derived.Test.YtnmknbnidfmmoaaDoorBackQ
namespace Go.Proofs.YtnmknbnidfmmoaaDoor
open Go Go.Proofs Go.RowKit
set_option linter.unusedSimpArgs false
set_option linter.unusedVariables false
set_option maxRecDepth 100000

theorem trim_at (ls : List Int) (es : List Nat) (n i : Nat) (hn : n ≤ ls.length) (hi : i < n) : (trimL ls es n).getD i 0 = if goneB ls es i then -1 else ls.getD i 0 := by
  induction n with
  | zero => omega
  | succ n ih =>
    have e1 : trimL ls es (n + 1) = if goneB ls es n then (trimL ls es n).set n (-1) else trimL ls es n := rfl
    rw [e1]
    by_cases hin : i = n
    · subst hin
      rcases hg : goneB ls es i with _ | _
      · rw [if_neg (by simp), if_neg (by simp), trimL_get ls es i i (Nat.le_refl _)]
      · rw [if_pos rfl, if_pos rfl, getD_setI _ _ _ _ (by rw [trimL_len]; omega), if_pos rfl]
    · have := ih (by omega) (by omega)
      rcases hg : goneB ls es n with _ | _
      · rw [if_neg (by simp)]
        exact this
      · rw [if_pos rfl, getD_setI _ _ _ _ (by rw [trimL_len]; omega), if_neg hin]
        exact this
theorem trim_valid {r : Int} {ls : List Int} {es : List Nat} (h : tabE r ls es = 0) (n : Nat) (hn : n ≤ 8) : tabE r (trimL ls es n) es = 0 := by
  induction n with
  | zero => exact h
  | succ n ih =>
    have e1 : trimL ls es (n + 1) = if goneB ls es n then (trimL ls es n).set n (-1) else trimL ls es n := rfl
    rw [e1]
    rcases hg : goneB ls es n with _ | _
    · rw [if_neg (by simp)]
      exact ih (by omega)
    · rw [if_pos rfl]
      unfold goneB at hg
      exact unset_valid (ih (by omega)) n (by omega) (by rw [Bool.and_eq_true] at hg; exact hg.2)
theorem trim_gone (ls : List Int) (es : List Nat) (i : Nat) (h8 : ls.length = 8) (hi : i < 8) : goneB (trimL ls es 8) es i = false := by
  have h := trim_at ls es 8 i (by omega) hi
  rcases hg : goneB ls es i with _ | _
  · rw [hg, if_neg (by simp)] at h
    rw [← hg]
    unfold goneB
    rw [h]
  · rw [hg, if_pos rfl] at h
    unfold goneB
    rw [h]
    rfl
theorem trim_twice (ls : List Int) (es : List Nat) (h8 : ls.length = 8) (n : Nat) (hn : n ≤ 8) : trimL (trimL ls es 8) es n = trimL ls es 8 ∧ trimG (trimL ls es 8) es n = [] := by
  induction n with
  | zero => exact ⟨rfl, rfl⟩
  | succ n ih =>
    obtain ⟨h1, h2⟩ := ih (by omega)
    have e1 : trimL (trimL ls es 8) es (n + 1) = if goneB (trimL ls es 8) es n then (trimL (trimL ls es 8) es n).set n (-1) else trimL (trimL ls es 8) es n := rfl
    have hg := trim_gone ls es n h8 (by omega)
    rw [e1, trimG_succ, hg, if_neg (by simp), if_neg (by simp), h1, h2]
    exact ⟨rfl, rfl⟩
theorem trim_count (ls : List Int) (es : List Nat) (h8 : ls.length = 8) (n : Nat) (hn : n ≤ 8) : (trimG ls es n).length + (frmL (trimL ls es 8) n).length = (frmL ls n).length := by
  induction n with
  | zero => rfl
  | succ n ih =>
    have := ih (by omega)
    rw [trimG_succ, frmL_succ _ _ (by rw [trimL_len]; omega), frmL_succ _ _ (by omega), trim_at ls es 8 n (by omega) (by omega)]
    simp only [List.length_append]
    rcases hg : goneB ls es n with _ | _
    · simp only [Bool.false_eq_true, if_false]
      simp only [List.length_nil]
      omega
    · have hne : ls.getD n 0 ≠ -1 := by
        unfold goneB at hg
        rw [Bool.and_eq_true] at hg
        simpa using hg.1
      simp only [if_true, if_neg hne]
      simp only [List.length_nil, List.length_cons]
      omega
theorem trim_used {r : Int} {ls : List Int} {es : List Nat} (h : tabE r ls es = 0) (l : Nat) (hl : l < 8) : decide ((trimL ls es 8).getD l 0 = -1) = !usedB es l 8 := by
  obtain ⟨h1, h2, _, _, _, _, h7, h8⟩ := tab_zero h
  rw [trim_at ls es 8 l (by omega) hl, used_empty, Bool.not_not]
  rcases he : emptyB es l with _ | _
  · have hg : goneB ls es l = false := by unfold goneB; rw [he, Bool.and_false]
    rw [hg, if_neg (by simp)]
    rw [decide_eq_false_iff_not]
    intro hn
    have : emptyB es l = true := (empty_iff es l).2 fun i hi => by
      have h9 := h8 (l * 8 + i) (by omega)
      rw [show (l * 8 + i) / 8 = l by omega] at h9
      rw [unpK_eq _ (h7 _ (by omega))]
      have : es.getD (l * 8 + i) 0 % 4 = 0 := by
        apply Classical.byContradiction
        exact fun h10 => h9 ⟨h10, hn⟩
      omega
    rw [he] at this
    exact absurd this (by simp)
  · rw [decide_eq_true_eq]
    rcases hg : goneB ls es l with _ | _
    · rw [if_neg (by simp)]
      unfold goneB at hg
      rw [he, Bool.and_true] at hg
      simpa using hg
    · rw [if_pos rfl]
theorem mem_frm (ls : List Int) (z : Int) (n : Nat) (hn : n ≤ ls.length) : z ∈ frmL ls n ↔ z ≠ -1 ∧ ∃ i, i < n ∧ ls.getD i 0 = z := by
  induction n with
  | zero => simp [frmL]
  | succ n ih =>
    rw [frmL_succ _ _ (by omega), List.mem_append, ih (by omega)]
    constructor
    · rintro (⟨h1, i, h2, h3⟩ | h)
      · exact ⟨h1, i, by omega, h3⟩
      · split at h
        · simp at h
        · simp only [List.mem_singleton] at h
          subst h
          exact ⟨by assumption, n, by omega, rfl⟩
    · rintro ⟨h1, i, h2, h3⟩
      rcases Nat.lt_or_ge i n with h4 | h4
      · exact Or.inl ⟨h1, i, h4, h3⟩
      · obtain rfl : i = n := by omega
        right
        rw [h3, if_neg h1]
        simp
theorem frm_made {ls : List Int} {es : List Nat} (h : tabE 1 ls es = 0) : frmR 1 ls es = (frmL ls 8 ++ [1], 0) := by
  unfold frmR
  rw [if_neg (by simp [h]), if_neg (by decide)]
/-- The frames of leaves that are gone were there, and are not any more. -/
theorem trim_frames (es : List Nat) (j : Nat) (hj : j < (trimG (mdL 8) es 8).length) :
    (trimG (mdL 8) es 8).getD j 0 ∈ frmL (mdL 8) 8 ++ [1] ∧ (trimG (mdL 8) es 8).getD j 0 ∉ frmL (trimL (mdL 8) es 8) 8 ++ [1] := by
  have hm : (trimG (mdL 8) es 8)[j] ∈ trimG (mdL 8) es 8 := List.getElem_mem hj
  rw [List.getD_eq_getElem?_getD, List.getElem?_eq_getElem hj, Option.getD_some]
  generalize (trimG (mdL 8) es 8)[j] = z at hm ⊢
  have hm2 : z ∈ ((List.range 8).filter (goneB (mdL 8) es)).map fun i => (mdL 8).getD i 0 := hm
  obtain ⟨q, hq, he⟩ := List.mem_map.1 hm2
  obtain ⟨h1, h2⟩ := List.mem_filter.1 hq
  have hq8 := List.mem_range.1 h1
  have hne : (mdL 8).getD q 0 ≠ -1 := by
    have := h2
    unfold goneB at this
    rw [Bool.and_eq_true] at this
    simpa using this.1
  have hat := (mdL_at q hq8).resolve_left hne
  subst he
  constructor
  · exact List.mem_append_left _ ((mem_frm _ _ 8 (by rw [md_len]; omega)).2 ⟨hne, q, hq8, rfl⟩)
  · intro hc
    rcases List.mem_append.1 hc with hc | hc
    · obtain ⟨_, i, hi, hi2⟩ := (mem_frm _ _ 8 (by rw [trimL_len, md_len]; omega)).1 hc
      rw [trim_at _ _ _ _ (by rw [md_len]; omega) hi] at hi2
      rcases hg : goneB (mdL 8) es i with _ | _
      · rw [hg, if_neg (by simp)] at hi2
        rcases mdL_at i hi with h3 | h3
        · rw [h3] at hi2
          exact hne hi2.symm
        · rw [h3, hat] at hi2
          have : i = q := by omega
          subst this
          rw [hg] at h2
          exact absurd h2 (by simp)
      · rw [hg, if_pos rfl] at hi2
        exact hne hi2.symm
    · simp only [List.mem_singleton] at hc
      omega

set_option maxHeartbeats 1000000 in
theorem Has_any (zs : List Int) (x : Int) (v : Value) (w : World) (hv : IsV w v zs) (hn : zs.length ≤ 1000) :
    Calls Tryd.prog 40 #[v, .int .i64 x] w fun e w' => e = .returned (.bool (decide (x ∈ zs))) ∧ Below w.heap.size w w' := by
  obtain ⟨A, c, rfl, hr⟩ := hv
  go_enter Tryd.func40, Tryd.ntmps40
  go_wp2_with fail
  go_loopw [5] (fun s wr => ∃ k : Nat, k ≤ zs.length ∧ s = .int .i64 k ∧ (∀ i, i < k → zs.getD i 0 ≠ x) ∧ Below w.heap.size w wr) (fun s _ => zs.length - (intOf s).toNat)
  case atStart => exact ⟨0, by omega, rfl, fun i hi => by omega, Below.refl _ _⟩
  case round =>
    obtain ⟨k, hk, rfl, hno, hBx⟩ := hrel
    by_cases hlt : k < zs.length
    · have d1 : decide ((k : Int) < (zs.length : Int)) = true := by simp; omega
      obtain ⟨g, off, z, rfl, hg, hz, hc⟩ := (hr.below hBx (Nat.le_refl _)).numb hlt
      have hm : zs.getD k 0 ∈ zs := by rw [List.getD_eq_getElem?_getD, List.getElem?_eq_getElem hlt]; exact List.getElem_mem hlt
      by_cases hzx : z = x
      · subst hzx
        rw [hz] at hm
        have HM := Lib.hid (decide_eq_true hm)
        clear hz hno hm
        go_wp2_with fail
        go_ret
        exact ⟨by rw [HM.out]; rfl, by first | exact hBx | exact below_drawn hBx _⟩
      · have hne : (z == x) = false := by simpa using hzx
        have HN := Lib.hid (show ∀ i, i < k + 1 → zs.getD i 0 ≠ x from fun i hi => by
          rcases Nat.lt_or_ge i k with h | h
          · exact hno i h
          · rw [show i = k by omega, hz]; exact hzx)
        clear hz hno hm hzx
        go_wp2_with fail
        go_roundw
        case rel => exact ⟨k + 1, by omega, by go_num, HN.out, by first | exact hBx | exact below_drawn hBx _⟩
        case measure => simp [intOf]; omega
    · obtain rfl : k = zs.length := by omega
      have HM := Lib.hid (show decide (x ∈ zs) = false from by
        rw [decide_eq_false_iff_not]
        intro hm
        obtain ⟨i, hi, he⟩ := List.getElem_of_mem hm
        exact hno i hi (by rw [List.getD_eq_getElem?_getD, List.getElem?_eq_getElem hi]; exact he))
      clear hno
      go_wp2_with fail
      go_ret
      exact ⟨by rw [HM.out]; rfl, hBx⟩
end Go.Proofs.YtnmknbnidfmmoaaDoor
