/- Two sets together: the reference. -/
import Derived.Test.YtihbdndigfnhkaaDoorBit19
namespace Go.Proofs.YtihbdndigfnhkaaDoor
open Go Go.Proofs Go.RowKit
set_option linter.unusedSimpArgs false
set_option linter.unusedVariables false

/-- A list whose first k places are combined with another list's. -/
def combL (l r : List Bool) (op : Int) (k : Nat) : List Bool := (List.range l.length).map fun i => if i < k then opB op (l.getD i false) (r.getD i false) else l.getD i false
theorem combL_zero (l r : List Bool) (op : Int) : combL l r op 0 = l := by
  apply List.ext_getElem
  · simp [combL]
  · intro i h1 h2
    simp [combL, List.getD_eq_getElem?_getD, h2]
theorem combL_succ (l r : List Bool) (op : Int) (k : Nat) : combL l r op (k + 1) = (combL l r op k).set k (opB op (l.getD k false) (r.getD k false)) := by
  apply List.ext_getElem
  · simp [combL]
  · intro i h1 h2
    rw [List.getElem_set]
    simp only [combL, List.getElem_map, List.getElem_range]
    by_cases hi : k = i
    · subst hi; simp
    · rw [if_neg hi]
      by_cases hlt : i < k
      · rw [if_pos hlt, if_pos (by omega)]
      · rw [if_neg hlt, if_neg (by omega)]
theorem combL_get (l r : List Bool) (op : Int) (k : Nat) (h : k < l.length) : (combL l r op k).getD k false = l.getD k false := by
  simp [combL, List.getD_eq_getElem?_getD, List.getElem?_range h]
theorem combL_words (ws vs : List Nat) (N m : Nat) (op : Int) : wordsOf m (listF (combL (mem ws N) (mem vs N) op N) N) = wordsOf m (fun i => decide (i < N) && opB op (wbit ws i) (wbit vs i)) := by
  apply wordsOf_congr
  intro i _
  unfold listF
  by_cases hN : i < N
  · have : (combL (mem ws N) (mem vs N) op N).getD i false = opB op (wbit ws i) (wbit vs i) := by
      simp [combL, mem, List.getD_eq_getElem?_getD, hN, List.getElem?_range hN]
    rw [this]
  · simp [hN]

theorem own_side {w : World} {B g n c : Nat} {e : TypeId} {sz : Nat} {xs : List Value} {p : Addr} (h : w.ownsRow B e sz (.slice (some ⟨g, 0, none⟩) n c) n xs) (hp : p.block ≠ g) (u : Value) : (w.setCell p u).ownsRow B e sz (.slice (some ⟨g, 0, none⟩) n c) n xs := by
  refine ⟨h.1, ?_⟩
  rcases h.2 with ⟨h0, _⟩ | ⟨g', cap, cur, hv, hbg, hg, rest⟩
  · cases h0
  · have : g = g' := by injection hv with hv; injection hv with hv; injection hv
    subst this
    exact .inr ⟨g, cap, cur, hv, hbg, (Below.heap_setCell w p u g (fun e => hp e.symm)).trans hg, rest⟩
/-- Two rows of Bools in memory of the call's own, apart. -/
def TwoB (w : World) (B : Nat) (e : TypeId) (N : Nat) (x y : Value) (l r : List Bool) : Prop :=
  ∃ A1 c1 A2 c2, x = .slice A1 N c1 ∧ y = .slice A2 N c2 ∧ w.ownsRow B e 1 (.slice A1 N c1) N (bw l) ∧ w.ownsRow B e 1 (.slice A2 N c2) N (bw r) ∧ ∀ g h, A1 = some ⟨g, 0, none⟩ → A2 = some ⟨h, 0, none⟩ → g ≠ h

set_option maxHeartbeats 4000000 in
set_option maxRecDepth 100000 in
theorem rCombine_ne (N : Int) (A : Option Addr) (n c : Nat) (ws : List Nat) (M : Int) (A' : Option Addr) (n' c' : Nat) (vs : List Nat) (op : Int) (w : World) (hr : Rd w 1 A n (uw ws)) (hs : wsmall ws) (hn : n ≤ 1000000) (hr' : Rd w 1 A' n' (uw vs)) (hs' : wsmall vs) (hn' : n' ≤ 1000000) (hne : ¬ N = M) :
    Calls Tryd.prog 30 #[.agg #[.int .i64 N, .slice A n c], .agg #[.int .i64 M, .slice A' n' c'], .int .i64 op] w fun e w' => BitsRes w w' (combR N ws M vs op) e := by
  have hlen : ws.length = n := by have := hr.1; rw [uw_len] at this; omega
  have hlen' : vs.length = n' := by have := hr'.1; rw [uw_len] at this; omega
  have Hz1 : Hid (chkE N ws ≠ 0 → combR N ws M vs op = (0, [], chkE N ws)) := Lib.hid fun h => by unfold combR; rw [if_pos h]
  have Hz2 : Hid (chkE N ws = 0 → chkE M vs ≠ 0 → combR N ws M vs op = (0, [], chkE M vs)) := Lib.hid fun h h' => by unfold combR; rw [if_neg (by simp [h]), if_pos h']
  have Hz3 : Hid (chkE N ws = 0 → chkE M vs = 0 → (N ≠ M ∨ op < 1 ∨ 4 < op) → combR N ws M vs op = (0, [], 2)) := Lib.hid fun h h' h3 => by unfold combR; rw [if_neg (by simp [h]), if_neg (by simp [h']), if_pos h3]
  have Hz4 : Hid (chkE N ws = 0 → chkE M vs = 0 → ¬ (N ≠ M ∨ op < 1 ∨ 4 < op) → combR N ws M vs op = (N, wordsOf ((N.toNat + 63) / 64) (fun i => decide (i < N.toNat) && opB op (wbit ws i) (wbit vs i)), 0)) := Lib.hid fun h h' h3 => by unfold combR; rw [if_neg (by simp [h]), if_neg (by simp [h']), if_neg h3]
  go_enter Tryd.func30, Tryd.ntmps30
  go_wp2_with fail
  refine (rCheck_any _ _ _ _ ws _ (((hr.alloc _).alloc _).alloc _) hs hn).mono ?_
  rintro e w1 ⟨rfl, hb1⟩
  have kB := (((Bk.new w #[.int .i64 N, .slice A n c] 24).alloc (.cells #[.int .i64 M, .slice A' n' c'] 24)).alloc (.cells #[.int .i64 0, .slice none 0 0] 24)).to hb1
  have kC := ((Bk.new (w.alloc (.cells #[.int .i64 N, .slice A n c] 24)) #[.int .i64 M, .slice A' n' c'] 24).alloc (.cells #[.int .i64 0, .slice none 0 0] 24)).to hb1
  have kR := (Bk.new ((w.alloc (.cells #[.int .i64 N, .slice A n c] 24)).alloc (.cells #[.int .i64 M, .slice A' n' c'] 24)) #[.int .i64 0, .slice none 0 0] 24).to hb1
  simp only [World.size_alloc] at kC kR
  have hB1 : Below w.heap.size w w1 := by (repeat' (first | exact Below.refl _ _ | assumption | refine balloc ?_ _ | refine below_drawn ?_ _ | refine below_drew ?_ | refine bnext ?_ hb24 | refine bnext ?_ hb23 | refine bnext ?_ hb22 | refine bnext ?_ hb21 | refine bnext ?_ hb20 | refine bnext ?_ hb19 | refine bnext ?_ hb18 | refine bnext ?_ hb17 | refine bnext ?_ hb16 | refine bnext ?_ hb15 | refine bnext ?_ hb14 | refine bnext ?_ hb13 | refine bnext ?_ hb12 | refine bnext ?_ hb11 | refine bnext ?_ hb10 | refine bnext ?_ hb9 | refine bnext ?_ hb8 | refine bnext ?_ hb7 | refine bnext ?_ hb6 | refine bnext ?_ hb5 | refine bnext ?_ hb4 | refine bnext ?_ hb3 | refine bnext ?_ hb2 | refine bnext ?_ hb1))
  replace hr := hr.below hB1 (Nat.le_refl _)
  replace hr' := hr'.below hB1 (Nat.le_refl _)
  clear hb1
  obtain ⟨cB, fB, lB⟩ := kB.facts
  obtain ⟨cC, fC, lC⟩ := kC.facts
  obtain ⟨cR, fR, lR⟩ := kR.facts
  go_wp2_with (go_at_call 22; refine (rCheck_any _ _ _ _ vs _ hr' hs' hn').mono ?_; rintro e w2 ⟨rfl, hb2⟩; have kR2 := kR.to hb2; clear cB fB lB cC fC lC cR fR lR; obtain ⟨cB, fB, lB⟩ := (kB.to hb2).facts; obtain ⟨cC, fC, lC⟩ := (kC.to hb2).facts; obtain ⟨cR, fR, lR⟩ := (kR.to hb2).facts)
  all_goals try (
    have kF := (kR.put 0 (.int .i64 0)).put 1 (.slice none 0 0)
    have hBF := ((hB1).setCell (p := ⟨w.heap.size + 1 + 1, 0, none⟩) (by show w.heap.size ≤ w.heap.size + 1 + 1; omega) (.int .i64 0)).setCell (p := ⟨w.heap.size + 1 + 1, 1, none⟩) (by show w.heap.size ≤ w.heap.size + 1 + 1; omega) (.slice none 0 0)
    generalize (w1.setCell ⟨w.heap.size + 1 + 1, 0, none⟩ (.int .i64 0)).setCell ⟨w.heap.size + 1 + 1, 1, none⟩ (.slice none 0 0) = wF at *
    obtain ⟨cF, fF, lF⟩ := kF.facts
    first
      | (have hE : chkE N ws ≠ 0 := by simp_all
         have hv := Hz1.out hE
         exact bodyPost_ret (v := .tuple #[.agg #[.int .i64 0, .slice none 0 0], .int .i64 (chkE N ws)]) (by simp [results, Tryd.results30, go_sem, cF]) rfl ⟨none, 0, 0, by rw [hv], by rw [hv]; exact own_nil _ _ _ _, hBF⟩))
  all_goals (have hE : chkE N ws = 0 := by simp_all)
  all_goals try (
    have kF := (kR2.put 0 (.int .i64 0)).put 1 (.slice none 0 0)
    have hBF := ((bnext hB1 hb2).setCell (p := ⟨w.heap.size + 1 + 1, 0, none⟩) (by show w.heap.size ≤ w.heap.size + 1 + 1; omega) (.int .i64 0)).setCell (p := ⟨w.heap.size + 1 + 1, 1, none⟩) (by show w.heap.size ≤ w.heap.size + 1 + 1; omega) (.slice none 0 0)
    generalize (w2.setCell ⟨w.heap.size + 1 + 1, 0, none⟩ (.int .i64 0)).setCell ⟨w.heap.size + 1 + 1, 1, none⟩ (.slice none 0 0) = wF at *
    obtain ⟨cF, fF, lF⟩ := kF.facts
    first
      | (have hE2 : chkE M vs ≠ 0 := by simp_all
         have hv := Hz2.out hE hE2
         exact bodyPost_ret (v := .tuple #[.agg #[.int .i64 0, .slice none 0 0], .int .i64 (chkE M vs)]) (by simp [results, Tryd.results30, go_sem, cF]) rfl ⟨none, 0, 0, by rw [hv], by rw [hv]; exact own_nil _ _ _ _, hBF⟩)
      | (have hE2 : chkE M vs = 0 := by simp_all
         have hv := Hz3.out hE hE2 (by omega)
         exact bodyPost_ret (v := .tuple #[.agg #[.int .i64 0, .slice none 0 0], .int .i64 (2)]) (by simp [results, Tryd.results30, go_sem, cF]) rfl ⟨none, 0, 0, by rw [hv], by rw [hv]; exact own_nil _ _ _ _, hBF⟩))

set_option maxHeartbeats 4000000 in
set_option maxRecDepth 100000 in
theorem rCombine_eq (N : Int) (A : Option Addr) (n c : Nat) (ws : List Nat) (A' : Option Addr) (n' c' : Nat) (vs : List Nat) (op : Int) (w : World) (hr : Rd w 1 A n (uw ws)) (hs : wsmall ws) (hn : n ≤ 1000000) (hr' : Rd w 1 A' n' (uw vs)) (hs' : wsmall vs) (hn' : n' ≤ 1000000) :
    Calls Tryd.prog 30 #[.agg #[.int .i64 N, .slice A n c], .agg #[.int .i64 N, .slice A' n' c'], .int .i64 op] w fun e w' => BitsRes w w' (combR N ws N vs op) e := by
  have hlen : ws.length = n := by have := hr.1; rw [uw_len] at this; omega
  have hlen' : vs.length = n' := by have := hr'.1; rw [uw_len] at this; omega
  have Hz1 : Hid (chkE N ws ≠ 0 → combR N ws N vs op = (0, [], chkE N ws)) := Lib.hid fun h => by unfold combR; rw [if_pos h]
  have Hz2 : Hid (chkE N ws = 0 → chkE N vs ≠ 0 → combR N ws N vs op = (0, [], chkE N vs)) := Lib.hid fun h h' => by unfold combR; rw [if_neg (by simp [h]), if_pos h']
  have Hz3 : Hid (chkE N ws = 0 → chkE N vs = 0 → (N ≠ N ∨ op < 1 ∨ 4 < op) → combR N ws N vs op = (0, [], 2)) := Lib.hid fun h h' h3 => by unfold combR; rw [if_neg (by simp [h]), if_neg (by simp [h']), if_pos h3]
  have Hz4 : Hid (chkE N ws = 0 → chkE N vs = 0 → ¬ (N ≠ N ∨ op < 1 ∨ 4 < op) → combR N ws N vs op = (N, wordsOf ((N.toNat + 63) / 64) (fun i => decide (i < N.toNat) && opB op (wbit ws i) (wbit vs i)), 0)) := Lib.hid fun h h' h3 => by unfold combR; rw [if_neg (by simp [h]), if_neg (by simp [h']), if_neg h3]
  go_enter Tryd.func30, Tryd.ntmps30
  go_wp2_with fail
  refine (rCheck_any _ _ _ _ ws _ (((hr.alloc _).alloc _).alloc _) hs hn).mono ?_
  rintro e w1 ⟨rfl, hb1⟩
  have kB := (((Bk.new w #[.int .i64 N, .slice A n c] 24).alloc (.cells #[.int .i64 N, .slice A' n' c'] 24)).alloc (.cells #[.int .i64 0, .slice none 0 0] 24)).to hb1
  have kC := ((Bk.new (w.alloc (.cells #[.int .i64 N, .slice A n c] 24)) #[.int .i64 N, .slice A' n' c'] 24).alloc (.cells #[.int .i64 0, .slice none 0 0] 24)).to hb1
  have kR := (Bk.new ((w.alloc (.cells #[.int .i64 N, .slice A n c] 24)).alloc (.cells #[.int .i64 N, .slice A' n' c'] 24)) #[.int .i64 0, .slice none 0 0] 24).to hb1
  simp only [World.size_alloc] at kC kR
  have hB1 : Below w.heap.size w w1 := by (repeat' (first | exact Below.refl _ _ | assumption | refine balloc ?_ _ | refine below_drawn ?_ _ | refine below_drew ?_ | refine bnext ?_ hb24 | refine bnext ?_ hb23 | refine bnext ?_ hb22 | refine bnext ?_ hb21 | refine bnext ?_ hb20 | refine bnext ?_ hb19 | refine bnext ?_ hb18 | refine bnext ?_ hb17 | refine bnext ?_ hb16 | refine bnext ?_ hb15 | refine bnext ?_ hb14 | refine bnext ?_ hb13 | refine bnext ?_ hb12 | refine bnext ?_ hb11 | refine bnext ?_ hb10 | refine bnext ?_ hb9 | refine bnext ?_ hb8 | refine bnext ?_ hb7 | refine bnext ?_ hb6 | refine bnext ?_ hb5 | refine bnext ?_ hb4 | refine bnext ?_ hb3 | refine bnext ?_ hb2 | refine bnext ?_ hb1))
  replace hr := hr.below hB1 (Nat.le_refl _)
  replace hr' := hr'.below hB1 (Nat.le_refl _)
  clear hb1
  obtain ⟨cB, fB, lB⟩ := kB.facts
  obtain ⟨cC, fC, lC⟩ := kC.facts
  obtain ⟨cR, fR, lR⟩ := kR.facts
  go_wp2_with (go_at_call 22; refine (rCheck_any _ _ _ _ vs _ hr' hs' hn').mono ?_; rintro e w2 ⟨rfl, hb2⟩; have kR2 := kR.to hb2; clear cB fB lB cC fC lC cR fR lR; obtain ⟨cB, fB, lB⟩ := (kB.to hb2).facts; obtain ⟨cC, fC, lC⟩ := (kC.to hb2).facts; obtain ⟨cR, fR, lR⟩ := (kR.to hb2).facts)
  all_goals try (
    have kF := (kR.put 0 (.int .i64 0)).put 1 (.slice none 0 0)
    have hBF := ((hB1).setCell (p := ⟨w.heap.size + 1 + 1, 0, none⟩) (by show w.heap.size ≤ w.heap.size + 1 + 1; omega) (.int .i64 0)).setCell (p := ⟨w.heap.size + 1 + 1, 1, none⟩) (by show w.heap.size ≤ w.heap.size + 1 + 1; omega) (.slice none 0 0)
    generalize (w1.setCell ⟨w.heap.size + 1 + 1, 0, none⟩ (.int .i64 0)).setCell ⟨w.heap.size + 1 + 1, 1, none⟩ (.slice none 0 0) = wF at *
    obtain ⟨cF, fF, lF⟩ := kF.facts
    first
      | (have hE : chkE N ws ≠ 0 := by simp_all
         have hv := Hz1.out hE
         exact bodyPost_ret (v := .tuple #[.agg #[.int .i64 0, .slice none 0 0], .int .i64 (chkE N ws)]) (by simp [results, Tryd.results30, go_sem, cF]) rfl ⟨none, 0, 0, by rw [hv], by rw [hv]; exact own_nil _ _ _ _, hBF⟩))
  all_goals (have hE : chkE N ws = 0 := by simp_all)
  all_goals try (
    have kF := (kR2.put 0 (.int .i64 0)).put 1 (.slice none 0 0)
    have hBF := ((bnext hB1 hb2).setCell (p := ⟨w.heap.size + 1 + 1, 0, none⟩) (by show w.heap.size ≤ w.heap.size + 1 + 1; omega) (.int .i64 0)).setCell (p := ⟨w.heap.size + 1 + 1, 1, none⟩) (by show w.heap.size ≤ w.heap.size + 1 + 1; omega) (.slice none 0 0)
    generalize (w2.setCell ⟨w.heap.size + 1 + 1, 0, none⟩ (.int .i64 0)).setCell ⟨w.heap.size + 1 + 1, 1, none⟩ (.slice none 0 0) = wF at *
    obtain ⟨cF, fF, lF⟩ := kF.facts
    first
      | (have hE2 : chkE N vs ≠ 0 := by simp_all
         have hv := Hz2.out hE hE2
         exact bodyPost_ret (v := .tuple #[.agg #[.int .i64 0, .slice none 0 0], .int .i64 (chkE N vs)]) (by simp [results, Tryd.results30, go_sem, cF]) rfl ⟨none, 0, 0, by rw [hv], by rw [hv]; exact own_nil _ _ _ _, hBF⟩)
      | (have hE2 : chkE N vs = 0 := by simp_all
         have hv := Hz3.out hE hE2 (by omega)
         exact bodyPost_ret (v := .tuple #[.agg #[.int .i64 0, .slice none 0 0], .int .i64 (2)]) (by simp [results, Tryd.results30, go_sem, cF]) rfl ⟨none, 0, 0, by rw [hv], by rw [hv]; exact own_nil _ _ _ _, hBF⟩))
  have hE2 : chkE N vs = 0 := by simp_all
  have hop : 1 ≤ op ∧ op ≤ 4 := by omega
  obtain ⟨z0, z1, z2, _⟩ := chk_zero N ws hE
  obtain ⟨_, _, z2', _⟩ := chk_zero N vs hE2
  have hv := Hz4.out hE hE2 (by omega)
  clear Hz1 Hz2 Hz3 Hz4
  obtain ⟨N, rfl⟩ : ∃ q : Nat, N = q := ⟨N.toNat, by omega⟩
  simp only [Int.toNat_natCast] at hv
  rw [← combL_words ws vs N _ op] at hv
  have HV := Lib.hid hv
  have hN64 : N ≤ 64 * n := by omega
  have hN64' : N ≤ 64 * n' := by omega
  have hN1 : N ≤ 1024 := by omega
  clear hE hE2 hv z0 z1 z2 z2' hlen hlen'
  have hB2 := bnext hB1 hb2
  have hr2 := hr.below hb2 (Nat.le_refl _)
  have hr2' := hr'.below hb2 (Nat.le_refl _)
  have hs2 := kR2.lt
  have cB0 := (kB.to hb2).cell 0
  have cB1 := (kB.to hb2).cell 1
  have cC0 := (kC.to hb2).cell 0
  have cC1 := (kC.to hb2).cell 1
  simp at cB0 cB1 cC0 cC1
  clear cB fB lB cC fC lC cR fR lR kB kC kR hr hr' hB1 hb2
  go_cut [9, 10] (fun s9 s10 wx => TwoB wx (w.heap.size + 1 + 1 + 1) 4 N s9 s10 (mem ws N) (mem vs N) ∧ Bk wx (w.heap.size + 1 + 1) #[.int .i64 0, .slice none 0 0] 24 ∧ Below w.heap.size w wx)
  case first =>
    go_region_held3 (fun w' => w'.cell? ⟨w.heap.size, 0, none⟩ = some (.int .i64 N) ∧ w'.cell? ⟨w.heap.size, 1, none⟩ = some (.slice A n c) ∧ w'.cell? ⟨w.heap.size + 1, 0, none⟩ = some (.int .i64 N) ∧ w'.cell? ⟨w.heap.size + 1, 1, none⟩ = some (.slice A' n' c'))
      (refine ⟨?_, ?_, ?_, ?_⟩ <;> (repeat (with_reducible first | exact cB0 | exact cB1 | exact cC0 | exact cC1 | refine cell_drew ?_ | refine cell_later hb4 ?_ | refine cell_later hb3 ?_)))
      (first
        | (go_at_call_of 46 (Value.agg #[.int .i64 N, .slice A n c]); refine (members_any N A n c ws _ (by with_reducible first | exact hr2.drew | exact hr2.drew.below hb4 (Nat.le_refl _)) hs hN64 hN1).mono ?_; rintro e w3 ⟨v1, rfl, hown3, hb3⟩; obtain ⟨A3, c3, rfl, _⟩ := own_slice hown3)
        | (go_at_call_of 46 (Value.agg #[.int .i64 N, .slice A' n' c']); refine (members_any N A' n' c' vs _ (by with_reducible first | exact hr2'.drew | exact hr2'.drew.below hb3 (Nat.le_refl _)) hs' hN64' hN1).mono ?_; rintro e w4 ⟨v2, rfl, hown4, hb4⟩; obtain ⟨A4, c4, rfl, _⟩ := own_slice hown4))
    go_wp2_with fail
    go_meet
    have hsz : w2.heap.size ≤ w3.heap.size := hb3.size
    have h3 : w3.ownsRow w2.heap.size 4 1 (.slice A3 N c3) N (bw (mem ws N)) := hown3
    refine ⟨⟨A3, c3, A4, c4, rfl, rfl, own_below (own_less h3 hs2) hb4, own_less hown4 (by omega), ?_⟩, (kR2.drew.to hb3).to hb4, bnext (bnext (below_drew hB2) hb3) hb4⟩
    intro g h hg hh
    subst hg hh
    have e1 := (h3.lt g rfl).2
    have e2 := (hown4.lt h rfl).1
    omega
  case rest =>
    obtain ⟨⟨A3, c3, A4, c4, rfl, rfl, hx, hy, hxy⟩, kR, hB⟩ := hcut
    clear hB2 hr2 hr2' kR2 cB0 cB1 cC0 cC1
    rw [← combL_zero (mem ws N) (mem vs N) op] at hx
    go_wp2_with fail
    go_loopw [11] (fun i wr => ∃ k : Nat, k ≤ N ∧ i = .int .i64 k ∧ wr.ownsRow (w.heap.size + 1 + 1 + 1) 4 1 (.slice A3 N c3) N (bw (combL (mem ws N) (mem vs N) op k)) ∧ wr.ownsRow (w.heap.size + 1 + 1 + 1) 4 1 (.slice A4 N c4) N (bw (mem vs N)) ∧ Bk wr (w.heap.size + 1 + 1) #[.int .i64 0, .slice none 0 0] 24 ∧ Below w.heap.size w wr) (fun i _ => N - (intOf i).toNat)
    case atStart => exact ⟨0, by omega, rfl, hx, hy, kR, hB⟩
    case round =>
      clear hx hy kR hB
      obtain ⟨k, hk, rfl, hx, hy, kR, hB⟩ := hrel
      by_cases hlt : k < N
      · obtain ⟨g, rfl, hg1, hg2⟩ := own_nat hx (by omega)
        obtain ⟨h, rfl, hh1, hh2⟩ := own_nat hy (by omega)
        have hgh := hxy g h rfl rfl
        have hcx := own_boolAt hx hlt
        rw [combL_get _ _ _ _ (by rw [mem_len]; exact hlt)] at hcx
        have hcy := own_boolAt hy hlt
        have hfx := hx.frozenAt k
        have HS := Lib.hid (combL_succ (mem ws N) (mem vs N) op k)
        generalize (mem ws N).getD k false = x at hcx HS
        generalize (mem vs N).getD k false = y at hcy HS
        have hkI : (k : Int) < (N : Int) := by omega
        have hoo : op = 1 ∨ op = 2 ∨ op = 3 ∨ op = 4 := by omega
        have fin : ∀ (w9 : World) (z : Bool), w9 = wr.setCell ⟨g, k, none⟩ (.bool z) ∨ w9 = wr.drew.setCell ⟨g, k, none⟩ (.bool z) → z = opB op x y →
            w9.ownsRow (w.heap.size + 1 + 1 + 1) 4 1 (.slice (some ⟨g, 0, none⟩) N c3) N (bw (combL (mem ws N) (mem vs N) op (k + 1))) ∧ w9.ownsRow (w.heap.size + 1 + 1 + 1) 4 1 (.slice (some ⟨h, 0, none⟩) N c4) N (bw (mem vs N)) ∧ Bk w9 (w.heap.size + 1 + 1) #[.int .i64 0, .slice none 0 0] 24 ∧ Below w.heap.size w w9 := by
          intro w9 z hw hz
          have hy9 : ∀ u : World, u.ownsRow (w.heap.size + 1 + 1 + 1) 4 1 (.slice (some ⟨h, 0, none⟩) N c4) N (bw (mem vs N)) → (u.setCell ⟨g, k, none⟩ (.bool z)).ownsRow (w.heap.size + 1 + 1 + 1) 4 1 (.slice (some ⟨h, 0, none⟩) N c4) N (bw (mem vs N)) := fun u hu => own_side hu (by simpa using hgh) _
          rcases hw with rfl | rfl
          · exact ⟨by rw [HS.out, hz]; exact own_putB hx k _, hy9 _ hy, kR.far (by show w.heap.size + 1 + 1 ≠ g; omega) _, hB.setCell (by show w.heap.size ≤ g; omega) _⟩
          · exact ⟨by rw [HS.out, hz]; exact own_putB (w := wr.drew) hx k _, hy9 _ hy, kR.drew.far (by show w.heap.size + 1 + 1 ≠ g; omega) _, (below_drew hB).setCell (by show w.heap.size ≤ g; omega) _⟩
        have FIN := Lib.hid fin
        clear fin HS
        rcases hoo with rfl | rfl | rfl | rfl
        · cases x <;> cases y
          all_goals
            go_wp2_with fail
            go_roundw
            case rel => exact ⟨k + 1, by omega, by go_num, FIN.out _ _ (.inl rfl) (by simp [opB])⟩
            case measure => simp [intOf]; omega
        · cases x <;> cases y
          all_goals
            go_wp2_with fail
            go_roundw
            case rel => exact ⟨k + 1, by omega, by go_num, FIN.out _ _ (.inl rfl) (by simp [opB])⟩
            case measure => simp [intOf]; omega
        · cases x <;> cases y
          all_goals
            go_wp2_with fail
            go_roundw
            case rel => exact ⟨k + 1, by omega, by go_num, FIN.out _ _ (.inl rfl) (by simp [opB])⟩
            case measure => simp [intOf]; omega
        · cases x <;> cases y
          all_goals
            go_wp2_with fail
            go_still_tail 12, (by kernel_rfl)
            change wpList _ _ _ _ _ wr.drew
            go_wp2
            go_roundw
            case rel => exact ⟨k + 1, by omega, by go_num, FIN.out _ _ (.inr rfl) (by simp [opB])⟩
            case measure => simp [intOf]; omega
      · obtain rfl : k = N := by omega
        go_wp2_with fail
        refine (rmade_any A3 k c3 (combL (mem ws k) (mem vs k) op k) _ (Rd.own hx) hN1).mono ?_
        rintro e w3 ⟨A5, rfl, hown5, hb5⟩
        generalize (k + 63) / 64 = m at *
        have kR5 := kR.to hb5
        replace hown5 := own_less hown5 (show w.heap.size + 1 + 1 + 1 ≤ wr.heap.size from kR.lt)
        have hB5 := bnext hB hb5
        have kF := (kR5.put 0 (.int .i64 k)).put 1 (.slice A5 m m)
        have hoF := own_far (own_far hown5 (p := ⟨w.heap.size + 1 + 1, 0, none⟩) (Nat.lt_succ_self _) (.int .i64 k)) (p := ⟨w.heap.size + 1 + 1, 1, none⟩) (Nat.lt_succ_self _) (.slice A5 m m)
        have hBF := (hB5.setCell (p := ⟨w.heap.size + 1 + 1, 0, none⟩) (by show w.heap.size ≤ w.heap.size + 1 + 1; omega) (.int .i64 k)).setCell (p := ⟨w.heap.size + 1 + 1, 1, none⟩) (by show w.heap.size ≤ w.heap.size + 1 + 1; omega) (.slice A5 m m)
        obtain ⟨cR, fR, lR⟩ := kR5.facts
        clear hown5 hb5 hx hy hB
        go_wp2_with fail
        generalize (w3.setCell ⟨w.heap.size + 1 + 1, 0, none⟩ (.int .i64 k)).setCell ⟨w.heap.size + 1 + 1, 1, none⟩ (.slice A5 m m) = wF at *
        clear cR fR lR
        obtain ⟨cF, fF, lF⟩ := kF.facts
        exact bodyPost_ret (v := .tuple #[.agg #[.int .i64 k, .slice A5 m m], .int .i64 0]) (by simp [results, Tryd.results30, go_sem, cF]) rfl ⟨A5, m, m, by rw [HV.out], by rw [HV.out]; exact own_less hoF (by omega), hBF⟩

theorem rCombine_any (N : Int) (A : Option Addr) (n c : Nat) (ws : List Nat) (M : Int) (A' : Option Addr) (n' c' : Nat) (vs : List Nat) (op : Int) (w : World) (hr : Rd w 1 A n (uw ws)) (hs : wsmall ws) (hn : n ≤ 1000000) (hr' : Rd w 1 A' n' (uw vs)) (hs' : wsmall vs) (hn' : n' ≤ 1000000) :
    Calls Tryd.prog 30 #[.agg #[.int .i64 N, .slice A n c], .agg #[.int .i64 M, .slice A' n' c'], .int .i64 op] w fun e w' => BitsRes w w' (combR N ws M vs op) e := by
  by_cases h : N = M
  · subst h
    exact rCombine_eq N A n c ws A' n' c' vs op w hr hs hn hr' hs' hn'
  · exact rCombine_ne N A n c ws M A' n' c' vs op w hr hs hn hr' hs' hn' h
end Go.Proofs.YtihbdndigfnhkaaDoor
