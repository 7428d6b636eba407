/- Two sets together: the program. -/
import Derived.Test.YtihbdndigfnhkaaDoorBit20
import Derived.Laws.EntriesVeiled
namespace Go.Proofs.YtihbdndigfnhkaaDoor
open Go Go.Proofs Go.RowKit
set_option linter.unusedSimpArgs false
set_option linter.unusedVariables false

theorem op1_any (x y : Nat) (w : World) (hx : x < 18446744073709551616) (hy : y < 18446744073709551616) :
    Calls Tryd.prog 53 #[.int .u64 x, .int .u64 y] w fun e w' => e = .returned (.int .u64 (opW 1 x y : Nat)) ∧ w' = w := by
  have HO := Lib.hid (u64_or_nat x y hx hy)
  go_enter Tryd.func53, Tryd.ntmps53
  go_wp2
  go_ret
  exact ⟨ret_int (by rw [show opW 1 x y = x ||| y from rfl]; exact HO.out), rfl⟩
theorem op2_any (x y : Nat) (w : World) (hx : x < 18446744073709551616) (hy : y < 18446744073709551616) :
    Calls Tryd.prog 54 #[.int .u64 x, .int .u64 y] w fun e w' => e = .returned (.int .u64 (opW 2 x y : Nat)) ∧ w' = w := by
  have HO := Lib.hid (u64_and_nat x y hx hy)
  go_enter Tryd.func54, Tryd.ntmps54
  go_wp2
  go_ret
  exact ⟨ret_int (by rw [show opW 2 x y = x &&& y from rfl]; exact HO.out), rfl⟩
theorem op3_any (x y : Nat) (w : World) (hx : x < 18446744073709551616) (hy : y < 18446744073709551616) :
    Calls Tryd.prog 55 #[.int .u64 x, .int .u64 y] w fun e w' => e = .returned (.int .u64 (opW 3 x y : Nat)) ∧ w' = w := by
  have HO := Lib.hid (u64_andNot_nat x y hx hy)
  go_enter Tryd.func55, Tryd.ntmps55
  go_wp2
  go_ret
  exact ⟨ret_int (by rw [show opW 3 x y = x &&& (18446744073709551615 - y) from rfl]; exact HO.out), rfl⟩
theorem op4_any (x y : Nat) (w : World) (hx : x < 18446744073709551616) (hy : y < 18446744073709551616) :
    Calls Tryd.prog 56 #[.int .u64 x, .int .u64 y] w fun e w' => e = .returned (.int .u64 (opW 4 x y : Nat)) ∧ w' = w := by
  have HO := Lib.hid (u64_xor_nat x y hx hy)
  go_enter Tryd.func56, Tryd.ntmps56
  go_wp2
  go_ret
  exact ⟨ret_int (by rw [show opW 4 x y = x ^^^ y from rfl]; exact HO.out), rfl⟩

set_option maxHeartbeats 4000000 in
set_option maxRecDepth 100000 in
theorem Combine_ne (N : Int) (A : Option Addr) (n c : Nat) (ws : List Nat) (M : Int) (A' : Option Addr) (n' c' : Nat) (vs : List Nat) (op : Int) (w : World) (hr : Rd w 1 A n (uw ws)) (hs : wsmall ws) (hn : n ≤ 1000000) (hr' : Rd w 1 A' n' (uw vs)) (hs' : wsmall vs) (hn' : n' ≤ 1000000) (hne : ¬ N = M) :
    Calls Tryd.prog 29 #[.agg #[.int .i64 N, .slice A n c], .agg #[.int .i64 M, .slice A' n' c'], .int .i64 op] w fun e w' => BitsRes w w' (combR N ws M vs op) e := by
  have hlen : ws.length = n := by have := hr.1; rw [uw_len] at this; omega
  have hlen' : vs.length = n' := by have := hr'.1; rw [uw_len] at this; omega
  have Hz1 : Hid (chkE N ws ≠ 0 → combR N ws M vs op = (0, [], chkE N ws)) := Lib.hid fun h => by unfold combR; rw [if_pos h]
  have Hz2 : Hid (chkE N ws = 0 → chkE M vs ≠ 0 → combR N ws M vs op = (0, [], chkE M vs)) := Lib.hid fun h h' => by unfold combR; rw [if_neg (by simp [h]), if_pos h']
  have Hz3 : Hid (chkE N ws = 0 → chkE M vs = 0 → (N ≠ M ∨ op < 1 ∨ 4 < op) → combR N ws M vs op = (0, [], 2)) := Lib.hid fun h h' h3 => by unfold combR; rw [if_neg (by simp [h]), if_neg (by simp [h']), if_pos h3]
  have Hz4 : Hid (chkE N ws = 0 → chkE M vs = 0 → ¬ (N ≠ M ∨ op < 1 ∨ 4 < op) → combR N ws M vs op = (N, wordsOf ((N.toNat + 63) / 64) (fun i => decide (i < N.toNat) && opB op (wbit ws i) (wbit vs i)), 0)) := Lib.hid fun h h' h3 => by unfold combR; rw [if_neg (by simp [h]), if_neg (by simp [h']), if_neg h3]
  go_enter Tryd.func29, Tryd.ntmps29
  go_wp2_with fail
  refine (Check_any _ _ _ _ ws _ (((hr.alloc _).alloc _).alloc _) hs hn).mono ?_
  rintro e w1 ⟨rfl, hb1⟩
  have kB := (((Bk.new w #[.int .i64 N, .slice A n c] 24).alloc (.cells #[.int .i64 M, .slice A' n' c'] 24)).alloc (.cells #[.int .i64 0, .slice none 0 0] 24)).to hb1
  have kC := ((Bk.new (w.alloc (.cells #[.int .i64 N, .slice A n c] 24)) #[.int .i64 M, .slice A' n' c'] 24).alloc (.cells #[.int .i64 0, .slice none 0 0] 24)).to hb1
  have kR := (Bk.new ((w.alloc (.cells #[.int .i64 N, .slice A n c] 24)).alloc (.cells #[.int .i64 M, .slice A' n' c'] 24)) #[.int .i64 0, .slice none 0 0] 24).to hb1
  simp only [World.size_alloc] at kC kR
  have hB1 : Below w.heap.size w w1 := by (repeat' (first | exact Below.refl _ _ | assumption | refine balloc ?_ _ | refine below_drawn ?_ _ | refine below_drew ?_ | refine bnext ?_ hb24 | refine bnext ?_ hb23 | refine bnext ?_ hb22 | refine bnext ?_ hb21 | refine bnext ?_ hb20 | refine bnext ?_ hb19 | refine bnext ?_ hb18 | refine bnext ?_ hb17 | refine bnext ?_ hb16 | refine bnext ?_ hb15 | refine bnext ?_ hb14 | refine bnext ?_ hb13 | refine bnext ?_ hb12 | refine bnext ?_ hb11 | refine bnext ?_ hb10 | refine bnext ?_ hb9 | refine bnext ?_ hb8 | refine bnext ?_ hb7 | refine bnext ?_ hb6 | refine bnext ?_ hb5 | refine bnext ?_ hb4 | refine bnext ?_ hb3 | refine bnext ?_ hb2 | refine bnext ?_ hb1))
  replace hr := hr.below hB1 (Nat.le_refl _)
  replace hr' := hr'.below hB1 (Nat.le_refl _)
  clear hb1
  obtain ⟨cB, fB, lB⟩ := kB.facts
  obtain ⟨cC, fC, lC⟩ := kC.facts
  obtain ⟨cR, fR, lR⟩ := kR.facts
  go_wp2_with (go_at_call 21; refine (Check_any _ _ _ _ vs _ hr' hs' hn').mono ?_; rintro e w2 ⟨rfl, hb2⟩; have kR2 := kR.to hb2; clear cB fB lB cC fC lC cR fR lR; obtain ⟨cB, fB, lB⟩ := (kB.to hb2).facts; obtain ⟨cC, fC, lC⟩ := (kC.to hb2).facts; obtain ⟨cR, fR, lR⟩ := (kR.to hb2).facts)
  all_goals try (
    have kF := (kR.put 0 (.int .i64 0)).put 1 (.slice none 0 0)
    have hBF := ((hB1).setCell (p := ⟨w.heap.size + 1 + 1, 0, none⟩) (by show w.heap.size ≤ w.heap.size + 1 + 1; omega) (.int .i64 0)).setCell (p := ⟨w.heap.size + 1 + 1, 1, none⟩) (by show w.heap.size ≤ w.heap.size + 1 + 1; omega) (.slice none 0 0)
    generalize (w1.setCell ⟨w.heap.size + 1 + 1, 0, none⟩ (.int .i64 0)).setCell ⟨w.heap.size + 1 + 1, 1, none⟩ (.slice none 0 0) = wF at *
    obtain ⟨cF, fF, lF⟩ := kF.facts
    first
      | (have hE : chkE N ws ≠ 0 := by simp_all
         have hv := Hz1.out hE
         exact bodyPost_ret (v := .tuple #[.agg #[.int .i64 0, .slice none 0 0], .int .i64 (chkE N ws)]) (by simp [results, Tryd.results29, go_sem, cF]) rfl ⟨none, 0, 0, by rw [hv], by rw [hv]; exact own_nil _ _ _ _, hBF⟩))
  all_goals (have hE : chkE N ws = 0 := by simp_all)
  all_goals try (
    have kF := (kR2.put 0 (.int .i64 0)).put 1 (.slice none 0 0)
    have hBF := ((bnext hB1 hb2).setCell (p := ⟨w.heap.size + 1 + 1, 0, none⟩) (by show w.heap.size ≤ w.heap.size + 1 + 1; omega) (.int .i64 0)).setCell (p := ⟨w.heap.size + 1 + 1, 1, none⟩) (by show w.heap.size ≤ w.heap.size + 1 + 1; omega) (.slice none 0 0)
    generalize (w2.setCell ⟨w.heap.size + 1 + 1, 0, none⟩ (.int .i64 0)).setCell ⟨w.heap.size + 1 + 1, 1, none⟩ (.slice none 0 0) = wF at *
    obtain ⟨cF, fF, lF⟩ := kF.facts
    first
      | (have hE2 : chkE M vs ≠ 0 := by simp_all
         have hv := Hz2.out hE hE2
         exact bodyPost_ret (v := .tuple #[.agg #[.int .i64 0, .slice none 0 0], .int .i64 (chkE M vs)]) (by simp [results, Tryd.results29, go_sem, cF]) rfl ⟨none, 0, 0, by rw [hv], by rw [hv]; exact own_nil _ _ _ _, hBF⟩))
  all_goals try (
    have kF := ((kR2.put 0 (.int .i64 0)).put 1 (.slice none 0 0)).alloc (.cells #[.func (Fn.func 53) #[] #[], .func (Fn.func 54) #[] #[], .func (Fn.func 55) #[] #[], .func (Fn.func 56) #[] #[]] 73)
    have hBF := balloc (((bnext hB1 hb2).setCell (p := ⟨w.heap.size + 1 + 1, 0, none⟩) (by show w.heap.size ≤ w.heap.size + 1 + 1; omega) (.int .i64 0)).setCell (p := ⟨w.heap.size + 1 + 1, 1, none⟩) (by show w.heap.size ≤ w.heap.size + 1 + 1; omega) (.slice none 0 0)) (.cells #[.func (Fn.func 53) #[] #[], .func (Fn.func 54) #[] #[], .func (Fn.func 55) #[] #[], .func (Fn.func 56) #[] #[]] 73)
    generalize ((w2.setCell ⟨w.heap.size + 1 + 1, 0, none⟩ (.int .i64 0)).setCell ⟨w.heap.size + 1 + 1, 1, none⟩ (.slice none 0 0)).alloc (.cells #[.func (Fn.func 53) #[] #[], .func (Fn.func 54) #[] #[], .func (Fn.func 55) #[] #[], .func (Fn.func 56) #[] #[]] 73) = wF at *
    obtain ⟨cF, fF, lF⟩ := kF.facts
    first
      | (have hE2 : chkE M vs = 0 := by simp_all
         have hv := Hz3.out hE hE2 (by omega)
         exact bodyPost_ret (v := .tuple #[.agg #[.int .i64 0, .slice none 0 0], .int .i64 (2)]) (by simp [results, Tryd.results29, go_sem, cF]) rfl ⟨none, 0, 0, by rw [hv], by rw [hv]; exact own_nil _ _ _ _, hBF⟩))

set_option maxHeartbeats 4000000 in
set_option maxRecDepth 100000 in
theorem Combine_eq (N : Int) (A : Option Addr) (n c : Nat) (ws : List Nat) (A' : Option Addr) (n' c' : Nat) (vs : List Nat) (op : Int) (w : World) (hr : Rd w 1 A n (uw ws)) (hs : wsmall ws) (hn : n ≤ 1000000) (hr' : Rd w 1 A' n' (uw vs)) (hs' : wsmall vs) (hn' : n' ≤ 1000000) :
    Calls Tryd.prog 29 #[.agg #[.int .i64 N, .slice A n c], .agg #[.int .i64 N, .slice A' n' c'], .int .i64 op] w fun e w' => BitsRes w w' (combR N ws N vs op) e := by
  have hlen : ws.length = n := by have := hr.1; rw [uw_len] at this; omega
  have hlen' : vs.length = n' := by have := hr'.1; rw [uw_len] at this; omega
  have Hz1 : Hid (chkE N ws ≠ 0 → combR N ws N vs op = (0, [], chkE N ws)) := Lib.hid fun h => by unfold combR; rw [if_pos h]
  have Hz2 : Hid (chkE N ws = 0 → chkE N vs ≠ 0 → combR N ws N vs op = (0, [], chkE N vs)) := Lib.hid fun h h' => by unfold combR; rw [if_neg (by simp [h]), if_pos h']
  have Hz3 : Hid (chkE N ws = 0 → chkE N vs = 0 → (N ≠ N ∨ op < 1 ∨ 4 < op) → combR N ws N vs op = (0, [], 2)) := Lib.hid fun h h' h3 => by unfold combR; rw [if_neg (by simp [h]), if_neg (by simp [h']), if_pos h3]
  have Hz4 : Hid (chkE N ws = 0 → chkE N vs = 0 → ¬ (N ≠ N ∨ op < 1 ∨ 4 < op) → combR N ws N vs op = (N, wordsOf ((N.toNat + 63) / 64) (fun i => decide (i < N.toNat) && opB op (wbit ws i) (wbit vs i)), 0)) := Lib.hid fun h h' h3 => by unfold combR; rw [if_neg (by simp [h]), if_neg (by simp [h']), if_neg h3]
  go_enter Tryd.func29, Tryd.ntmps29
  go_wp2_with fail
  refine (Check_any _ _ _ _ ws _ (((hr.alloc _).alloc _).alloc _) hs hn).mono ?_
  rintro e w1 ⟨rfl, hb1⟩
  have kB := (((Bk.new w #[.int .i64 N, .slice A n c] 24).alloc (.cells #[.int .i64 N, .slice A' n' c'] 24)).alloc (.cells #[.int .i64 0, .slice none 0 0] 24)).to hb1
  have kC := ((Bk.new (w.alloc (.cells #[.int .i64 N, .slice A n c] 24)) #[.int .i64 N, .slice A' n' c'] 24).alloc (.cells #[.int .i64 0, .slice none 0 0] 24)).to hb1
  have kR := (Bk.new ((w.alloc (.cells #[.int .i64 N, .slice A n c] 24)).alloc (.cells #[.int .i64 N, .slice A' n' c'] 24)) #[.int .i64 0, .slice none 0 0] 24).to hb1
  simp only [World.size_alloc] at kC kR
  have hB1 : Below w.heap.size w w1 := by (repeat' (first | exact Below.refl _ _ | assumption | refine balloc ?_ _ | refine below_drawn ?_ _ | refine below_drew ?_ | refine bnext ?_ hb24 | refine bnext ?_ hb23 | refine bnext ?_ hb22 | refine bnext ?_ hb21 | refine bnext ?_ hb20 | refine bnext ?_ hb19 | refine bnext ?_ hb18 | refine bnext ?_ hb17 | refine bnext ?_ hb16 | refine bnext ?_ hb15 | refine bnext ?_ hb14 | refine bnext ?_ hb13 | refine bnext ?_ hb12 | refine bnext ?_ hb11 | refine bnext ?_ hb10 | refine bnext ?_ hb9 | refine bnext ?_ hb8 | refine bnext ?_ hb7 | refine bnext ?_ hb6 | refine bnext ?_ hb5 | refine bnext ?_ hb4 | refine bnext ?_ hb3 | refine bnext ?_ hb2 | refine bnext ?_ hb1))
  replace hr := hr.below hB1 (Nat.le_refl _)
  replace hr' := hr'.below hB1 (Nat.le_refl _)
  clear hb1
  obtain ⟨cB, fB, lB⟩ := kB.facts
  obtain ⟨cC, fC, lC⟩ := kC.facts
  obtain ⟨cR, fR, lR⟩ := kR.facts
  go_wp2_with (go_at_call 21; refine (Check_any _ _ _ _ vs _ hr' hs' hn').mono ?_; rintro e w2 ⟨rfl, hb2⟩; have kR2 := kR.to hb2; clear cB fB lB cC fC lC cR fR lR; obtain ⟨cB, fB, lB⟩ := (kB.to hb2).facts; obtain ⟨cC, fC, lC⟩ := (kC.to hb2).facts; obtain ⟨cR, fR, lR⟩ := (kR.to hb2).facts)
  all_goals try (
    have kF := (kR.put 0 (.int .i64 0)).put 1 (.slice none 0 0)
    have hBF := ((hB1).setCell (p := ⟨w.heap.size + 1 + 1, 0, none⟩) (by show w.heap.size ≤ w.heap.size + 1 + 1; omega) (.int .i64 0)).setCell (p := ⟨w.heap.size + 1 + 1, 1, none⟩) (by show w.heap.size ≤ w.heap.size + 1 + 1; omega) (.slice none 0 0)
    generalize (w1.setCell ⟨w.heap.size + 1 + 1, 0, none⟩ (.int .i64 0)).setCell ⟨w.heap.size + 1 + 1, 1, none⟩ (.slice none 0 0) = wF at *
    obtain ⟨cF, fF, lF⟩ := kF.facts
    first
      | (have hE : chkE N ws ≠ 0 := by simp_all
         have hv := Hz1.out hE
         exact bodyPost_ret (v := .tuple #[.agg #[.int .i64 0, .slice none 0 0], .int .i64 (chkE N ws)]) (by simp [results, Tryd.results29, go_sem, cF]) rfl ⟨none, 0, 0, by rw [hv], by rw [hv]; exact own_nil _ _ _ _, hBF⟩))
  all_goals (have hE : chkE N ws = 0 := by simp_all)
  all_goals try (
    have kF := (kR2.put 0 (.int .i64 0)).put 1 (.slice none 0 0)
    have hBF := ((bnext hB1 hb2).setCell (p := ⟨w.heap.size + 1 + 1, 0, none⟩) (by show w.heap.size ≤ w.heap.size + 1 + 1; omega) (.int .i64 0)).setCell (p := ⟨w.heap.size + 1 + 1, 1, none⟩) (by show w.heap.size ≤ w.heap.size + 1 + 1; omega) (.slice none 0 0)
    generalize (w2.setCell ⟨w.heap.size + 1 + 1, 0, none⟩ (.int .i64 0)).setCell ⟨w.heap.size + 1 + 1, 1, none⟩ (.slice none 0 0) = wF at *
    obtain ⟨cF, fF, lF⟩ := kF.facts
    first
      | (have hE2 : chkE N vs ≠ 0 := by simp_all
         have hv := Hz2.out hE hE2
         exact bodyPost_ret (v := .tuple #[.agg #[.int .i64 0, .slice none 0 0], .int .i64 (chkE N vs)]) (by simp [results, Tryd.results29, go_sem, cF]) rfl ⟨none, 0, 0, by rw [hv], by rw [hv]; exact own_nil _ _ _ _, hBF⟩))
  all_goals try (
    have kF := ((kR2.put 0 (.int .i64 0)).put 1 (.slice none 0 0)).alloc (.cells #[.func (Fn.func 53) #[] #[], .func (Fn.func 54) #[] #[], .func (Fn.func 55) #[] #[], .func (Fn.func 56) #[] #[]] 73)
    have hBF := balloc (((bnext hB1 hb2).setCell (p := ⟨w.heap.size + 1 + 1, 0, none⟩) (by show w.heap.size ≤ w.heap.size + 1 + 1; omega) (.int .i64 0)).setCell (p := ⟨w.heap.size + 1 + 1, 1, none⟩) (by show w.heap.size ≤ w.heap.size + 1 + 1; omega) (.slice none 0 0)) (.cells #[.func (Fn.func 53) #[] #[], .func (Fn.func 54) #[] #[], .func (Fn.func 55) #[] #[], .func (Fn.func 56) #[] #[]] 73)
    generalize ((w2.setCell ⟨w.heap.size + 1 + 1, 0, none⟩ (.int .i64 0)).setCell ⟨w.heap.size + 1 + 1, 1, none⟩ (.slice none 0 0)).alloc (.cells #[.func (Fn.func 53) #[] #[], .func (Fn.func 54) #[] #[], .func (Fn.func 55) #[] #[], .func (Fn.func 56) #[] #[]] 73) = wF at *
    obtain ⟨cF, fF, lF⟩ := kF.facts
    first
      | (have hE2 : chkE N vs = 0 := by simp_all
         have hv := Hz3.out hE hE2 (by omega)
         exact bodyPost_ret (v := .tuple #[.agg #[.int .i64 0, .slice none 0 0], .int .i64 (2)]) (by simp [results, Tryd.results29, go_sem, cF]) rfl ⟨none, 0, 0, by rw [hv], by rw [hv]; exact own_nil _ _ _ _, hBF⟩))
  have hE2 : chkE N vs = 0 := by simp_all
  have hop : 1 ≤ op ∧ op ≤ 4 := by omega
  obtain ⟨z0, z1, z2, _⟩ := chk_zero N ws hE
  obtain ⟨_, _, z2', _⟩ := chk_zero N vs hE2
  have hv := Hz4.out hE hE2 (by omega)
  clear Hz1 Hz2 Hz3 Hz4
  obtain ⟨N, rfl⟩ : ∃ q : Nat, N = q := ⟨N.toNat, by omega⟩
  simp only [Int.toNat_natCast] at hv
  rw [← combK_all N ws vs hs hs' op hE hE2, hlen] at hv
  have HV := Lib.hid hv
  have hN1 : N ≤ 1024 := by omega
  have hn17 : n ≤ 17 := by omega
  have hnn : n' = n := by omega
  subst hnn
  rename_i hsz
  clear hE hE2 hv z0 z1 z2 z2'
  have Hlen := Lib.hid hlen
  clear hlen hlen'
  have hmk := run_make_row' (P := Tryd.prog) 22 61 (.int .u64 0) 8 Tryd.underlying22 infoU rfl .i64 .i64 n' (by omega) (by omega)
  have hB2 := balloc (bnext hB1 hb2) (.cells #[.func (Fn.func 53) #[] #[], .func (Fn.func 54) #[] #[], .func (Fn.func 55) #[] #[], .func (Fn.func 56) #[] #[]] 73)
  have hr2 := (hr.below hb2 (Nat.le_refl _)).alloc (.cells #[.func (Fn.func 53) #[] #[], .func (Fn.func 54) #[] #[], .func (Fn.func 55) #[] #[], .func (Fn.func 56) #[] #[]] 73)
  have hr2' := (hr'.below hb2 (Nat.le_refl _)).alloc (.cells #[.func (Fn.func 53) #[] #[], .func (Fn.func 54) #[] #[], .func (Fn.func 55) #[] #[], .func (Fn.func 56) #[] #[]] 73)
  have hs2 := kR2.lt
  have kO := Bk.new w2 #[.func (Fn.func 53) #[] #[], .func (Fn.func 54) #[] #[], .func (Fn.func 55) #[] #[], .func (Fn.func 56) #[] #[]] 73
  replace kR2 := kR2.alloc (.cells #[.func (Fn.func 53) #[] #[], .func (Fn.func 54) #[] #[], .func (Fn.func 55) #[] #[], .func (Fn.func 56) #[] #[]] 73)
  replace kB := (kB.to hb2).alloc (.cells #[.func (Fn.func 53) #[] #[], .func (Fn.func 54) #[] #[], .func (Fn.func 55) #[] #[], .func (Fn.func 56) #[] #[]] 73)
  replace kC := (kC.to hb2).alloc (.cells #[.func (Fn.func 53) #[] #[], .func (Fn.func 54) #[] #[], .func (Fn.func 55) #[] #[], .func (Fn.func 56) #[] #[]] 73)
  clear cB fB lB cC fC lC cR fR lR kR hr hr' hB1 hb2
  generalize w2.alloc (.cells #[.func (Fn.func 53) #[] #[], .func (Fn.func 54) #[] #[], .func (Fn.func 55) #[] #[], .func (Fn.func 56) #[] #[]] 73) = w3 at *
  have cB0 := kB.cell 0
  have cB1 := kB.cell 1
  simp at cB0 cB1
  have hs3 := kO.lt
  go_cut [11] (fun s11 wx => ∃ p A2, s11 = .pointer (some ⟨p, 0, none⟩) ∧ w3.heap.size ≤ p ∧ Bk wx p #[.int .i64 N, .slice A2 n' n'] 24 ∧ wx.ownsRow w3.heap.size 61 1 (.slice A2 n' n') n' (uw (List.replicate n' 0)) ∧ (∀ g, A2 = some ⟨g, 0, none⟩ → g ≠ p) ∧ Below w3.heap.size w3 wx)
  case first =>
    go_region_held3 (fun w' => w'.cell? ⟨w.heap.size, 0, none⟩ = some (.int .i64 N) ∧ w'.cell? ⟨w.heap.size, 1, none⟩ = some (.slice A n' c))
      (refine ⟨?_, ?_⟩ <;> (repeat (with_reducible first | exact cB0 | exact cB1 | refine cell_alloc _ ?_ | refine cell_drew ?_ | refine cell_far ?_ (by simp; omega) _)))
      (first | fail)
    · go_wp2_with fail
      go_meet
      refine ⟨w3.heap.size + 1, _, rfl, by omega, ?_, (own_zeros w3 _ n' (by omega)).alloc _, ?_, below_drew (balloc (balloc (Below.refl _ _) _) _)⟩
      · have := Bk.new (w3.alloc (.cells (madeCells #[.int .u64 0] n') 61)) #[.int .i64 N, .slice (some ⟨w3.heap.size, 0, none⟩) n' n'] 24
        rw [World.size_alloc] at this
        exact this
      · intro g hg
        injection hg with hg
        injection hg with hg
        omega
    · go_wp2_with fail
      go_meet
      refine ⟨w3.heap.size, _, rfl, by omega, (Bk.new w3 _ _).alloc _, own_less (own_zeros_at (by simp) n' (by omega)) (Nat.le_succ _), ?_, below_drew (balloc (balloc (Below.refl _ _) _) _)⟩
      intro g hg
      injection hg with hg
      injection hg with hg
      omega
  case rest =>
    obtain ⟨p, A2, rfl, hp, kP, hown, hgp, hB⟩ := hcut
    clear hmk cB0 cB1
    have hlr : List.replicate n' 0 = combK ws vs op 0 := by rw [combK_zero, Hlen.out]
    rw [hlr] at hown
    clear hlr
    obtain ⟨cP, fP, lP⟩ := kP.facts
    go_wp2_with fail
    clear cP fP lP
    go_loopw [50] (fun i wr => ∃ k : Nat, k ≤ n' ∧ i = .int .i64 k ∧ Bk wr p #[.int .i64 N, .slice A2 n' n'] 24 ∧ wr.ownsRow w3.heap.size 61 1 (.slice A2 n' n') n' (uw (combK ws vs op k)) ∧ Below w3.heap.size w3 wr) (fun i _ => n' - (intOf i).toNat)
    case atStart => exact ⟨0, by omega, rfl, kP, hown, hB⟩
    case round =>
      clear hown hB kP
      obtain ⟨k, hk, rfl, kP, hown, hB⟩ := hrel
      obtain ⟨cP, fP, lP⟩ := kP.facts
      by_cases hlt : k < n'
      · obtain ⟨g, rfl, hg1, hg2⟩ := own_nat hown (by omega)
        have hgp' := hgp g rfl
        obtain ⟨b1, o1, x, rfl, hb1l, hx, hxs, hc1⟩ := (hr2.below hB (Nat.le_refl _)).word hs hlt
        obtain ⟨b2, o2, y, rfl, hb2l, hy, hys, hc2⟩ := (hr2'.below hB (Nat.le_refl _)).word hs' hlt
        have HS := Lib.hid (combK_succ ws vs op k (by rw [Hlen.out]; exact hlt))
        rw [hx, hy] at HS
        have hcw := own_word hown hlt
        generalize (combK ws vs op k).getD k 0 = z at hcw
        have hfw := hown.frozenAt k
        have hkI : (k : Int) < (n' : Int) := by omega
        have hoo : op = 1 ∨ op = 2 ∨ op = 3 ∨ op = 4 := by omega
        have cO := (kO.to hB).cell
        have cB1 := (kB.to hB).cell 1
        have cC1 := (kC.to hB).cell 1
        have cO0 := cO 0
        have cO1 := cO 1
        have cO2 := cO 2
        have cO3 := cO 3
        simp at cB1 cC1 cO0 cO1 cO2 cO3
        clear cO hx hy
        rcases hoo with rfl | rfl | rfl | rfl
        · have hw1 : IntKind.i64.wrap 0 = 0 := IntWalk.i64_in _ (by omega)
          go_wp2_with fail
          refine wp_region_still_tail 19 (by kernel_rfl) (by kernel_rfl) ?_
          simp only [List.take_succ_cons, List.take_zero, List.drop_succ_cons, List.drop_zero]
          repeat still_step
          still_call (op1_any _ _ _ hxs hys)
          repeat still_step
          refine wpStill_nil ?_
          change wpList _ _ _ _ _ wr.drew
          go_wp2
          go_roundw
          case rel =>
            refine ⟨k + 1, by omega, by go_num, kP.drew.far (by show p ≠ g; omega) _, ?_, (below_drew hB).setCell (by show w3.heap.size ≤ g; omega) _⟩
            rw [HS.out]
            exact own_put (w := wr.drew) hown k _ _ rfl
          case measure => simp [intOf]; omega
        · have hw2 : IntKind.i64.wrap 1 = 1 := IntWalk.i64_in _ (by omega)
          go_wp2_with fail
          refine wp_region_still_tail 19 (by kernel_rfl) (by kernel_rfl) ?_
          simp only [List.take_succ_cons, List.take_zero, List.drop_succ_cons, List.drop_zero]
          repeat still_step
          still_call (op2_any _ _ _ hxs hys)
          repeat still_step
          refine wpStill_nil ?_
          change wpList _ _ _ _ _ wr.drew
          go_wp2
          go_roundw
          case rel =>
            refine ⟨k + 1, by omega, by go_num, kP.drew.far (by show p ≠ g; omega) _, ?_, (below_drew hB).setCell (by show w3.heap.size ≤ g; omega) _⟩
            rw [HS.out]
            exact own_put (w := wr.drew) hown k _ _ rfl
          case measure => simp [intOf]; omega
        · have hw3 : IntKind.i64.wrap 2 = 2 := IntWalk.i64_in _ (by omega)
          go_wp2_with fail
          refine wp_region_still_tail 19 (by kernel_rfl) (by kernel_rfl) ?_
          simp only [List.take_succ_cons, List.take_zero, List.drop_succ_cons, List.drop_zero]
          repeat still_step
          still_call (op3_any _ _ _ hxs hys)
          repeat still_step
          refine wpStill_nil ?_
          change wpList _ _ _ _ _ wr.drew
          go_wp2
          go_roundw
          case rel =>
            refine ⟨k + 1, by omega, by go_num, kP.drew.far (by show p ≠ g; omega) _, ?_, (below_drew hB).setCell (by show w3.heap.size ≤ g; omega) _⟩
            rw [HS.out]
            exact own_put (w := wr.drew) hown k _ _ rfl
          case measure => simp [intOf]; omega
        · have hw4 : IntKind.i64.wrap 3 = 3 := IntWalk.i64_in _ (by omega)
          go_wp2_with fail
          refine wp_region_still_tail 19 (by kernel_rfl) (by kernel_rfl) ?_
          simp only [List.take_succ_cons, List.take_zero, List.drop_succ_cons, List.drop_zero]
          repeat still_step
          still_call (op4_any _ _ _ hxs hys)
          repeat still_step
          refine wpStill_nil ?_
          change wpList _ _ _ _ _ wr.drew
          go_wp2
          go_roundw
          case rel =>
            refine ⟨k + 1, by omega, by go_num, kP.drew.far (by show p ≠ g; omega) _, ?_, (below_drew hB).setCell (by show w3.heap.size ≤ g; omega) _⟩
            rw [HS.out]
            exact own_put (w := wr.drew) hown k _ _ rfl
          case measure => simp [intOf]; omega
      · obtain rfl : k = n' := by omega
        have kR := kR2.to hB
        have hB9 := bnext hB2 hB
        have hown9 := own_less hown (show w.heap.size + 1 + 1 + 1 ≤ w3.heap.size by omega)
        have kF := (kR.put 0 (.int .i64 N)).put 1 (.slice A2 k k)
        have hoF := own_far (own_far hown9 (p := ⟨w.heap.size + 1 + 1, 0, none⟩) (Nat.lt_succ_self _) (.int .i64 N)) (p := ⟨w.heap.size + 1 + 1, 1, none⟩) (Nat.lt_succ_self _) (.slice A2 k k)
        have hBF := (hB9.setCell (p := ⟨w.heap.size + 1 + 1, 0, none⟩) (by show w.heap.size ≤ w.heap.size + 1 + 1; omega) (.int .i64 N)).setCell (p := ⟨w.heap.size + 1 + 1, 1, none⟩) (by show w.heap.size ≤ w.heap.size + 1 + 1; omega) (.slice A2 k k)
        obtain ⟨cR, fR, lR⟩ := kR.facts
        clear hown hB
        go_wp2_with fail
        generalize (wr.setCell ⟨w.heap.size + 1 + 1, 0, none⟩ (.int .i64 N)).setCell ⟨w.heap.size + 1 + 1, 1, none⟩ (.slice A2 k k) = wF at *
        clear cR fR lR
        obtain ⟨cF, fF, lF⟩ := kF.facts
        exact bodyPost_ret (v := .tuple #[.agg #[.int .i64 N, .slice A2 k k], .int .i64 0]) (by simp [results, Tryd.results29, go_sem, cF]) rfl ⟨A2, k, k, by rw [HV.out], by rw [HV.out]; exact own_less hoF (by omega), hBF⟩

theorem Combine_any (N : Int) (A : Option Addr) (n c : Nat) (ws : List Nat) (M : Int) (A' : Option Addr) (n' c' : Nat) (vs : List Nat) (op : Int) (w : World) (hr : Rd w 1 A n (uw ws)) (hs : wsmall ws) (hn : n ≤ 1000000) (hr' : Rd w 1 A' n' (uw vs)) (hs' : wsmall vs) (hn' : n' ≤ 1000000) :
    Calls Tryd.prog 29 #[.agg #[.int .i64 N, .slice A n c], .agg #[.int .i64 M, .slice A' n' c'], .int .i64 op] w fun e w' => BitsRes w w' (combR N ws M vs op) e := by
  by_cases h : N = M
  · subst h
    exact Combine_eq N A n c ws A' n' c' vs op w hr hs hn hr' hs' hn'
  · exact Combine_ne N A n c ws M A' n' c' vs op w hr hs hn hr' hs' hn' h
end Go.Proofs.YtihbdndigfnhkaaDoor
