/- Sets in new memory, equal sets. -/
import Derived.Test.YtihbdndigfnhkaaDoorBit17
namespace Go.Proofs.YtihbdndigfnhkaaDoor
open Go Go.Proofs Go.RowKit
set_option linter.unusedSimpArgs false
set_option linter.unusedVariables false

set_option maxHeartbeats 400000 in
theorem SameWords_eq (A B : Option Addr) (n c d : Nat) (ws : List Nat) (w : World) (ha : Rd w 1 A n (uw ws)) (hb : Rd w 1 B n (uw ws)) (hs : wsmall ws) (hn : n ≤ 1000000) :
    Calls Tryd.prog 42 #[.slice A n c, .slice B n d] w fun e w' => e = .returned (.bool true) ∧ Below w.heap.size w w' := by
  go_enter Tryd.func42, Tryd.ntmps42
  go_wp2
  go_loopw [5] (fun i wr => ∃ k : Nat, k ≤ n ∧ i = .int .i64 k ∧ Below w.heap.size w wr) (fun i _ => n - (intOf i).toNat)
  case atStart => exact ⟨0, Nat.zero_le _, rfl, Below.refl _ _⟩
  case round =>
    obtain ⟨k, hk, rfl, hbw⟩ := hrel
    by_cases hlt : k < n
    · obtain ⟨b, off, x, rfl, hbl, hx, hxl, hc1⟩ := (ha.below hbw (Nat.le_refl _)).word hs hlt
      obtain ⟨b', off', x', rfl, hbl', hx', hxl', hc1'⟩ := (hb.below hbw (Nat.le_refl _)).word hs hlt
      rw [hx] at hx'
      subst hx'
      clear hx ha hb
      go_wp2_with fail
      go_quiet (fail)
      go_wp2
      go_roundw
      case rel => exact ⟨k + 1, by omega, by go_num, below_drawn hbw _⟩
      case measure => simp [intOf]; omega
    · go_wp2
      go_ret
      exact ⟨rfl, hbw⟩

theorem SameBits_eq (N : Int) (A B : Option Addr) (n c d : Nat) (ws : List Nat) (w : World) (ha : Rd w 1 A n (uw ws)) (hb : Rd w 1 B n (uw ws)) (hs : wsmall ws) (hn : n ≤ 1000000) :
    Calls Tryd.prog 18 #[.agg #[.int .i64 N, .slice A n c], .agg #[.int .i64 N, .slice B n d]] w fun e w' => e = .returned (.bool true) ∧ Below w.heap.size w w' := by
  go_enter Tryd.func18, Tryd.ntmps18
  go_wp2_with (go_at_call 42; refine (SameWords_eq _ _ _ _ _ ws _ ((ha.alloc _).alloc _) ((hb.alloc _).alloc _) hs hn).mono ?_; rintro e w1 ⟨rfl, hb1⟩)
  go_ret
  exact ⟨rfl, by (repeat' (first | exact Below.refl _ _ | assumption | refine balloc ?_ _ | refine below_drawn ?_ _ | refine below_drew ?_ | refine bnext ?_ hb24 | refine bnext ?_ hb23 | refine bnext ?_ hb22 | refine bnext ?_ hb21 | refine bnext ?_ hb20 | refine bnext ?_ hb19 | refine bnext ?_ hb18 | refine bnext ?_ hb17 | refine bnext ?_ hb16 | refine bnext ?_ hb15 | refine bnext ?_ hb14 | refine bnext ?_ hb13 | refine bnext ?_ hb12 | refine bnext ?_ hb11 | refine bnext ?_ hb10 | refine bnext ?_ hb9 | refine bnext ?_ hb8 | refine bnext ?_ hb7 | refine bnext ?_ hb6 | refine bnext ?_ hb5 | refine bnext ?_ hb4 | refine bnext ?_ hb3 | refine bnext ?_ hb2 | refine bnext ?_ hb1))⟩

theorem OwnWords_any (A : Option Addr) (n c : Nat) (ws : List Nat) (w : World) (hr : Rd w 1 A n (uw ws)) (hn : n ≤ 1000000) :
    Calls Tryd.prog 43 #[.slice A n c] w fun e w' => ∃ A' c', e = .returned (.slice A' n c') ∧ w'.ownsRow w.heap.size 61 1 (.slice A' n c') n (uw ws) ∧ Below w.heap.size w w' := by
  obtain ⟨i0, hi, hz0, hz1, hz2⟩ := info_parts infoU
  go_enter Tryd.func43, Tryd.ntmps43
  go_wp2_with (at_builtin; refine wpList_append_rd _ rfl _ _ 22 rfl w.heap.size 61 i0 (.int .u64 0) 1 8 Tryd.underlying22 hi hz0 hz1 hz2 rfl (by decide) _ _ _ rfl (own_empty w 61 1) _ n c (uw ws) rfl (hr.alloc _) (oneCells_uw _) (by simp only [maxLen]; omega) (by omega) (by simp) ?_; intro v' w1 hown' hgrow)
  go_ret
  rw [Nat.zero_add, List.nil_append] at hown'
  obtain ⟨A', c', rfl, _⟩ := own_slice hown'
  exact ⟨_, _, rfl, hown', (((Below.refl _ w).alloc (Nat.le_refl _) _).grown hgrow (by simp) (fun k e => by cases e; exact Nat.le_refl _))⟩

set_option maxHeartbeats 1000000 in
theorem OwnBits_any (N : Int) (A : Option Addr) (n c : Nat) (ws : List Nat) (w : World) (hr : Rd w 1 A n (uw ws)) (hn : n ≤ 1000000) :
    Calls Tryd.prog 13 #[.agg #[.int .i64 N, .slice A n c]] w fun e w' => ∃ A' c', e = .returned (.agg #[.int .i64 N, .slice A' n c']) ∧ w'.ownsRow w.heap.size 61 1 (.slice A' n c') n (uw ws) ∧ Below w.heap.size w w' := by
  go_enter Tryd.func13, Tryd.ntmps13
  go_wp2_with fail
  have kB := (Bk.new w #[.int .i64 N, .slice A n c] 24).alloc (.cells #[.int .i64 0, .slice none 0 0] 24)
  have kR := Bk.new (w.alloc (.cells #[.int .i64 N, .slice A n c] 24)) #[.int .i64 0, .slice none 0 0] 24
  rw [World.size_alloc] at kR
  have hB1 : Below w.heap.size w ((w.alloc (.cells #[.int .i64 N, .slice A n c] 24)).alloc (.cells #[.int .i64 0, .slice none 0 0] 24)) := by (repeat' (first | exact Below.refl _ _ | assumption | refine balloc ?_ _ | refine below_drawn ?_ _ | refine below_drew ?_ | refine bnext ?_ hb24 | refine bnext ?_ hb23 | refine bnext ?_ hb22 | refine bnext ?_ hb21 | refine bnext ?_ hb20 | refine bnext ?_ hb19 | refine bnext ?_ hb18 | refine bnext ?_ hb17 | refine bnext ?_ hb16 | refine bnext ?_ hb15 | refine bnext ?_ hb14 | refine bnext ?_ hb13 | refine bnext ?_ hb12 | refine bnext ?_ hb11 | refine bnext ?_ hb10 | refine bnext ?_ hb9 | refine bnext ?_ hb8 | refine bnext ?_ hb7 | refine bnext ?_ hb6 | refine bnext ?_ hb5 | refine bnext ?_ hb4 | refine bnext ?_ hb3 | refine bnext ?_ hb2 | refine bnext ?_ hb1))
  have hr1 := (hr.alloc (.cells #[.int .i64 N, .slice A n c] 24)).alloc (.cells #[.int .i64 0, .slice none 0 0] 24)
  generalize (w.alloc (.cells #[.int .i64 N, .slice A n c] 24)).alloc (.cells #[.int .i64 0, .slice none 0 0] 24) = w1 at *
  have hs1 := kR.lt
  have cB0 := kB.cell 0
  have cB1 := kB.cell 1
  simp at cB0 cB1
  go_region_held3 (fun w' => w'.cell? ⟨w.heap.size, 0, none⟩ = some (.int .i64 N) ∧ w'.cell? ⟨w.heap.size, 1, none⟩ = some (.slice A n c))
      (refine ⟨?_, ?_⟩ <;> (repeat (with_reducible first | exact cB0 | exact cB1 | refine cell_alloc _ ?_ | refine cell_drew ?_ | refine cell_later hb2 ?_ | refine cell_far ?_ (by simp) _)))
      (first
        | (go_at_call 43; refine (OwnWords_any A n c ws _ hr1.drew hn).mono ?_; rintro e w2 ⟨A2, c2, rfl, hown, hb2⟩; have kR2 := kR.drew.to hb2; obtain ⟨cR, fR, lR⟩ := kR2.facts))
  have kF := (kR2.put 0 (.int .i64 N)).put 1 (.slice A2 n c2)
  have hown0 : w2.ownsRow (w.heap.size + 2) 61 1 (.slice A2 n c2) n (uw ws) := own_less hown hs1
  have hoF := own_far (own_far hown0 (p := ⟨w.heap.size + 1, 0, none⟩) (Nat.lt_succ_self _) (.int .i64 N)) (p := ⟨w.heap.size + 1, 1, none⟩) (Nat.lt_succ_self _) (.slice A2 n c2)
  have hBF := ((bnext (below_drew hB1) hb2).setCell (p := ⟨w.heap.size + 1, 0, none⟩) (by show w.heap.size ≤ w.heap.size + 1; omega) (.int .i64 N)).setCell (p := ⟨w.heap.size + 1, 1, none⟩) (by show w.heap.size ≤ w.heap.size + 1; omega) (.slice A2 n c2)
  go_wp2_with fail
  generalize (w2.setCell ⟨w.heap.size + 1, 0, none⟩ (.int .i64 N)).setCell ⟨w.heap.size + 1, 1, none⟩ (.slice A2 n c2) = wF at *
  clear cR fR lR
  obtain ⟨cF, fF, lF⟩ := kF.facts
  exact bodyPost_ret (v := .agg #[.int .i64 N, .slice A2 n c2]) (by simp [results, Tryd.results13, go_sem, cF]) rfl ⟨A2, c2, rfl, own_less hoF (by omega), hBF⟩
end Go.Proofs.YtihbdndigfnhkaaDoor
