/- The functions of addr that the statements of chapter 3 with texts reach. -/
import Derived.Test.YtmaebbbaooodaaaDoorAddr
namespace Go.Proofs.YtmaebbbaooodaaaDoor
open Go Go.Proofs Go.RowKit
set_option linter.unusedSimpArgs false
set_option linter.unusedVariables false

theorem rCheck_ok (a b : Int) (w : World) (h0 : 0 ≤ a) (h1 : a ≤ b) (h2 : b < 64) :
    Calls Tryd.prog 24 #[.agg #[.int .i64 a, .int .i64 b]] w fun e w' => e = .returned (.int .i64 0) ∧ w.alloc (.cells #[.int .i64 a, .int .i64 b] 23) = w' := by
  go_enter Tryd.func24, Tryd.ntmps24
  go_wp2
  go_ret
  exact ⟨rfl, rfl⟩

theorem rCheck_bad (a b : Int) (w : World) (h : a < 0 ∨ b < a ∨ 64 ≤ b) :
    Calls Tryd.prog 24 #[.agg #[.int .i64 a, .int .i64 b]] w fun e w' => e = .returned (.int .i64 2) ∧ w.alloc (.cells #[.int .i64 a, .int .i64 b] 23) = w' := by
  by_cases c : a < 0
  · go_enter Tryd.func24, Tryd.ntmps24
    go_wp2
    go_ret
    exact ⟨rfl, rfl⟩
  by_cases d : b < a
  · go_enter Tryd.func24, Tryd.ntmps24
    go_wp2
    go_ret
    exact ⟨rfl, rfl⟩
  have f : 64 ≤ b := by omega
  clear h
  go_enter Tryd.func24, Tryd.ntmps24
  go_wp2
  go_ret
  exact ⟨rfl, rfl⟩

theorem Where_ok (p : Int) (w : World) (h0 : 0 ≤ p) (h1 : p < 512) :
    Calls Tryd.prog 15 #[.int .i64 p] w fun e w' => e = .returned (.tuple #[.int .i64 (p / 8), .int .i64 (p % 8), .int .i64 0]) ∧ w = w' := by
  go_enter Tryd.func15, Tryd.ntmps15
  go_wp2
  rw [and7 p (by omega) (by omega)]
  go_ret3
  exact ⟨rfl, rfl⟩

theorem Where_bad (p : Int) (w : World) (h : p < 0 ∨ 512 ≤ p) :
    Calls Tryd.prog 15 #[.int .i64 p] w fun e w' => e = .returned (.tuple #[.int .i64 0, .int .i64 0, .int .i64 2]) ∧ w = w' := by
  rcases h with h | h
  all_goals
    go_enter Tryd.func15, Tryd.ntmps15
    go_wp2
    go_ret3
    exact ⟨rfl, rfl⟩

theorem Address_ok (l i : Int) (w : World) (h0 : 0 ≤ l) (h1 : l < 64) (h2 : 0 ≤ i) (h3 : i < 8) :
    Calls Tryd.prog 14 #[.int .i64 l, .int .i64 i] w fun e w' => e = .returned (.tuple #[.int .i64 (l * 8 + i), .int .i64 0]) ∧ w = w' := by
  go_enter Tryd.func14, Tryd.ntmps14
  go_wp2
  rw [or_lo l i (by omega) (by omega) (by omega) (by omega)]
  go_ret2
  exact ⟨rfl, rfl⟩

theorem Address_bad (l i : Int) (w : World) (h : l < 0 ∨ 64 ≤ l ∨ i < 0 ∨ 8 ≤ i) :
    Calls Tryd.prog 14 #[.int .i64 l, .int .i64 i] w fun e w' => e = .returned (.tuple #[.int .i64 0, .int .i64 2]) ∧ w = w' := by
  by_cases a : l < 0
  · go_enter Tryd.func14, Tryd.ntmps14
    go_wp2
    go_ret2
    exact ⟨rfl, rfl⟩
  by_cases b : 64 ≤ l
  · go_enter Tryd.func14, Tryd.ntmps14
    go_wp2
    go_ret2
    exact ⟨rfl, rfl⟩
  by_cases c : i < 0
  · go_enter Tryd.func14, Tryd.ntmps14
    go_wp2
    go_ret2
    exact ⟨rfl, rfl⟩
  have d : 8 ≤ i := by omega
  clear h
  go_enter Tryd.func14, Tryd.ntmps14
  go_wp2
  go_ret2
  exact ⟨rfl, rfl⟩

set_option maxHeartbeats 400000 in
theorem Overlap_none (a b c d : Int) (w : World) (h0 : 0 ≤ a) (h1 : a ≤ b) (h2 : b < 64) (g0 : 0 ≤ c) (g1 : c ≤ d) (g2 : d < 64) (h : min b d < max a c) :
    Calls Tryd.prog 20 #[.agg #[.int .i64 a, .int .i64 b], .agg #[.int .i64 c, .int .i64 d]] w fun e w' => e = .returned (.tuple #[.agg #[.int .i64 0, .int .i64 0], .bool false, .int .i64 0]) ∧ Below w.heap.size w w' := by
  go_enter Tryd.func20, Tryd.ntmps20
  go_wp2_with (go_at_call 22; first | (with_reducible refine (Check_ok _ _ _ h0 h1 h2).mono ?_; rintro e w' ⟨rfl, rfl⟩) | (with_reducible refine (Check_ok _ _ _ g0 g1 g2).mono ?_; rintro e w' ⟨rfl, rfl⟩))
  all_goals exact bodyPost_ret (v := .tuple #[.agg #[.int .i64 0, .int .i64 0], .bool false, .int .i64 0]) (by simp [results, Tryd.results20, go_sem]) rfl ⟨rfl, by (repeat' (first | exact Below.refl _ _ | assumption | refine Below.alloc ?_ (by (try simp) <;> omega) _ | refine Below.setCell ?_ (by (try simp) <;> omega) _ | refine below_drawn ?_ _))⟩

set_option maxHeartbeats 400000 in
theorem Overlap_some (a b c d : Int) (w : World) (h0 : 0 ≤ a) (h1 : a ≤ b) (h2 : b < 64) (g0 : 0 ≤ c) (g1 : c ≤ d) (g2 : d < 64) (h : max a c ≤ min b d) :
    Calls Tryd.prog 20 #[.agg #[.int .i64 a, .int .i64 b], .agg #[.int .i64 c, .int .i64 d]] w fun e w' => e = .returned (.tuple #[.agg #[.int .i64 (max a c), .int .i64 (min b d)], .bool true, .int .i64 0]) ∧ Below w.heap.size w w' := by
  go_enter Tryd.func20, Tryd.ntmps20
  go_wp2_with (go_at_call 22; first | (with_reducible refine (Check_ok _ _ _ h0 h1 h2).mono ?_; rintro e w' ⟨rfl, rfl⟩) | (with_reducible refine (Check_ok _ _ _ g0 g1 g2).mono ?_; rintro e w' ⟨rfl, rfl⟩))
  all_goals exact bodyPost_ret (v := .tuple #[.agg #[.int .i64 (max a c), .int .i64 (min b d)], .bool true, .int .i64 0]) (by simp [results, Tryd.results20, go_sem]; omega) rfl ⟨rfl, by (repeat' (first | exact Below.refl _ _ | assumption | refine Below.alloc ?_ (by (try simp) <;> omega) _ | refine Below.setCell ?_ (by (try simp) <;> omega) _ | refine below_drawn ?_ _))⟩

set_option maxHeartbeats 400000 in
theorem Overlap_bad (a b c d : Int) (w : World) (h : (a < 0 ∨ b < a ∨ 64 ≤ b) ∨ (c < 0 ∨ d < c ∨ 64 ≤ d)) :
    Calls Tryd.prog 20 #[.agg #[.int .i64 a, .int .i64 b], .agg #[.int .i64 c, .int .i64 d]] w fun e w' => e = .returned (.tuple #[.agg #[.int .i64 0, .int .i64 0], .bool false, .int .i64 2]) ∧ Below w.heap.size w w' := by
  by_cases hv : a < 0 ∨ b < a ∨ 64 ≤ b
  · have H := Lib.hid hv
    clear h hv
    go_enter Tryd.func20, Tryd.ntmps20
    go_wp2_with (go_at_call 22; refine (Check_bad _ _ _ H.out).mono ?_; rintro e w' ⟨rfl, rfl⟩)
    all_goals exact bodyPost_ret (v := .tuple #[.agg #[.int .i64 0, .int .i64 0], .bool false, .int .i64 2]) (by simp [results, Tryd.results20, go_sem]) rfl ⟨rfl, by (repeat' (first | exact Below.refl _ _ | assumption | refine Below.alloc ?_ (by (try simp) <;> omega) _ | refine Below.setCell ?_ (by (try simp) <;> omega) _ | refine below_drawn ?_ _))⟩
  · have h0 : 0 ≤ a := by omega
    have h1 : a ≤ b := by omega
    have h2 : b < 64 := by omega
    have H := Lib.hid (h.resolve_left hv)
    clear h hv
    go_enter Tryd.func20, Tryd.ntmps20
    go_wp2_with fail
    refine (Check_ok _ _ _ h0 h1 h2).mono ?_
    rintro e w' ⟨rfl, rfl⟩
    go_wp2_with fail
    refine (Check_bad _ _ _ H.out).mono ?_
    rintro e w' ⟨rfl, rfl⟩
    go_wp2_with fail
    all_goals exact bodyPost_ret (v := .tuple #[.agg #[.int .i64 0, .int .i64 0], .bool false, .int .i64 2]) (by simp [results, Tryd.results20, go_sem]) rfl ⟨rfl, by (repeat' (first | exact Below.refl _ _ | assumption | refine Below.alloc ?_ (by (try simp) <;> omega) _ | refine Below.setCell ?_ (by (try simp) <;> omega) _ | refine below_drawn ?_ _))⟩

def checkE (a b : Int) : Int := if 0 ≤ a ∧ a ≤ b ∧ b < 64 then 0 else 2
theorem Check_any (a b : Int) (w : World) :
    Calls Tryd.prog 22 #[.agg #[.int .i64 a, .int .i64 b]] w fun e w' => e = .returned (.int .i64 (checkE a b)) ∧ Below w.heap.size w w' := by
  unfold checkE
  by_cases h : 0 ≤ a ∧ a ≤ b ∧ b < 64
  · simp only [if_pos h]; exact Check_okB a b w h.1 h.2.1 h.2.2
  · simp only [if_neg h]; exact Check_badB a b w (by omega)
theorem rCheck_any (a b : Int) (w : World) :
    Calls Tryd.prog 24 #[.agg #[.int .i64 a, .int .i64 b]] w fun e w' => e = .returned (.int .i64 (checkE a b)) ∧ Below w.heap.size w w' := by
  unfold checkE
  by_cases h : 0 ≤ a ∧ a ≤ b ∧ b < 64
  · simp only [if_pos h]; exact (rCheck_ok a b w h.1 h.2.1 h.2.2).mono fun _ _ ⟨he, hw⟩ => ⟨he, by rw [← hw]; (repeat' (first | exact Below.refl _ _ | assumption | refine balloc ?_ _ | refine below_drawn ?_ _ | refine below_drew ?_ | refine bnext ?_ hb24 | refine bnext ?_ hb23 | refine bnext ?_ hb22 | refine bnext ?_ hb21 | refine bnext ?_ hb20 | refine bnext ?_ hb19 | refine bnext ?_ hb18 | refine bnext ?_ hb17 | refine bnext ?_ hb16 | refine bnext ?_ hb15 | refine bnext ?_ hb14 | refine bnext ?_ hb13 | refine bnext ?_ hb12 | refine bnext ?_ hb11 | refine bnext ?_ hb10 | refine bnext ?_ hb9 | refine bnext ?_ hb8 | refine bnext ?_ hb7 | refine bnext ?_ hb6 | refine bnext ?_ hb5 | refine bnext ?_ hb4 | refine bnext ?_ hb3 | refine bnext ?_ hb2 | refine bnext ?_ hb1))⟩
  · simp only [if_neg h]; exact (rCheck_bad a b w (by omega)).mono fun _ _ ⟨he, hw⟩ => ⟨he, by rw [← hw]; (repeat' (first | exact Below.refl _ _ | assumption | refine balloc ?_ _ | refine below_drawn ?_ _ | refine below_drew ?_ | refine bnext ?_ hb24 | refine bnext ?_ hb23 | refine bnext ?_ hb22 | refine bnext ?_ hb21 | refine bnext ?_ hb20 | refine bnext ?_ hb19 | refine bnext ?_ hb18 | refine bnext ?_ hb17 | refine bnext ?_ hb16 | refine bnext ?_ hb15 | refine bnext ?_ hb14 | refine bnext ?_ hb13 | refine bnext ?_ hb12 | refine bnext ?_ hb11 | refine bnext ?_ hb10 | refine bnext ?_ hb9 | refine bnext ?_ hb8 | refine bnext ?_ hb7 | refine bnext ?_ hb6 | refine bnext ?_ hb5 | refine bnext ?_ hb4 | refine bnext ?_ hb3 | refine bnext ?_ hb2 | refine bnext ?_ hb1))⟩
end Go.Proofs.YtmaebbbaooodaaaDoor
