/- The functions of addr and of its reference that only the statements of chapter 3 reach. -/
import Derived.Test.YtmaebbbaooodaaaAddr
namespace Go.Proofs.Ytmaebbbaooodaaa
open Go Go.Proofs Go.RowKit

theorem rCheck_ok (a b : Int) (w : World) (h0 : 0 ≤ a) (h1 : a ≤ b) (h2 : b < 64) :
    Calls Try.prog 24 #[.agg #[.int .i64 a, .int .i64 b]] w fun e w' => e = .returned (.int .i64 0) ∧ w.alloc (.cells #[.int .i64 a, .int .i64 b] 23) = w' := by
  go_enter Try.func24, Try.ntmps24
  go_wp2
  go_ret
  exact ⟨rfl, rfl⟩

theorem rCheck_bad (a b : Int) (w : World) (h : a < 0 ∨ b < a ∨ 64 ≤ b) :
    Calls Try.prog 24 #[.agg #[.int .i64 a, .int .i64 b]] w fun e w' => e = .returned (.int .i64 2) ∧ w.alloc (.cells #[.int .i64 a, .int .i64 b] 23) = w' := by
  by_cases c : a < 0
  · go_enter Try.func24, Try.ntmps24
    go_wp2
    go_ret
    exact ⟨rfl, rfl⟩
  by_cases d : b < a
  · go_enter Try.func24, Try.ntmps24
    go_wp2
    go_ret
    exact ⟨rfl, rfl⟩
  have f : 64 ≤ b := by omega
  clear h
  go_enter Try.func24, Try.ntmps24
  go_wp2
  go_ret
  exact ⟨rfl, rfl⟩

theorem Where_ok (p : Int) (w : World) (h0 : 0 ≤ p) (h1 : p < 512) :
    Calls Try.prog 14 #[.int .i64 p] w fun e w' => e = .returned (.tuple #[.int .i64 (p / 8), .int .i64 (p % 8), .int .i64 0]) ∧ w = w' := by
  go_enter Try.func14, Try.ntmps14
  go_wp2
  rw [and7 p (by omega) (by omega)]
  go_ret3
  exact ⟨rfl, rfl⟩

theorem Where_bad (p : Int) (w : World) (h : p < 0 ∨ 512 ≤ p) :
    Calls Try.prog 14 #[.int .i64 p] w fun e w' => e = .returned (.tuple #[.int .i64 0, .int .i64 0, .int .i64 2]) ∧ w = w' := by
  rcases h with h | h
  all_goals
    go_enter Try.func14, Try.ntmps14
    go_wp2
    go_ret3
    exact ⟨rfl, rfl⟩

theorem rWhere_ok (p : Int) (w : World) (h0 : 0 ≤ p) (h1 : p < 512) :
    Calls Try.prog 15 #[.int .i64 p] w fun e w' => e = .returned (.tuple #[.int .i64 (p / 8), .int .i64 (p % 8), .int .i64 0]) ∧ w = w' := by
  go_enter Try.func15, Try.ntmps15
  go_wp2
  go_ret3
  exact ⟨rfl, rfl⟩

theorem rWhere_bad (p : Int) (w : World) (h : p < 0 ∨ 512 ≤ p) :
    Calls Try.prog 15 #[.int .i64 p] w fun e w' => e = .returned (.tuple #[.int .i64 0, .int .i64 0, .int .i64 2]) ∧ w = w' := by
  rcases h with h | h
  all_goals
    go_enter Try.func15, Try.ntmps15
    go_wp2
    go_ret3
    exact ⟨rfl, rfl⟩

theorem rLeaf_ok (p : Int) (w : World) (h0 : 0 ≤ p) (h1 : p < 64) :
    Calls Try.prog 13 #[.int .i64 p] w fun e w' => e = .returned (.tuple #[.int .i64 (p / 8), .int .i64 (p % 8), .int .i64 0]) ∧ w = w' := by
  go_enter Try.func13, Try.ntmps13
  go_wp2
  go_ret3
  exact ⟨rfl, rfl⟩

theorem rLeaf_bad (p : Int) (w : World) (h : p < 0 ∨ 64 ≤ p) :
    Calls Try.prog 13 #[.int .i64 p] w fun e w' => e = .returned (.tuple #[.int .i64 0, .int .i64 0, .int .i64 2]) ∧ w = w' := by
  rcases h with h | h
  all_goals
    go_enter Try.func13, Try.ntmps13
    go_wp2
    go_ret3
    exact ⟨rfl, rfl⟩

theorem Address_ok (l i : Int) (w : World) (h0 : 0 ≤ l) (h1 : l < 64) (h2 : 0 ≤ i) (h3 : i < 8) :
    Calls Try.prog 18 #[.int .i64 l, .int .i64 i] w fun e w' => e = .returned (.tuple #[.int .i64 (l * 8 + i), .int .i64 0]) ∧ w = w' := by
  go_enter Try.func18, Try.ntmps18
  go_wp2
  rw [or_lo l i (by omega) (by omega) (by omega) (by omega)]
  go_ret2
  exact ⟨rfl, rfl⟩

theorem Address_bad (l i : Int) (w : World) (h : l < 0 ∨ 64 ≤ l ∨ i < 0 ∨ 8 ≤ i) :
    Calls Try.prog 18 #[.int .i64 l, .int .i64 i] w fun e w' => e = .returned (.tuple #[.int .i64 0, .int .i64 2]) ∧ w = w' := by
  by_cases a : l < 0
  · go_enter Try.func18, Try.ntmps18
    go_wp2
    go_ret2
    exact ⟨rfl, rfl⟩
  by_cases b : 64 ≤ l
  · go_enter Try.func18, Try.ntmps18
    go_wp2
    go_ret2
    exact ⟨rfl, rfl⟩
  by_cases c : i < 0
  · go_enter Try.func18, Try.ntmps18
    go_wp2
    go_ret2
    exact ⟨rfl, rfl⟩
  have d : 8 ≤ i := by omega
  clear h
  go_enter Try.func18, Try.ntmps18
  go_wp2
  go_ret2
  exact ⟨rfl, rfl⟩

theorem rAddress_ok (l i : Int) (w : World) (h0 : 0 ≤ l) (h1 : l < 64) (h2 : 0 ≤ i) (h3 : i < 8) :
    Calls Try.prog 19 #[.int .i64 l, .int .i64 i] w fun e w' => e = .returned (.tuple #[.int .i64 (l * 8 + i), .int .i64 0]) ∧ w = w' := by
  go_enter Try.func19, Try.ntmps19
  go_wp2
  go_ret2
  exact ⟨rfl, rfl⟩

theorem rAddress_bad (l i : Int) (w : World) (h : l < 0 ∨ 64 ≤ l ∨ i < 0 ∨ 8 ≤ i) :
    Calls Try.prog 19 #[.int .i64 l, .int .i64 i] w fun e w' => e = .returned (.tuple #[.int .i64 0, .int .i64 2]) ∧ w = w' := by
  by_cases a : l < 0
  · go_enter Try.func19, Try.ntmps19
    go_wp2
    go_ret2
    exact ⟨rfl, rfl⟩
  by_cases b : 64 ≤ l
  · go_enter Try.func19, Try.ntmps19
    go_wp2
    go_ret2
    exact ⟨rfl, rfl⟩
  by_cases c : i < 0
  · go_enter Try.func19, Try.ntmps19
    go_wp2
    go_ret2
    exact ⟨rfl, rfl⟩
  have d : 8 ≤ i := by omega
  clear h
  go_enter Try.func19, Try.ntmps19
  go_wp2
  go_ret2
  exact ⟨rfl, rfl⟩

theorem rPage_ok (l i : Int) (w : World) (h0 : 0 ≤ l) (h1 : l < 8) (h2 : 0 ≤ i) (h3 : i < 8) :
    Calls Try.prog 17 #[.int .i64 l, .int .i64 i] w fun e w' => e = .returned (.tuple #[.int .i64 (l * 8 + i), .int .i64 0]) ∧ w = w' := by
  go_enter Try.func17, Try.ntmps17
  go_wp2
  go_ret2
  exact ⟨rfl, rfl⟩

theorem rPage_bad (l i : Int) (w : World) (h : l < 0 ∨ 8 ≤ l ∨ i < 0 ∨ 8 ≤ i) :
    Calls Try.prog 17 #[.int .i64 l, .int .i64 i] w fun e w' => e = .returned (.tuple #[.int .i64 0, .int .i64 2]) ∧ w = w' := by
  by_cases a : l < 0
  · go_enter Try.func17, Try.ntmps17
    go_wp2
    go_ret2
    exact ⟨rfl, rfl⟩
  by_cases b : 8 ≤ l
  · go_enter Try.func17, Try.ntmps17
    go_wp2
    go_ret2
    exact ⟨rfl, rfl⟩
  by_cases c : i < 0
  · go_enter Try.func17, Try.ntmps17
    go_wp2
    go_ret2
    exact ⟨rfl, rfl⟩
  have d : 8 ≤ i := by omega
  clear h
  go_enter Try.func17, Try.ntmps17
  go_wp2
  go_ret2
  exact ⟨rfl, rfl⟩

set_option maxHeartbeats 400000 in
theorem Overlap_none (a b c d : Int) (w : World) (h0 : 0 ≤ a) (h1 : a ≤ b) (h2 : b < 64) (g0 : 0 ≤ c) (g1 : c ≤ d) (g2 : d < 64) (h : min b d < max a c) :
    Calls Try.prog 10 #[.agg #[.int .i64 a, .int .i64 b], .agg #[.int .i64 c, .int .i64 d]] w fun e w' => e = .returned (.tuple #[.agg #[.int .i64 0, .int .i64 0], .bool false, .int .i64 0]) ∧ Below w.heap.size w w' := by
  go_enter Try.func10, Try.ntmps10
  go_wp2_with (go_at_call 23; first | (with_reducible refine (Check_ok _ _ _ h0 h1 h2).mono ?_; rintro e w' ⟨rfl, rfl⟩) | (with_reducible refine (Check_ok _ _ _ g0 g1 g2).mono ?_; rintro e w' ⟨rfl, rfl⟩))
  all_goals exact bodyPost_ret (v := .tuple #[.agg #[.int .i64 0, .int .i64 0], .bool false, .int .i64 0]) (by simp [results, Try.results10, go_sem]) rfl ⟨rfl, by (repeat' (first | exact Below.refl _ _ | assumption | refine Below.alloc ?_ (by (try simp) <;> omega) _ | refine Below.setCell ?_ (by (try simp) <;> omega) _ | refine below_drawn ?_ _))⟩

set_option maxHeartbeats 400000 in
theorem Overlap_some (a b c d : Int) (w : World) (h0 : 0 ≤ a) (h1 : a ≤ b) (h2 : b < 64) (g0 : 0 ≤ c) (g1 : c ≤ d) (g2 : d < 64) (h : max a c ≤ min b d) :
    Calls Try.prog 10 #[.agg #[.int .i64 a, .int .i64 b], .agg #[.int .i64 c, .int .i64 d]] w fun e w' => e = .returned (.tuple #[.agg #[.int .i64 (max a c), .int .i64 (min b d)], .bool true, .int .i64 0]) ∧ Below w.heap.size w w' := by
  go_enter Try.func10, Try.ntmps10
  go_wp2_with (go_at_call 23; first | (with_reducible refine (Check_ok _ _ _ h0 h1 h2).mono ?_; rintro e w' ⟨rfl, rfl⟩) | (with_reducible refine (Check_ok _ _ _ g0 g1 g2).mono ?_; rintro e w' ⟨rfl, rfl⟩))
  all_goals exact bodyPost_ret (v := .tuple #[.agg #[.int .i64 (max a c), .int .i64 (min b d)], .bool true, .int .i64 0]) (by simp [results, Try.results10, go_sem]; omega) rfl ⟨rfl, by (repeat' (first | exact Below.refl _ _ | assumption | refine Below.alloc ?_ (by (try simp) <;> omega) _ | refine Below.setCell ?_ (by (try simp) <;> omega) _ | refine below_drawn ?_ _))⟩

set_option maxHeartbeats 400000 in
theorem Overlap_bad (a b c d : Int) (w : World) (h : (a < 0 ∨ b < a ∨ 64 ≤ b) ∨ (c < 0 ∨ d < c ∨ 64 ≤ d)) :
    Calls Try.prog 10 #[.agg #[.int .i64 a, .int .i64 b], .agg #[.int .i64 c, .int .i64 d]] w fun e w' => e = .returned (.tuple #[.agg #[.int .i64 0, .int .i64 0], .bool false, .int .i64 2]) ∧ Below w.heap.size w w' := by
  by_cases hv : a < 0 ∨ b < a ∨ 64 ≤ b
  · have H := Lib.hid hv
    clear h hv
    go_enter Try.func10, Try.ntmps10
    go_wp2_with (go_at_call 23; refine (Check_bad _ _ _ H.out).mono ?_; rintro e w' ⟨rfl, rfl⟩)
    all_goals exact bodyPost_ret (v := .tuple #[.agg #[.int .i64 0, .int .i64 0], .bool false, .int .i64 2]) (by simp [results, Try.results10, go_sem]) rfl ⟨rfl, by (repeat' (first | exact Below.refl _ _ | assumption | refine Below.alloc ?_ (by (try simp) <;> omega) _ | refine Below.setCell ?_ (by (try simp) <;> omega) _ | refine below_drawn ?_ _))⟩
  · have h0 : 0 ≤ a := by omega
    have h1 : a ≤ b := by omega
    have h2 : b < 64 := by omega
    have H := Lib.hid (h.resolve_left hv)
    clear h hv
    go_enter Try.func10, Try.ntmps10
    go_wp2_with fail
    refine (Check_ok _ _ _ h0 h1 h2).mono ?_
    rintro e w' ⟨rfl, rfl⟩
    go_wp2_with fail
    refine (Check_bad _ _ _ H.out).mono ?_
    rintro e w' ⟨rfl, rfl⟩
    go_wp2_with fail
    all_goals exact bodyPost_ret (v := .tuple #[.agg #[.int .i64 0, .int .i64 0], .bool false, .int .i64 2]) (by simp [results, Try.results10, go_sem]) rfl ⟨rfl, by (repeat' (first | exact Below.refl _ _ | assumption | refine Below.alloc ?_ (by (try simp) <;> omega) _ | refine Below.setCell ?_ (by (try simp) <;> omega) _ | refine below_drawn ?_ _))⟩

set_option maxHeartbeats 400000 in
theorem rOverlap_none (a b c d : Int) (w : World) (h0 : 0 ≤ a) (h1 : a ≤ b) (h2 : b < 64) (g0 : 0 ≤ c) (g1 : c ≤ d) (g2 : d < 64) (h : min b d < max a c) :
    Calls Try.prog 28 #[.agg #[.int .i64 a, .int .i64 b], .agg #[.int .i64 c, .int .i64 d]] w fun e w' => e = .returned (.tuple #[.agg #[.int .i64 0, .int .i64 0], .bool false, .int .i64 0]) ∧ Below w.heap.size w w' := by
  go_enter Try.func28, Try.ntmps28
  go_wp2_with (go_at_call 24; first | (with_reducible refine (rCheck_ok _ _ _ h0 h1 h2).mono ?_; rintro e w' ⟨rfl, rfl⟩) | (with_reducible refine (rCheck_ok _ _ _ g0 g1 g2).mono ?_; rintro e w' ⟨rfl, rfl⟩))
  all_goals exact bodyPost_ret (v := .tuple #[.agg #[.int .i64 0, .int .i64 0], .bool false, .int .i64 0]) (by simp [results, Try.results28, go_sem]) rfl ⟨rfl, by (repeat' (first | exact Below.refl _ _ | assumption | refine Below.alloc ?_ (by (try simp) <;> omega) _ | refine Below.setCell ?_ (by (try simp) <;> omega) _ | refine below_drawn ?_ _))⟩

set_option maxHeartbeats 400000 in
theorem rOverlap_some (a b c d : Int) (w : World) (h0 : 0 ≤ a) (h1 : a ≤ b) (h2 : b < 64) (g0 : 0 ≤ c) (g1 : c ≤ d) (g2 : d < 64) (h : max a c ≤ min b d) :
    Calls Try.prog 28 #[.agg #[.int .i64 a, .int .i64 b], .agg #[.int .i64 c, .int .i64 d]] w fun e w' => e = .returned (.tuple #[.agg #[.int .i64 (max a c), .int .i64 (min b d)], .bool true, .int .i64 0]) ∧ Below w.heap.size w w' := by
  go_enter Try.func28, Try.ntmps28
  go_wp2_with (go_at_call 24; first | (with_reducible refine (rCheck_ok _ _ _ h0 h1 h2).mono ?_; rintro e w' ⟨rfl, rfl⟩) | (with_reducible refine (rCheck_ok _ _ _ g0 g1 g2).mono ?_; rintro e w' ⟨rfl, rfl⟩))
  all_goals exact bodyPost_ret (v := .tuple #[.agg #[.int .i64 (max a c), .int .i64 (min b d)], .bool true, .int .i64 0]) (by simp [results, Try.results28, go_sem]; omega) rfl ⟨rfl, by (repeat' (first | exact Below.refl _ _ | assumption | refine Below.alloc ?_ (by (try simp) <;> omega) _ | refine Below.setCell ?_ (by (try simp) <;> omega) _ | refine below_drawn ?_ _))⟩

set_option maxHeartbeats 400000 in
theorem rOverlap_bad (a b c d : Int) (w : World) (h : (a < 0 ∨ b < a ∨ 64 ≤ b) ∨ (c < 0 ∨ d < c ∨ 64 ≤ d)) :
    Calls Try.prog 28 #[.agg #[.int .i64 a, .int .i64 b], .agg #[.int .i64 c, .int .i64 d]] w fun e w' => e = .returned (.tuple #[.agg #[.int .i64 0, .int .i64 0], .bool false, .int .i64 2]) ∧ Below w.heap.size w w' := by
  by_cases hv : a < 0 ∨ b < a ∨ 64 ≤ b
  · have H := Lib.hid hv
    clear h hv
    go_enter Try.func28, Try.ntmps28
    go_wp2_with (go_at_call 24; refine (rCheck_bad _ _ _ H.out).mono ?_; rintro e w' ⟨rfl, rfl⟩)
    all_goals exact bodyPost_ret (v := .tuple #[.agg #[.int .i64 0, .int .i64 0], .bool false, .int .i64 2]) (by simp [results, Try.results28, go_sem]) rfl ⟨rfl, by (repeat' (first | exact Below.refl _ _ | assumption | refine Below.alloc ?_ (by (try simp) <;> omega) _ | refine Below.setCell ?_ (by (try simp) <;> omega) _ | refine below_drawn ?_ _))⟩
  · have h0 : 0 ≤ a := by omega
    have h1 : a ≤ b := by omega
    have h2 : b < 64 := by omega
    have H := Lib.hid (h.resolve_left hv)
    clear h hv
    go_enter Try.func28, Try.ntmps28
    go_wp2_with fail
    refine (rCheck_ok _ _ _ h0 h1 h2).mono ?_
    rintro e w' ⟨rfl, rfl⟩
    go_wp2_with fail
    refine (rCheck_bad _ _ _ H.out).mono ?_
    rintro e w' ⟨rfl, rfl⟩
    go_wp2_with fail
    all_goals exact bodyPost_ret (v := .tuple #[.agg #[.int .i64 0, .int .i64 0], .bool false, .int .i64 2]) (by simp [results, Try.results28, go_sem]) rfl ⟨rfl, by (repeat' (first | exact Below.refl _ _ | assumption | refine Below.alloc ?_ (by (try simp) <;> omega) _ | refine Below.setCell ?_ (by (try simp) <;> omega) _ | refine below_drawn ?_ _))⟩

end Go.Proofs.Ytmaebbbaooodaaa
