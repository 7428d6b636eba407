/- A new set, by the program and by the reference. -/
import Derived.Test.YtihbdndigfnhkaaDoorBit9
import Derived.Deep.OwnRows
namespace Go.Proofs.YtihbdndigfnhkaaDoor
open Go Go.Proofs Go.RowKit
set_option linter.unusedSimpArgs false
set_option linter.unusedVariables false

theorem infoU : (Tryd.prog.info? 61).map (fun i => (i.zero, i.size, i.bytes)) = some (some (.int .u64 0), 1, 8) := by kernel_rfl
theorem infoB : (Tryd.prog.info? 4).map (fun i => (i.zero, i.size, i.bytes)) = some (some (.bool false), 1, 1) := by kernel_rfl
theorem own_less {W : World} {base base' : Nat} {e : TypeId} {size : Nat} {v : Value} {k : Nat} {xs : List Value} (h : W.ownsRow base e size v k xs) (hb : base' ≤ base) : W.ownsRow base' e size v k xs := by
  refine ⟨h.1, ?_⟩
  rcases h.2 with hn | ⟨g, cap, cur, hv, hbg, rest⟩
  · exact .inl hn
  · exact .inr ⟨g, cap, cur, hv, Nat.le_trans hb hbg, rest⟩
/-- A new row of zero words. -/
theorem own_zeros (w : World) (e : TypeId) (k : Nat) (hk : k ≤ 1000000) : (w.alloc (.cells (madeCells #[.int .u64 0] k) e)).ownsRow w.heap.size e 1 (.slice (some ⟨w.heap.size, 0, none⟩) k k) k (uw (List.replicate k 0)) := by
  refine ⟨by simp [uw], .inr ⟨w.heap.size, k, madeCells #[.int .u64 0] k, rfl, Nat.le_refl _, heap_alloc_new w _, Nat.le_refl _, by simp only [maxLen]; omega, ?_, ?_⟩⟩
  · simp [madeCells]
  · have : ∀ x, [Value.int IntKind.u64 0][x % 1]?.getD default = Value.int .u64 0 := fun x => by rw [Nat.mod_one]; rfl
    simp [madeCells, uw, this]
    rw [show (fun x : Nat => Value.int IntKind.u64 0) = Function.const Nat (Value.int .u64 0) from rfl, List.map_const]
    simp
theorem own_zeros_at {w : World} {e : TypeId} {a : Nat} (h : w.heap.size = a) (k : Nat) (hk : k ≤ 1000000) : (w.alloc (.cells (madeCells #[.int .u64 0] k) e)).ownsRow a e 1 (.slice (some ⟨a, 0, none⟩) k k) k (uw (List.replicate k 0)) := by
  subst h
  exact own_zeros w e k hk
theorem wsmall_zeros (k : Nat) : wsmall (List.replicate k 0) := by
  intro x hx
  rw [List.eq_of_mem_replicate hx]
  decide

theorem New_any_bad (n : Int) (w : World) (h : n < 0 ∨ 1024 < n) :
    Calls Tryd.prog 19 #[.int .i64 n] w fun e w' => e = .returned (.tuple #[.agg #[.int .i64 0, .slice none 0 0], .int .i64 2]) ∧ Below w.heap.size w w' := by
  have h' : n < 0 ∨ (0 ≤ n ∧ 1024 < n) := by omega
  rcases h' with h | ⟨h, h2⟩
  all_goals
    go_enter Tryd.func19, Tryd.ntmps19
    go_wp2_with fail
    exact bodyPost_ret (v := .tuple #[.agg #[.int .i64 0, .slice none 0 0], .int .i64 2]) (by simp [results, Tryd.results19, go_sem]) rfl ⟨rfl, by (repeat' (first | exact Below.refl _ _ | assumption | refine balloc ?_ _ | refine below_drawn ?_ _ | refine below_drew ?_ | refine bnext ?_ hb24 | refine bnext ?_ hb23 | refine bnext ?_ hb22 | refine bnext ?_ hb21 | refine bnext ?_ hb20 | refine bnext ?_ hb19 | refine bnext ?_ hb18 | refine bnext ?_ hb17 | refine bnext ?_ hb16 | refine bnext ?_ hb15 | refine bnext ?_ hb14 | refine bnext ?_ hb13 | refine bnext ?_ hb12 | refine bnext ?_ hb11 | refine bnext ?_ hb10 | refine bnext ?_ hb9 | refine bnext ?_ hb8 | refine bnext ?_ hb7 | refine bnext ?_ hb6 | refine bnext ?_ hb5 | refine bnext ?_ hb4 | refine bnext ?_ hb3 | refine bnext ?_ hb2 | refine bnext ?_ hb1))⟩
theorem New_any (n : Nat) (w : World) (h : n ≤ 1024) :
    Calls Tryd.prog 19 #[.int .i64 n] w fun e w' => ∃ A, e = .returned (.tuple #[.agg #[.int .i64 n, .slice A ((n + 63) / 64) ((n + 63) / 64)], .int .i64 0]) ∧ w'.ownsRow w.heap.size 61 1 (.slice A ((n + 63) / 64) ((n + 63) / 64)) ((n + 63) / 64) (uw (List.replicate ((n + 63) / 64) 0)) ∧ Below w.heap.size w w' := by
  obtain ⟨k, hk⟩ : ∃ k, (n + 63) / 64 = k := ⟨_, rfl⟩
  rw [hk]
  have hk' : k ≤ 20 := by omega
  have hnk : ((n : Int) + 63) / 64 = (k : Int) := by omega
  have hmk := run_make_row' (P := Tryd.prog) 22 61 (.int .u64 0) 8 Tryd.underlying22 infoU rfl .i64 .i64 k (by omega) (by omega)
  have Hk := Lib.hid hk
  clear hk
  go_enter Tryd.func19, Tryd.ntmps19
  go_wp2_with (go_at_call 50; refine (words_any _ _ (by omega) (by omega)).mono ?_; rintro e w1 ⟨rfl, rfl⟩; rw [hnk])
  exact bodyPost_ret (v := .tuple #[.agg #[.int .i64 n, .slice (some ⟨w.heap.size + 1, 0, none⟩) k k], .int .i64 0]) (by simp [results, Tryd.results19, go_sem]) rfl ⟨_, rfl, own_less (own_zeros_at (by simp) k (by omega)) (Nat.le_succ _), by (repeat' (first | exact Below.refl _ _ | assumption | refine balloc ?_ _ | refine below_drawn ?_ _ | refine below_drew ?_ | refine bnext ?_ hb24 | refine bnext ?_ hb23 | refine bnext ?_ hb22 | refine bnext ?_ hb21 | refine bnext ?_ hb20 | refine bnext ?_ hb19 | refine bnext ?_ hb18 | refine bnext ?_ hb17 | refine bnext ?_ hb16 | refine bnext ?_ hb15 | refine bnext ?_ hb14 | refine bnext ?_ hb13 | refine bnext ?_ hb12 | refine bnext ?_ hb11 | refine bnext ?_ hb10 | refine bnext ?_ hb9 | refine bnext ?_ hb8 | refine bnext ?_ hb7 | refine bnext ?_ hb6 | refine bnext ?_ hb5 | refine bnext ?_ hb4 | refine bnext ?_ hb3 | refine bnext ?_ hb2 | refine bnext ?_ hb1))⟩

theorem rNew_any_bad (n : Int) (w : World) (h : n < 0 ∨ 1024 < n) :
    Calls Tryd.prog 20 #[.int .i64 n] w fun e w' => e = .returned (.tuple #[.agg #[.int .i64 0, .slice none 0 0], .int .i64 2]) ∧ Below w.heap.size w w' := by
  have h' : n < 0 ∨ (0 ≤ n ∧ 1024 < n) := by omega
  rcases h' with h | ⟨h, h2⟩
  all_goals
    go_enter Tryd.func20, Tryd.ntmps20
    go_wp2_with fail
    exact bodyPost_ret (v := .tuple #[.agg #[.int .i64 0, .slice none 0 0], .int .i64 2]) (by simp [results, Tryd.results20, go_sem]) rfl ⟨rfl, by (repeat' (first | exact Below.refl _ _ | assumption | refine balloc ?_ _ | refine below_drawn ?_ _ | refine below_drew ?_ | refine bnext ?_ hb24 | refine bnext ?_ hb23 | refine bnext ?_ hb22 | refine bnext ?_ hb21 | refine bnext ?_ hb20 | refine bnext ?_ hb19 | refine bnext ?_ hb18 | refine bnext ?_ hb17 | refine bnext ?_ hb16 | refine bnext ?_ hb15 | refine bnext ?_ hb14 | refine bnext ?_ hb13 | refine bnext ?_ hb12 | refine bnext ?_ hb11 | refine bnext ?_ hb10 | refine bnext ?_ hb9 | refine bnext ?_ hb8 | refine bnext ?_ hb7 | refine bnext ?_ hb6 | refine bnext ?_ hb5 | refine bnext ?_ hb4 | refine bnext ?_ hb3 | refine bnext ?_ hb2 | refine bnext ?_ hb1))⟩
theorem rNew_any (n : Nat) (w : World) (h : n ≤ 1024) :
    Calls Tryd.prog 20 #[.int .i64 n] w fun e w' => ∃ A, e = .returned (.tuple #[.agg #[.int .i64 n, .slice A ((n + 63) / 64) ((n + 63) / 64)], .int .i64 0]) ∧ w'.ownsRow w.heap.size 61 1 (.slice A ((n + 63) / 64) ((n + 63) / 64)) ((n + 63) / 64) (uw (List.replicate ((n + 63) / 64) 0)) ∧ Below w.heap.size w w' := by
  obtain ⟨k, hk⟩ : ∃ k, (n + 63) / 64 = k := ⟨_, rfl⟩
  rw [hk]
  have hk' : k ≤ 20 := by omega
  have hnk : ((n : Int) + 63) / 64 = (k : Int) := by omega
  have hmk := run_make_row' (P := Tryd.prog) 22 61 (.int .u64 0) 8 Tryd.underlying22 infoU rfl .i64 .i64 k (by omega) (by omega)
  have Hk := Lib.hid hk
  clear hk
  go_enter Tryd.func20, Tryd.ntmps20
  go_wp2_with fail
  exact bodyPost_ret (v := .tuple #[.agg #[.int .i64 n, .slice (some ⟨w.heap.size + 1, 0, none⟩) k k], .int .i64 0]) (by simp [results, Tryd.results20, go_sem]) rfl ⟨_, rfl, own_less (own_zeros_at (by simp) k (by omega)) (Nat.le_succ _), by (repeat' (first | exact Below.refl _ _ | assumption | refine balloc ?_ _ | refine below_drawn ?_ _ | refine below_drew ?_ | refine bnext ?_ hb24 | refine bnext ?_ hb23 | refine bnext ?_ hb22 | refine bnext ?_ hb21 | refine bnext ?_ hb20 | refine bnext ?_ hb19 | refine bnext ?_ hb18 | refine bnext ?_ hb17 | refine bnext ?_ hb16 | refine bnext ?_ hb15 | refine bnext ?_ hb14 | refine bnext ?_ hb13 | refine bnext ?_ hb12 | refine bnext ?_ hb11 | refine bnext ?_ hb10 | refine bnext ?_ hb9 | refine bnext ?_ hb8 | refine bnext ?_ hb7 | refine bnext ?_ hb6 | refine bnext ?_ hb5 | refine bnext ?_ hb4 | refine bnext ?_ hb3 | refine bnext ?_ hb2 | refine bnext ?_ hb1))⟩

end Go.Proofs.YtihbdndigfnhkaaDoor
