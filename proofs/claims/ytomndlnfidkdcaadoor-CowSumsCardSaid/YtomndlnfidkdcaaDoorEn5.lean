/- Entries of a page table: the word of an entry; the reference's words. -/
import Derived.Test.YtomndlnfidkdcaaDoorEn4
namespace Go.Proofs.YtomndlnfidkdcaaDoor
open Go Go.Proofs Go.RowKit
set_option linter.unusedSimpArgs false
set_option linter.unusedVariables false
set_option maxRecDepth 100000

theorem cell_later {w w' : World} {a : Addr} {v : Value} (hb : Below w.heap.size w w') (h : w.cell? a = some v) : w'.cell? a = some v :=
  (hb.cell (World.block_lt_of_cell? w a h)).trans h
theorem cell_alloc {w : World} {a : Addr} {v : Value} (o : Obj) (h : w.cell? a = some v) : (w.alloc o).cell? a = some v :=
  (World.cell?_alloc_lt w o a (World.block_lt_of_cell? w a h)).trans h
theorem cell_drew {w : World} {a : Addr} {v : Value} (h : w.cell? a = some v) : w.drew.cell? a = some v := h
theorem cell_far {w : World} {a p : Addr} {v : Value} (h : w.cell? a = some v) (hp : a.block ≠ p.block) (u : Value) : (w.setCell p u).cell? a = some v := by
  rw [← h]
  simp only [World.cell?, Below.heap_setCell w p u a.block hp]

/-- The word of a valid entry. -/
def packN (k n : Nat) (a b c : Bool) : Nat := k + 4 * flagN a b c + 256 * n
theorem flagN_lt (a b c : Bool) : flagN a b c < 8 := by cases a <;> cases b <;> cases c <;> decide
theorem packN_wK (k n : Nat) (a b c : Bool) (hk : k < 4) (hn : n < 256) : wK k (flagN a b c) n 3 = packN k n a b c := by
  have := flagN_lt a b c
  simp only [wK, packN]
  omega

set_option maxHeartbeats 2000000 in
theorem pack_any (k n : Nat) (a b c : Bool) (w : World) (hk : k < 4) (hn : n < 256) (hL : LayOK w) :
    Calls Tryd.prog 74 #[.agg #[.int .i64 k, .int .i64 n, .bool a, .bool b, .bool c]] w fun e w' => e = .returned (.int .u64 (packN k n a b c)) ∧ Below w.heap.size w w' := by
  have hfl := flagN_lt a b c
  have HK := Lib.hid (packN_wK k n a b c hk hn)
  go_enter Tryd.func74, Tryd.ntmps74
  go_wp2_with fail
  have kB := Bk.new w #[.int .i64 k, .int .i64 n, .bool a, .bool b, .bool c] 61
  have hB := balloc (Below.refl _ w) (.cells #[.int .i64 k, .int .i64 n, .bool a, .bool b, .bool c] 61)
  replace hL := hL.below hB
  generalize w.alloc (.cells #[.int .i64 k, .int .i64 n, .bool a, .bool b, .bool c] 61) = w1 at *
  have c0 := kB.cell 0
  have c1 := kB.cell 1
  have c2 := kB.cell 2
  have c3 := kB.cell 3
  have c4 := kB.cell 4
  simp at c0 c1 c2 c3 c4
  have hw1 : IntKind.u64.wrap (k : Int) = (k : Int) := by rw [IntKind.wrap_u64]; omega
  have hw2 : IntKind.u64.wrap (n : Int) = (n : Int) := by rw [IntKind.wrap_u64]; omega
  go_region_held3 (fun w' => w'.cell? ⟨w.heap.size, 0, none⟩ = some (.int .i64 k) ∧ w'.cell? ⟨w.heap.size, 1, none⟩ = some (.int .i64 n) ∧ w'.cell? ⟨w.heap.size, 2, none⟩ = some (.bool a) ∧ w'.cell? ⟨w.heap.size, 3, none⟩ = some (.bool b) ∧ w'.cell? ⟨w.heap.size, 4, none⟩ = some (.bool c))
    (refine ⟨?_, ?_, ?_, ?_, ?_⟩ <;> (repeat (with_reducible first | exact c0 | exact c1 | exact c2 | exact c3 | exact c4 | refine cell_drew ?_ | refine cell_later hb3 ?_ | refine cell_alloc _ ?_ | refine cell_later hb2 ?_)))
    (first
      | (go_at_call 75; refine (flagsOf_any _ _ _ _ _ _).mono ?_; rintro e w2 ⟨rfl, hb2⟩)
      | (go_at_call 65; refine (word_any k (flagN a b c) n _ _ _ (by omega) (by omega) (by omega) ((hL.drew.below hb2).alloc _) (Rd.new #[.int .u64 k, .int .u64 (flagN a b c), .int .u64 n] _ rfl)).mono ?_; rw [HK.out]; rintro e w3 ⟨rfl, hb3⟩))
  go_wp2
  go_ret
  exact ⟨rfl, bnext hB (bnext (balloc (bnext (below_drew (Below.refl _ _)) hb2) _) hb3)⟩

/-- The word and the error of an entry. -/
def packR (k n : Int) (a b c : Bool) : Int × Int := if chk k n a b c ≠ 0 then (0, chk k n a b c) else ((packN k.toNat n.toNat a b c : Nat), 0)
theorem chk_ok (k n : Int) (a b c : Bool) (h : chk k n a b c = 0) : (k = 0 ∨ k = 1 ∨ k = 2) ∧ 0 ≤ n ∧ n ≤ 255 := by grind [chk]
theorem ret_two {k1 k2 : IntKind} {a b c d : Int} (h : (a, b) = (c, d)) : Ending.returned (.tuple #[.int k1 a, .int k2 b]) = .returned (.tuple #[.int k1 c, .int k2 d]) := by
  injection h with h1 h2; rw [h1, h2]

set_option maxHeartbeats 1000000 in
theorem Pack_any (k n : Int) (a b c : Bool) (w : World) (hL : LayOK w) :
    Calls Tryd.prog 63 #[.agg #[.int .i64 k, .int .i64 n, .bool a, .bool b, .bool c]] w fun e w' => e = .returned (.tuple #[.int .u64 (packR k n a b c).1, .int .i64 (packR k n a b c).2]) ∧ Below w.heap.size w w' := by
  by_cases hz : chk k n a b c = 0
  · obtain ⟨h1, h2, h3⟩ := chk_ok k n a b c hz
    obtain ⟨k, rfl⟩ : ∃ q : Nat, k = q := ⟨k.toNat, by omega⟩
    obtain ⟨n, rfl⟩ : ∃ q : Nat, n = q := ⟨n.toNat, by omega⟩
    have hv : packR k n a b c = (((packN k n a b c : Nat) : Int), 0) := by unfold packR; rw [if_neg (by simp [hz])]; rfl
    rw [hv]
    have hzb : (chk k n a b c != 0) = false := by simpa using hz
    have hk : k < 4 := by omega
    have hn : n < 256 := by omega
    clear hz hv h1
    go_enter Tryd.func63, Tryd.ntmps63
    go_wp2_with (first
      | (go_at_call 68; refine (Check_any _ _ _ _ _ _ (hL.alloc _)).mono ?_; rintro e w1 ⟨rfl, hb1⟩; have kB := (Bk.new w #[.int .i64 k, .int .i64 n, .bool a, .bool b, .bool c] 61).to hb1; obtain ⟨cB, fB, lB⟩ := kB.facts)
      | (go_at_call 74; refine (pack_any k n a b c _ hk hn ((hL.alloc _).below hb1)).mono ?_; rintro e w2 ⟨rfl, hb2⟩))
    go_ret2
    exact ⟨rfl, by (repeat' (first | exact Below.refl _ _ | assumption | refine balloc ?_ _ | refine below_drawn ?_ _ | refine below_drew ?_ | refine bnext ?_ hb24 | refine bnext ?_ hb23 | refine bnext ?_ hb22 | refine bnext ?_ hb21 | refine bnext ?_ hb20 | refine bnext ?_ hb19 | refine bnext ?_ hb18 | refine bnext ?_ hb17 | refine bnext ?_ hb16 | refine bnext ?_ hb15 | refine bnext ?_ hb14 | refine bnext ?_ hb13 | refine bnext ?_ hb12 | refine bnext ?_ hb11 | refine bnext ?_ hb10 | refine bnext ?_ hb9 | refine bnext ?_ hb8 | refine bnext ?_ hb7 | refine bnext ?_ hb6 | refine bnext ?_ hb5 | refine bnext ?_ hb4 | refine bnext ?_ hb3 | refine bnext ?_ hb2 | refine bnext ?_ hb1))⟩
  · have hv : packR k n a b c = (0, chk k n a b c) := by unfold packR; rw [if_pos hz]
    rw [hv]
    have hzb : (chk k n a b c != 0) = true := by simpa using hz
    clear hz hv
    go_enter Tryd.func63, Tryd.ntmps63
    go_wp2_with (go_at_call 68; refine (Check_any _ _ _ _ _ _ (hL.alloc _)).mono ?_; rintro e w1 ⟨rfl, hb1⟩)
    go_ret2
    exact ⟨rfl, by (repeat' (first | exact Below.refl _ _ | assumption | refine balloc ?_ _ | refine below_drawn ?_ _ | refine below_drew ?_ | refine bnext ?_ hb24 | refine bnext ?_ hb23 | refine bnext ?_ hb22 | refine bnext ?_ hb21 | refine bnext ?_ hb20 | refine bnext ?_ hb19 | refine bnext ?_ hb18 | refine bnext ?_ hb17 | refine bnext ?_ hb16 | refine bnext ?_ hb15 | refine bnext ?_ hb14 | refine bnext ?_ hb13 | refine bnext ?_ hb12 | refine bnext ?_ hb11 | refine bnext ?_ hb10 | refine bnext ?_ hb9 | refine bnext ?_ hb8 | refine bnext ?_ hb7 | refine bnext ?_ hb6 | refine bnext ?_ hb5 | refine bnext ?_ hb4 | refine bnext ?_ hb3 | refine bnext ?_ hb2 | refine bnext ?_ hb1))⟩
end Go.Proofs.YtomndlnfidkdcaaDoor
