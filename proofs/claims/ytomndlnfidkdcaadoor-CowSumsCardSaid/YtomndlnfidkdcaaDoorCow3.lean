/- cow.alter: an entry after some changes, for each list of changes that the program hands over. -/
import Derived.Test.YtomndlnfidkdcaaDoorCow2
namespace Go.Proofs.YtomndlnfidkdcaaDoor
open Go Go.Proofs Go.RowKit
set_option linter.unusedSimpArgs false
set_option linter.unusedVariables false

def enC (e : En5) : Array Value := #[.int .i64 e.1, .int .i64 e.2.1, .bool e.2.2.1, .bool e.2.2.2.1, .bool e.2.2.2.2]
theorem Rd.cell1 {w : World} {A : Option Addr} {n : Nat} {xs : List Value} (h : Rd w 1 A n xs) {i : Nat} {v : Value} (hv : xs[i]? = some v) : ∃ b off, A = some ⟨b, off, none⟩ ∧ b < w.heap.size ∧ w.cell? ⟨b, off + i, none⟩ = some v := by
  have hl := (List.getElem?_eq_some_iff.1 hv).1
  obtain ⟨b, off, e, hb, hc⟩ := h.2 (by have := h.1; omega)
  exact ⟨b, off, e, hb, hc i v hv⟩

def alterSI (k n : Int) (a b c : Bool) : Nat → En5
  | 0 => (k, n, a, b, c)
  | _ => (shareE (k, n, a, b, c))
set_option maxHeartbeats 1000000 in
theorem alterS_any (k n : Int) (a b c : Bool) (A : Option Addr) (cp : Nat) (w : World) (hr : Rd w 1 A 1 [.func (.func 43) #[] #[]]) :
    Calls Tryd.prog 42 #[.agg #[.int .i64 k, .int .i64 n, .bool a, .bool b, .bool c], .slice A 1 cp] w fun e w' => e = .returned (enV (shareE (k, n, a, b, c))) ∧ Below w.heap.size w w' := by
  go_enter Tryd.func42, Tryd.ntmps42
  go_wp2
  go_loopw [9] (fun i wr => ∃ j : Nat, j ≤ 1 ∧ i = .int .i64 j ∧ Bk wr w.heap.size (enC (alterSI k n a b c j)) 61 ∧ Bk wr (w.heap.size + 1) #[.int .i64 0, .int .i64 0, .bool false, .bool false, .bool false] 61 ∧ Below w.heap.size w wr)
    (fun i _ => 1 - (intOf i).toNat)
  case atStart => exact ⟨0, by omega, rfl, (Bk.new w _ _).alloc _, Bk.new1 w _ _ _, balloc (balloc (Below.refl _ _) _) _⟩
  case round =>
    obtain ⟨j, hj, rfl, k2, k4, hB⟩ := hrel
    have hcase : j = 0 ∨ j = 1 := by omega
    rcases hcase with rfl | rfl
    · obtain ⟨bA, off, hA, hbl, hcell⟩ := (hr.below hB (Nat.le_refl _)).cell1 (i := 0) (v := .func (.func 43) #[] #[]) rfl
      subst hA
      simp only [Nat.add_zero] at hcell
      obtain ⟨c2, f2, l2⟩ := k2.facts
      simp only [alterSI, enC] at c2
      go_wp2_with fail
      refine (share_any _ _ _ _ _ _).mono ?_
      rintro e w1 ⟨rfl, hb1⟩
      have hc1 : Below w.heap.size w w1 := bnext hB hb1
      replace k2 := k2.to hb1
      replace k4 := k4.to hb1
      clear c2 f2 l2
      obtain ⟨c2, f2, l2⟩ := k2.facts
      simp only [alterSI, enC] at c2
      go_wp2
      have kF := k2.put5 (.int .i64 (alterSI k n a b c 1).1) (.int .i64 (alterSI k n a b c 1).2.1) (.bool (alterSI k n a b c 1).2.2.1) (.bool (alterSI k n a b c 1).2.2.2.1) (.bool (alterSI k n a b c 1).2.2.2.2)
      have hBF := below_put5 hc1 (b := w.heap.size) (Nat.le_refl _) (.int .i64 (alterSI k n a b c 1).1) (.int .i64 (alterSI k n a b c 1).2.1) (.bool (alterSI k n a b c 1).2.2.1) (.bool (alterSI k n a b c 1).2.2.2.1) (.bool (alterSI k n a b c 1).2.2.2.2)
      have kG := k4.far (p := ⟨w.heap.size, 0, none⟩) (by show w.heap.size + 1 ≠ w.heap.size; omega) (.int .i64 (alterSI k n a b c 1).1)
      replace kG := kG.far (p := ⟨w.heap.size, 1, none⟩) (by show w.heap.size + 1 ≠ w.heap.size; omega) (.int .i64 (alterSI k n a b c 1).2.1)
      replace kG := kG.far (p := ⟨w.heap.size, 2, none⟩) (by show w.heap.size + 1 ≠ w.heap.size; omega) (.bool (alterSI k n a b c 1).2.2.1)
      replace kG := kG.far (p := ⟨w.heap.size, 3, none⟩) (by show w.heap.size + 1 ≠ w.heap.size; omega) (.bool (alterSI k n a b c 1).2.2.2.1)
      replace kG := kG.far (p := ⟨w.heap.size, 4, none⟩) (by show w.heap.size + 1 ≠ w.heap.size; omega) (.bool (alterSI k n a b c 1).2.2.2.2)
      go_roundw
      case rel => exact ⟨1, by omega, rfl, kF, kG, hBF⟩
      case measure => simp [intOf]
    · obtain ⟨c2, f2, l2⟩ := k2.facts
      obtain ⟨c4, f4, l4⟩ := k4.facts
      simp only [alterSI, enC] at c2
      go_wp2
      have kF := k4.put5 (.int .i64 (alterSI k n a b c 1).1) (.int .i64 (alterSI k n a b c 1).2.1) (.bool (alterSI k n a b c 1).2.2.1) (.bool (alterSI k n a b c 1).2.2.2.1) (.bool (alterSI k n a b c 1).2.2.2.2)
      have hBF := below_put5 hB (b := w.heap.size + 1) (by omega) (.int .i64 (alterSI k n a b c 1).1) (.int .i64 (alterSI k n a b c 1).2.1) (.bool (alterSI k n a b c 1).2.2.1) (.bool (alterSI k n a b c 1).2.2.2.1) (.bool (alterSI k n a b c 1).2.2.2.2)
      exact bodyPost_ret (kF.res1 (P := Tryd.prog) rfl _ rfl (by kernel_rfl) (by kernel_rfl)) rfl ⟨rfl, hBF⟩

def alterCI (k n : Int) (a b c : Bool) : Nat → En5
  | 0 => (k, n, a, b, c)
  | 1 => (shareE (k, n, a, b, c))
  | _ => (forgetE (shareE (k, n, a, b, c)))
set_option maxHeartbeats 1000000 in
theorem alterC_any (k n : Int) (a b c : Bool) (A : Option Addr) (cp : Nat) (w : World) (hr : Rd w 1 A 2 [.func (.func 43) #[] #[], .func (.func 44) #[] #[]]) :
    Calls Tryd.prog 42 #[.agg #[.int .i64 k, .int .i64 n, .bool a, .bool b, .bool c], .slice A 2 cp] w fun e w' => e = .returned (enV (forgetE (shareE (k, n, a, b, c)))) ∧ Below w.heap.size w w' := by
  go_enter Tryd.func42, Tryd.ntmps42
  go_wp2
  go_loopw [9] (fun i wr => ∃ j : Nat, j ≤ 2 ∧ i = .int .i64 j ∧ Bk wr w.heap.size (enC (alterCI k n a b c j)) 61 ∧ Bk wr (w.heap.size + 1) #[.int .i64 0, .int .i64 0, .bool false, .bool false, .bool false] 61 ∧ Below w.heap.size w wr)
    (fun i _ => 2 - (intOf i).toNat)
  case atStart => exact ⟨0, by omega, rfl, (Bk.new w _ _).alloc _, Bk.new1 w _ _ _, balloc (balloc (Below.refl _ _) _) _⟩
  case round =>
    obtain ⟨j, hj, rfl, k2, k4, hB⟩ := hrel
    have hcase : j = 0 ∨ j = 1 ∨ j = 2 := by omega
    rcases hcase with rfl | rfl | rfl
    · obtain ⟨bA, off, hA, hbl, hcell⟩ := (hr.below hB (Nat.le_refl _)).cell1 (i := 0) (v := .func (.func 43) #[] #[]) rfl
      subst hA
      simp only [Nat.add_zero] at hcell
      obtain ⟨c2, f2, l2⟩ := k2.facts
      simp only [alterCI, enC] at c2
      go_wp2_with fail
      refine (share_any _ _ _ _ _ _).mono ?_
      rintro e w1 ⟨rfl, hb1⟩
      have hc1 : Below w.heap.size w w1 := bnext hB hb1
      replace k2 := k2.to hb1
      replace k4 := k4.to hb1
      clear c2 f2 l2
      obtain ⟨c2, f2, l2⟩ := k2.facts
      simp only [alterCI, enC] at c2
      go_wp2
      have kF := k2.put5 (.int .i64 (alterCI k n a b c 1).1) (.int .i64 (alterCI k n a b c 1).2.1) (.bool (alterCI k n a b c 1).2.2.1) (.bool (alterCI k n a b c 1).2.2.2.1) (.bool (alterCI k n a b c 1).2.2.2.2)
      have hBF := below_put5 hc1 (b := w.heap.size) (Nat.le_refl _) (.int .i64 (alterCI k n a b c 1).1) (.int .i64 (alterCI k n a b c 1).2.1) (.bool (alterCI k n a b c 1).2.2.1) (.bool (alterCI k n a b c 1).2.2.2.1) (.bool (alterCI k n a b c 1).2.2.2.2)
      have kG := k4.far (p := ⟨w.heap.size, 0, none⟩) (by show w.heap.size + 1 ≠ w.heap.size; omega) (.int .i64 (alterCI k n a b c 1).1)
      replace kG := kG.far (p := ⟨w.heap.size, 1, none⟩) (by show w.heap.size + 1 ≠ w.heap.size; omega) (.int .i64 (alterCI k n a b c 1).2.1)
      replace kG := kG.far (p := ⟨w.heap.size, 2, none⟩) (by show w.heap.size + 1 ≠ w.heap.size; omega) (.bool (alterCI k n a b c 1).2.2.1)
      replace kG := kG.far (p := ⟨w.heap.size, 3, none⟩) (by show w.heap.size + 1 ≠ w.heap.size; omega) (.bool (alterCI k n a b c 1).2.2.2.1)
      replace kG := kG.far (p := ⟨w.heap.size, 4, none⟩) (by show w.heap.size + 1 ≠ w.heap.size; omega) (.bool (alterCI k n a b c 1).2.2.2.2)
      go_roundw
      case rel => exact ⟨1, by omega, rfl, kF, kG, hBF⟩
      case measure => simp [intOf]
    · obtain ⟨bA, off, hA, hbl, hcell⟩ := (hr.below hB (Nat.le_refl _)).cell1 (i := 1) (v := .func (.func 44) #[] #[]) rfl
      subst hA
      skip
      obtain ⟨c2, f2, l2⟩ := k2.facts
      simp only [alterCI, enC] at c2
      go_wp2_with fail
      refine (forget_any _ _ _ _ _ _).mono ?_
      rintro e w1 ⟨rfl, hb1⟩
      have hc1 : Below w.heap.size w w1 := bnext hB hb1
      replace k2 := k2.to hb1
      replace k4 := k4.to hb1
      clear c2 f2 l2
      obtain ⟨c2, f2, l2⟩ := k2.facts
      simp only [alterCI, enC] at c2
      go_wp2
      have kF := k2.put5 (.int .i64 (alterCI k n a b c 2).1) (.int .i64 (alterCI k n a b c 2).2.1) (.bool (alterCI k n a b c 2).2.2.1) (.bool (alterCI k n a b c 2).2.2.2.1) (.bool (alterCI k n a b c 2).2.2.2.2)
      have hBF := below_put5 hc1 (b := w.heap.size) (Nat.le_refl _) (.int .i64 (alterCI k n a b c 2).1) (.int .i64 (alterCI k n a b c 2).2.1) (.bool (alterCI k n a b c 2).2.2.1) (.bool (alterCI k n a b c 2).2.2.2.1) (.bool (alterCI k n a b c 2).2.2.2.2)
      have kG := k4.far (p := ⟨w.heap.size, 0, none⟩) (by show w.heap.size + 1 ≠ w.heap.size; omega) (.int .i64 (alterCI k n a b c 2).1)
      replace kG := kG.far (p := ⟨w.heap.size, 1, none⟩) (by show w.heap.size + 1 ≠ w.heap.size; omega) (.int .i64 (alterCI k n a b c 2).2.1)
      replace kG := kG.far (p := ⟨w.heap.size, 2, none⟩) (by show w.heap.size + 1 ≠ w.heap.size; omega) (.bool (alterCI k n a b c 2).2.2.1)
      replace kG := kG.far (p := ⟨w.heap.size, 3, none⟩) (by show w.heap.size + 1 ≠ w.heap.size; omega) (.bool (alterCI k n a b c 2).2.2.2.1)
      replace kG := kG.far (p := ⟨w.heap.size, 4, none⟩) (by show w.heap.size + 1 ≠ w.heap.size; omega) (.bool (alterCI k n a b c 2).2.2.2.2)
      go_roundw
      case rel => exact ⟨2, by omega, rfl, kF, kG, hBF⟩
      case measure => simp [intOf]
    · obtain ⟨c2, f2, l2⟩ := k2.facts
      obtain ⟨c4, f4, l4⟩ := k4.facts
      simp only [alterCI, enC] at c2
      go_wp2
      have kF := k4.put5 (.int .i64 (alterCI k n a b c 2).1) (.int .i64 (alterCI k n a b c 2).2.1) (.bool (alterCI k n a b c 2).2.2.1) (.bool (alterCI k n a b c 2).2.2.2.1) (.bool (alterCI k n a b c 2).2.2.2.2)
      have hBF := below_put5 hB (b := w.heap.size + 1) (by omega) (.int .i64 (alterCI k n a b c 2).1) (.int .i64 (alterCI k n a b c 2).2.1) (.bool (alterCI k n a b c 2).2.2.1) (.bool (alterCI k n a b c 2).2.2.2.1) (.bool (alterCI k n a b c 2).2.2.2.2)
      exact bodyPost_ret (kF.res1 (P := Tryd.prog) rfl _ rfl (by kernel_rfl) (by kernel_rfl)) rfl ⟨rfl, hBF⟩

def alterOI (k n : Int) (a b c : Bool) : Nat → En5
  | 0 => (k, n, a, b, c)
  | _ => (ownE (k, n, a, b, c))
set_option maxHeartbeats 1000000 in
theorem alterO_any (k n : Int) (a b c : Bool) (A : Option Addr) (cp : Nat) (w : World) (hr : Rd w 1 A 1 [.func (.func 53) #[] #[]]) :
    Calls Tryd.prog 42 #[.agg #[.int .i64 k, .int .i64 n, .bool a, .bool b, .bool c], .slice A 1 cp] w fun e w' => e = .returned (enV (ownE (k, n, a, b, c))) ∧ Below w.heap.size w w' := by
  go_enter Tryd.func42, Tryd.ntmps42
  go_wp2
  go_loopw [9] (fun i wr => ∃ j : Nat, j ≤ 1 ∧ i = .int .i64 j ∧ Bk wr w.heap.size (enC (alterOI k n a b c j)) 61 ∧ Bk wr (w.heap.size + 1) #[.int .i64 0, .int .i64 0, .bool false, .bool false, .bool false] 61 ∧ Below w.heap.size w wr)
    (fun i _ => 1 - (intOf i).toNat)
  case atStart => exact ⟨0, by omega, rfl, (Bk.new w _ _).alloc _, Bk.new1 w _ _ _, balloc (balloc (Below.refl _ _) _) _⟩
  case round =>
    obtain ⟨j, hj, rfl, k2, k4, hB⟩ := hrel
    have hcase : j = 0 ∨ j = 1 := by omega
    rcases hcase with rfl | rfl
    · obtain ⟨bA, off, hA, hbl, hcell⟩ := (hr.below hB (Nat.le_refl _)).cell1 (i := 0) (v := .func (.func 53) #[] #[]) rfl
      subst hA
      simp only [Nat.add_zero] at hcell
      obtain ⟨c2, f2, l2⟩ := k2.facts
      simp only [alterOI, enC] at c2
      go_wp2_with fail
      refine (cown_any _ _ _ _ _ _).mono ?_
      rintro e w1 ⟨rfl, hb1⟩
      have hc1 : Below w.heap.size w w1 := bnext hB hb1
      replace k2 := k2.to hb1
      replace k4 := k4.to hb1
      clear c2 f2 l2
      obtain ⟨c2, f2, l2⟩ := k2.facts
      simp only [alterOI, enC] at c2
      go_wp2
      have kF := k2.put5 (.int .i64 (alterOI k n a b c 1).1) (.int .i64 (alterOI k n a b c 1).2.1) (.bool (alterOI k n a b c 1).2.2.1) (.bool (alterOI k n a b c 1).2.2.2.1) (.bool (alterOI k n a b c 1).2.2.2.2)
      have hBF := below_put5 hc1 (b := w.heap.size) (Nat.le_refl _) (.int .i64 (alterOI k n a b c 1).1) (.int .i64 (alterOI k n a b c 1).2.1) (.bool (alterOI k n a b c 1).2.2.1) (.bool (alterOI k n a b c 1).2.2.2.1) (.bool (alterOI k n a b c 1).2.2.2.2)
      have kG := k4.far (p := ⟨w.heap.size, 0, none⟩) (by show w.heap.size + 1 ≠ w.heap.size; omega) (.int .i64 (alterOI k n a b c 1).1)
      replace kG := kG.far (p := ⟨w.heap.size, 1, none⟩) (by show w.heap.size + 1 ≠ w.heap.size; omega) (.int .i64 (alterOI k n a b c 1).2.1)
      replace kG := kG.far (p := ⟨w.heap.size, 2, none⟩) (by show w.heap.size + 1 ≠ w.heap.size; omega) (.bool (alterOI k n a b c 1).2.2.1)
      replace kG := kG.far (p := ⟨w.heap.size, 3, none⟩) (by show w.heap.size + 1 ≠ w.heap.size; omega) (.bool (alterOI k n a b c 1).2.2.2.1)
      replace kG := kG.far (p := ⟨w.heap.size, 4, none⟩) (by show w.heap.size + 1 ≠ w.heap.size; omega) (.bool (alterOI k n a b c 1).2.2.2.2)
      go_roundw
      case rel => exact ⟨1, by omega, rfl, kF, kG, hBF⟩
      case measure => simp [intOf]
    · obtain ⟨c2, f2, l2⟩ := k2.facts
      obtain ⟨c4, f4, l4⟩ := k4.facts
      simp only [alterOI, enC] at c2
      go_wp2
      have kF := k4.put5 (.int .i64 (alterOI k n a b c 1).1) (.int .i64 (alterOI k n a b c 1).2.1) (.bool (alterOI k n a b c 1).2.2.1) (.bool (alterOI k n a b c 1).2.2.2.1) (.bool (alterOI k n a b c 1).2.2.2.2)
      have hBF := below_put5 hB (b := w.heap.size + 1) (by omega) (.int .i64 (alterOI k n a b c 1).1) (.int .i64 (alterOI k n a b c 1).2.1) (.bool (alterOI k n a b c 1).2.2.1) (.bool (alterOI k n a b c 1).2.2.2.1) (.bool (alterOI k n a b c 1).2.2.2.2)
      exact bodyPost_ret (kF.res1 (P := Tryd.prog) rfl _ rfl (by kernel_rfl) (by kernel_rfl)) rfl ⟨rfl, hBF⟩

def alterBI (q : En5) (k n : Int) (a b c : Bool) : Nat → En5
  | 0 => (k, n, a, b, c)
  | _ => (q)
set_option maxHeartbeats 1000000 in
theorem alterB_any (q : En5) (g : Nat) (k n : Int) (a b c : Bool) (A : Option Addr) (cp : Nat) (w : World) (hr : Rd w 1 A 1 [.func (.func 72) #[] #[.pointer (some ⟨g, 0, none⟩)]]) (hQ : Bk w g (enC q) 61) :
    Calls Tryd.prog 42 #[.agg #[.int .i64 k, .int .i64 n, .bool a, .bool b, .bool c], .slice A 1 cp] w fun e w' => e = .returned (enV (q)) ∧ Below w.heap.size w w' := by
  go_enter Tryd.func42, Tryd.ntmps42
  go_wp2
  go_loopw [9] (fun i wr => ∃ j : Nat, j ≤ 1 ∧ i = .int .i64 j ∧ Bk wr w.heap.size (enC (alterBI q k n a b c j)) 61 ∧ Bk wr (w.heap.size + 1) #[.int .i64 0, .int .i64 0, .bool false, .bool false, .bool false] 61 ∧ Below w.heap.size w wr)
    (fun i _ => 1 - (intOf i).toNat)
  case atStart => exact ⟨0, by omega, rfl, (Bk.new w _ _).alloc _, Bk.new1 w _ _ _, balloc (balloc (Below.refl _ _) _) _⟩
  case round =>
    obtain ⟨j, hj, rfl, k2, k4, hB⟩ := hrel
    have hcase : j = 0 ∨ j = 1 := by omega
    rcases hcase with rfl | rfl
    · obtain ⟨bA, off, hA, hbl, hcell⟩ := (hr.below hB (Nat.le_refl _)).cell1 (i := 0) (v := .func (.func 72) #[] #[.pointer (some ⟨g, 0, none⟩)]) rfl
      subst hA
      simp only [Nat.add_zero] at hcell
      obtain ⟨c2, f2, l2⟩ := k2.facts
      simp only [alterBI, enC] at c2
      go_wp2_with fail
      refine (become1_any undef q.1 q.2.1 q.2.2.1 q.2.2.2.1 q.2.2.2.2 _ _ _ _ _ g _ (hQ.to hB)).mono ?_
      rintro e w1 ⟨rfl, hb1⟩
      have hc1 : Below w.heap.size w w1 := bnext hB hb1
      replace k2 := k2.to hb1
      replace k4 := k4.to hb1
      clear c2 f2 l2
      obtain ⟨c2, f2, l2⟩ := k2.facts
      simp only [alterBI, enC] at c2
      go_wp2
      have kF := k2.put5 (.int .i64 (alterBI q k n a b c 1).1) (.int .i64 (alterBI q k n a b c 1).2.1) (.bool (alterBI q k n a b c 1).2.2.1) (.bool (alterBI q k n a b c 1).2.2.2.1) (.bool (alterBI q k n a b c 1).2.2.2.2)
      have hBF := below_put5 hc1 (b := w.heap.size) (Nat.le_refl _) (.int .i64 (alterBI q k n a b c 1).1) (.int .i64 (alterBI q k n a b c 1).2.1) (.bool (alterBI q k n a b c 1).2.2.1) (.bool (alterBI q k n a b c 1).2.2.2.1) (.bool (alterBI q k n a b c 1).2.2.2.2)
      have kG := k4.far (p := ⟨w.heap.size, 0, none⟩) (by show w.heap.size + 1 ≠ w.heap.size; omega) (.int .i64 (alterBI q k n a b c 1).1)
      replace kG := kG.far (p := ⟨w.heap.size, 1, none⟩) (by show w.heap.size + 1 ≠ w.heap.size; omega) (.int .i64 (alterBI q k n a b c 1).2.1)
      replace kG := kG.far (p := ⟨w.heap.size, 2, none⟩) (by show w.heap.size + 1 ≠ w.heap.size; omega) (.bool (alterBI q k n a b c 1).2.2.1)
      replace kG := kG.far (p := ⟨w.heap.size, 3, none⟩) (by show w.heap.size + 1 ≠ w.heap.size; omega) (.bool (alterBI q k n a b c 1).2.2.2.1)
      replace kG := kG.far (p := ⟨w.heap.size, 4, none⟩) (by show w.heap.size + 1 ≠ w.heap.size; omega) (.bool (alterBI q k n a b c 1).2.2.2.2)
      go_roundw
      case rel => exact ⟨1, by omega, rfl, kF, kG, hBF⟩
      case measure => simp [intOf]
    · obtain ⟨c2, f2, l2⟩ := k2.facts
      obtain ⟨c4, f4, l4⟩ := k4.facts
      simp only [alterBI, enC] at c2
      go_wp2
      have kF := k4.put5 (.int .i64 (alterBI q k n a b c 1).1) (.int .i64 (alterBI q k n a b c 1).2.1) (.bool (alterBI q k n a b c 1).2.2.1) (.bool (alterBI q k n a b c 1).2.2.2.1) (.bool (alterBI q k n a b c 1).2.2.2.2)
      have hBF := below_put5 hB (b := w.heap.size + 1) (by omega) (.int .i64 (alterBI q k n a b c 1).1) (.int .i64 (alterBI q k n a b c 1).2.1) (.bool (alterBI q k n a b c 1).2.2.1) (.bool (alterBI q k n a b c 1).2.2.2.1) (.bool (alterBI q k n a b c 1).2.2.2.2)
      exact bodyPost_ret (kF.res1 (P := Tryd.prog) rfl _ rfl (by kernel_rfl) (by kernel_rfl)) rfl ⟨rfl, hBF⟩

def alterBOI (q : En5) (k n : Int) (a b c : Bool) : Nat → En5
  | 0 => (k, n, a, b, c)
  | 1 => (q)
  | _ => (ownE (q))
set_option maxHeartbeats 1000000 in
theorem alterBO_any (q : En5) (g : Nat) (k n : Int) (a b c : Bool) (A : Option Addr) (cp : Nat) (w : World) (hr : Rd w 1 A 2 [.func (.func 72) #[] #[.pointer (some ⟨g, 0, none⟩)], .func (.func 53) #[] #[]]) (hQ : Bk w g (enC q) 61) :
    Calls Tryd.prog 42 #[.agg #[.int .i64 k, .int .i64 n, .bool a, .bool b, .bool c], .slice A 2 cp] w fun e w' => e = .returned (enV (ownE (q))) ∧ Below w.heap.size w w' := by
  go_enter Tryd.func42, Tryd.ntmps42
  go_wp2
  go_loopw [9] (fun i wr => ∃ j : Nat, j ≤ 2 ∧ i = .int .i64 j ∧ Bk wr w.heap.size (enC (alterBOI q k n a b c j)) 61 ∧ Bk wr (w.heap.size + 1) #[.int .i64 0, .int .i64 0, .bool false, .bool false, .bool false] 61 ∧ Below w.heap.size w wr)
    (fun i _ => 2 - (intOf i).toNat)
  case atStart => exact ⟨0, by omega, rfl, (Bk.new w _ _).alloc _, Bk.new1 w _ _ _, balloc (balloc (Below.refl _ _) _) _⟩
  case round =>
    obtain ⟨j, hj, rfl, k2, k4, hB⟩ := hrel
    have hcase : j = 0 ∨ j = 1 ∨ j = 2 := by omega
    rcases hcase with rfl | rfl | rfl
    · obtain ⟨bA, off, hA, hbl, hcell⟩ := (hr.below hB (Nat.le_refl _)).cell1 (i := 0) (v := .func (.func 72) #[] #[.pointer (some ⟨g, 0, none⟩)]) rfl
      subst hA
      simp only [Nat.add_zero] at hcell
      obtain ⟨c2, f2, l2⟩ := k2.facts
      simp only [alterBOI, enC] at c2
      go_wp2_with fail
      refine (become1_any undef q.1 q.2.1 q.2.2.1 q.2.2.2.1 q.2.2.2.2 _ _ _ _ _ g _ (hQ.to hB)).mono ?_
      rintro e w1 ⟨rfl, hb1⟩
      have hc1 : Below w.heap.size w w1 := bnext hB hb1
      replace k2 := k2.to hb1
      replace k4 := k4.to hb1
      clear c2 f2 l2
      obtain ⟨c2, f2, l2⟩ := k2.facts
      simp only [alterBOI, enC] at c2
      go_wp2
      have kF := k2.put5 (.int .i64 (alterBOI q k n a b c 1).1) (.int .i64 (alterBOI q k n a b c 1).2.1) (.bool (alterBOI q k n a b c 1).2.2.1) (.bool (alterBOI q k n a b c 1).2.2.2.1) (.bool (alterBOI q k n a b c 1).2.2.2.2)
      have hBF := below_put5 hc1 (b := w.heap.size) (Nat.le_refl _) (.int .i64 (alterBOI q k n a b c 1).1) (.int .i64 (alterBOI q k n a b c 1).2.1) (.bool (alterBOI q k n a b c 1).2.2.1) (.bool (alterBOI q k n a b c 1).2.2.2.1) (.bool (alterBOI q k n a b c 1).2.2.2.2)
      have kG := k4.far (p := ⟨w.heap.size, 0, none⟩) (by show w.heap.size + 1 ≠ w.heap.size; omega) (.int .i64 (alterBOI q k n a b c 1).1)
      replace kG := kG.far (p := ⟨w.heap.size, 1, none⟩) (by show w.heap.size + 1 ≠ w.heap.size; omega) (.int .i64 (alterBOI q k n a b c 1).2.1)
      replace kG := kG.far (p := ⟨w.heap.size, 2, none⟩) (by show w.heap.size + 1 ≠ w.heap.size; omega) (.bool (alterBOI q k n a b c 1).2.2.1)
      replace kG := kG.far (p := ⟨w.heap.size, 3, none⟩) (by show w.heap.size + 1 ≠ w.heap.size; omega) (.bool (alterBOI q k n a b c 1).2.2.2.1)
      replace kG := kG.far (p := ⟨w.heap.size, 4, none⟩) (by show w.heap.size + 1 ≠ w.heap.size; omega) (.bool (alterBOI q k n a b c 1).2.2.2.2)
      go_roundw
      case rel => exact ⟨1, by omega, rfl, kF, kG, hBF⟩
      case measure => simp [intOf]
    · obtain ⟨bA, off, hA, hbl, hcell⟩ := (hr.below hB (Nat.le_refl _)).cell1 (i := 1) (v := .func (.func 53) #[] #[]) rfl
      subst hA
      skip
      obtain ⟨c2, f2, l2⟩ := k2.facts
      simp only [alterBOI, enC] at c2
      go_wp2_with fail
      refine (cown_any _ _ _ _ _ _).mono ?_
      rintro e w1 ⟨rfl, hb1⟩
      have hc1 : Below w.heap.size w w1 := bnext hB hb1
      replace k2 := k2.to hb1
      replace k4 := k4.to hb1
      clear c2 f2 l2
      obtain ⟨c2, f2, l2⟩ := k2.facts
      simp only [alterBOI, enC] at c2
      go_wp2
      have kF := k2.put5 (.int .i64 (alterBOI q k n a b c 2).1) (.int .i64 (alterBOI q k n a b c 2).2.1) (.bool (alterBOI q k n a b c 2).2.2.1) (.bool (alterBOI q k n a b c 2).2.2.2.1) (.bool (alterBOI q k n a b c 2).2.2.2.2)
      have hBF := below_put5 hc1 (b := w.heap.size) (Nat.le_refl _) (.int .i64 (alterBOI q k n a b c 2).1) (.int .i64 (alterBOI q k n a b c 2).2.1) (.bool (alterBOI q k n a b c 2).2.2.1) (.bool (alterBOI q k n a b c 2).2.2.2.1) (.bool (alterBOI q k n a b c 2).2.2.2.2)
      have kG := k4.far (p := ⟨w.heap.size, 0, none⟩) (by show w.heap.size + 1 ≠ w.heap.size; omega) (.int .i64 (alterBOI q k n a b c 2).1)
      replace kG := kG.far (p := ⟨w.heap.size, 1, none⟩) (by show w.heap.size + 1 ≠ w.heap.size; omega) (.int .i64 (alterBOI q k n a b c 2).2.1)
      replace kG := kG.far (p := ⟨w.heap.size, 2, none⟩) (by show w.heap.size + 1 ≠ w.heap.size; omega) (.bool (alterBOI q k n a b c 2).2.2.1)
      replace kG := kG.far (p := ⟨w.heap.size, 3, none⟩) (by show w.heap.size + 1 ≠ w.heap.size; omega) (.bool (alterBOI q k n a b c 2).2.2.2.1)
      replace kG := kG.far (p := ⟨w.heap.size, 4, none⟩) (by show w.heap.size + 1 ≠ w.heap.size; omega) (.bool (alterBOI q k n a b c 2).2.2.2.2)
      go_roundw
      case rel => exact ⟨2, by omega, rfl, kF, kG, hBF⟩
      case measure => simp [intOf]
    · obtain ⟨c2, f2, l2⟩ := k2.facts
      obtain ⟨c4, f4, l4⟩ := k4.facts
      simp only [alterBOI, enC] at c2
      go_wp2
      have kF := k4.put5 (.int .i64 (alterBOI q k n a b c 2).1) (.int .i64 (alterBOI q k n a b c 2).2.1) (.bool (alterBOI q k n a b c 2).2.2.1) (.bool (alterBOI q k n a b c 2).2.2.2.1) (.bool (alterBOI q k n a b c 2).2.2.2.2)
      have hBF := below_put5 hB (b := w.heap.size + 1) (by omega) (.int .i64 (alterBOI q k n a b c 2).1) (.int .i64 (alterBOI q k n a b c 2).2.1) (.bool (alterBOI q k n a b c 2).2.2.1) (.bool (alterBOI q k n a b c 2).2.2.2.1) (.bool (alterBOI q k n a b c 2).2.2.2.2)
      exact bodyPost_ret (kF.res1 (P := Tryd.prog) rfl _ rfl (by kernel_rfl) (by kernel_rfl)) rfl ⟨rfl, hBF⟩
end Go.Proofs.YtomndlnfidkdcaaDoor
