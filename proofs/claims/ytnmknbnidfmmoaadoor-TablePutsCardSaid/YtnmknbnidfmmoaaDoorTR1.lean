/- Page tables: the reference's uses and Check. -/
import Derived.Test.YtnmknbnidfmmoaaDoorTab20
import Derived.Test.YtnmknbnidfmmoaaDoorTab21
namespace Go.Proofs.YtnmknbnidfmmoaaDoor
open Go Go.Proofs Go.RowKit
set_option linter.unusedSimpArgs false
set_option linter.unusedVariables false
set_option maxRecDepth 100000

def usesB (r : Int) (ls : List Int) (n : Nat) (f : Int) : Bool := (r == f) || (List.range n).any fun j => ls.getD j 0 == f
theorem usesB_iff (r : Int) (ls : List Int) (n : Nat) (f : Int) : usesB r ls n f = true ↔ r = f ∨ ∃ j, j < n ∧ ls.getD j 0 = f := by
  simp [usesB, List.any_eq_true]
theorem usesB_not (r : Int) (ls : List Int) (n : Nat) (f : Int) (h1 : r ≠ f) (h2 : ∀ j, j < n → ls.getD j 0 ≠ f) : usesB r ls n f = false := by
  rw [Bool.eq_false_iff]
  intro h
  rcases (usesB_iff r ls n f).1 h with h | ⟨j, hj, h⟩
  · exact h1 h
  · exact h2 j hj h
set_option maxHeartbeats 1000000 in
theorem rUses_any (r : Int) (ls : List Int) (A B : Option Addr) (c m d n : Nat) (f : Int) (w : World) (hA : Rd w 1 A ls.length (iw ls)) (hn : n ≤ ls.length) (hl : ls.length ≤ 1000) :
    Calls Tryd.prog 49 #[.agg #[.int .i64 r, .slice A ls.length c, .slice B m d], .int .i64 n, .int .i64 f] w fun e w' => e = .returned (.bool (usesB r ls n f)) ∧ Below w.heap.size w w' := by
  have kT := Bk.new w #[.int .i64 r, .slice A ls.length c, .slice B m d] 25
  have hB1 := balloc (Below.refl _ w) (.cells #[.int .i64 r, .slice A ls.length c, .slice B m d] 25)
  generalize hw1 : w.alloc (.cells #[.int .i64 r, .slice A ls.length c, .slice B m d] 25) = w1 at *
  obtain ⟨cT, fT, lT⟩ := kT.facts
  replace hA := hA.below hB1 (Nat.le_refl _)
  by_cases hr : r = f
  · have hd : (r == f) = true := by simp [hr]
    have HV : Hid (usesB r ls n f = true) := Lib.hid ((usesB_iff r ls n f).2 (.inl hr))
    clear hr
    go_enter Tryd.func49, Tryd.ntmps49
    go_wp2_with fail
    go_ret
    exact ⟨by rw [HV.out]; rfl, hB1⟩
  · have hd : (r == f) = false := by simp [hr]
    have Hr := Lib.hid hr
    clear hr
    go_enter Tryd.func49, Tryd.ntmps49
    go_wp2_with fail
    go_loop [7] (fun i => ∃ k : Nat, k ≤ n ∧ i = .int .i64 k ∧ Hid (∀ j, j < k → ls.getD j 0 ≠ f)) (fun i => n - (intOf i).toNat)
    case atStart => exact ⟨0, by omega, rfl, Lib.hid (fun j h => by omega)⟩
    case round =>
      obtain ⟨k, hk, rfl, Hno⟩ := hrel
      by_cases hlt : k < n
      · obtain ⟨g, off, z, rfl, hg, hz, hc⟩ := hA.numb (show k < ls.length by omega)
        have hkI : (k : Int) < (ls.length : Int) := by omega
        by_cases hzf : z = f
        · have hd2 : (z == f) = true := by simp [hzf]
          have HV : Hid (usesB r ls n f = true) := Lib.hid ((usesB_iff r ls n f).2 (.inr ⟨k, hlt, by rw [hz, hzf]⟩))
          clear hzf hz
          go_wp2_with fail
          go_ret
          exact ⟨by rw [HV.out]; rfl, hB1⟩
        · have hd2 : (z == f) = false := by simp [hzf]
          have Hn2 : Hid (∀ j, j < k + 1 → ls.getD j 0 ≠ f) := Lib.hid (fun j h => by
            rcases Nat.lt_or_ge j k with h' | h'
            · exact Hno.out j h'
            · rw [show j = k by omega, hz]; exact hzf)
          clear hzf hz
          go_wp2_with fail
          go_round
          case rel => exact ⟨k + 1, by omega, by go_num, Hn2⟩
          case measure => simp [intOf]; omega
      · have HV : Hid (usesB r ls n f = false) := Lib.hid (usesB_not r ls n f Hr.out (fun j hj => Hno.out j (by omega)))
        obtain rfl : k = n := by omega
        go_wp2_with fail
        go_ret
        exact ⟨by rw [HV.out]; rfl, hB1⟩
end Go.Proofs.YtnmknbnidfmmoaaDoor
