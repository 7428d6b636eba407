/- Whether a number is in a list (the kit's Has). -/
import Derived.Test.YtpkgfkhaiifooaaDoorSame0
import Derived.Test.YtpkgfkhaiifooaaDoorTab1
namespace Go.Proofs.YtpkgfkhaiifooaaDoor
open Go Go.Proofs Go.RowKit
set_option linter.unusedSimpArgs false
set_option linter.unusedVariables false
set_option maxRecDepth 100000

set_option maxHeartbeats 1000000 in
theorem kHas_any (zs : List Int) (v : Value) (p : Int) (w : World) (hv : IsV w v zs) (hn : zs.length ≤ 1000) :
    Calls Tryd.prog 31 #[v, .int .i64 p] w fun e w' => e = .returned (.bool (decide (p ∈ zs))) ∧ w = w' := by
  obtain ⟨A, c, rfl, hr⟩ := hv
  obtain ⟨N, hN⟩ : ∃ N, N = zs.length := ⟨_, rfl⟩
  rw [← hN] at hr hn ⊢
  have HN := Lib.hid hN
  clear hN
  go_enter Tryd.func31, Tryd.ntmps31
  go_wp2_with fail
  go_loopw [5] (fun i wr => ∃ k : Nat, k ≤ N ∧ i = .int .i64 k ∧ Hid (∀ j, j < k → zs.getD j 0 ≠ p) ∧ wr = w) (fun i _ => N - (intOf i).toNat)
  case atStart => exact ⟨0, by omega, rfl, Lib.hid (fun j h => absurd h (by omega)), rfl⟩
  case round =>
    obtain ⟨k, hk, rfl, Hno, rfl⟩ := hrel
    by_cases hlt : k < N
    · obtain ⟨g, off, z, rfl, hg, hz, hc⟩ := hr.numb hlt
      by_cases hzp : z = p
      · have hyes : p ∈ zs := by
          rw [← hzp, ← hz, List.getD_eq_getElem?_getD, List.getElem?_eq_getElem (by rw [← HN.out]; exact hlt)]
          exact List.getElem_mem _
        have HY := Lib.hid (decide_eq_true hyes)
        have d1 : (z == p) = true := by simpa using hzp
        clear hyes hzp hz
        go_wp2_with fail
        go_ret
        exact ⟨by rw [HY.out]; rfl, rfl⟩
      · have d1 : (z == p) = false := by simpa using hzp
        have H2 := Lib.hid (show ∀ j, j < k + 1 → zs.getD j 0 ≠ p from fun j hj => by
          rcases Nat.lt_or_ge j k with h | h
          · exact Hno.out j h
          · have : j = k := by omega
            subst this
            rw [hz]; exact hzp)
        clear hzp hz
        go_wp2_with fail
        go_roundw
        case rel => first | exact ⟨k + 1, by omega, by go_num, H2, rfl⟩ | exact ⟨k + 1, by omega, by go_num, H2, trivial⟩
        case measure => simp [intOf]; omega
    · have hno : ¬ p ∈ zs := by
        intro hp
        obtain ⟨j, hj, he⟩ := List.getElem_of_mem hp
        have := HN.out
        refine Hno.out j (by omega) ?_
        rw [List.getD_eq_getElem?_getD, List.getElem?_eq_getElem hj]
        exact he
      have HY := Lib.hid (decide_eq_false hno)
      obtain rfl : k = N := by omega
      clear hno
      go_wp2_with fail
      go_ret
      exact ⟨by rw [HY.out]; rfl, rfl⟩
end Go.Proofs.YtpkgfkhaiifooaaDoor
