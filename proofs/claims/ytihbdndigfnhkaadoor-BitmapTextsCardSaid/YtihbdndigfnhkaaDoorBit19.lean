/- A new set, by the program and by the reference, for every number. -/
import Derived.Test.YtihbdndigfnhkaaDoorAwake01
namespace Go.Proofs.YtihbdndigfnhkaaDoor
open Go Go.Proofs Go.RowKit
set_option linter.unusedSimpArgs false
set_option linter.unusedVariables false

def newR (n : Int) : Int × List Nat × Int := if n < 0 ∨ 1024 < n then (0, [], 2) else (n, List.replicate ((n.toNat + 63) / 64) 0, 0)
theorem newR_small (n : Int) : wsmall (newR n).2.1 := by
  unfold newR
  split
  · intro x hx; simp at hx
  · exact wsmall_zeros _
theorem newR_len (n : Int) : (newR n).2.1.length ≤ 17 := by
  unfold newR
  split
  · simp
  · simp only [List.length_replicate]; omega
theorem New_all (n : Int) (w : World) : Calls Tryd.prog 19 #[.int .i64 n] w fun e w' => BitsRes w w' (newR n) e := by
  by_cases h : n < 0 ∨ 1024 < n
  · refine (New_any_bad n w h).mono ?_
    rintro e w' ⟨rfl, hb⟩
    unfold newR
    rw [if_pos h]
    exact ⟨none, 0, 0, rfl, own_nil _ _ _ _, hb⟩
  · obtain ⟨m, rfl⟩ : ∃ m : Nat, n = m := ⟨n.toNat, by omega⟩
    refine (New_any m w (by omega)).mono ?_
    rintro e w' ⟨A, rfl, ho, hb⟩
    unfold newR
    rw [if_neg h, Int.toNat_natCast]
    exact ⟨A, _, _, rfl, ho, hb⟩
theorem rNew_all (n : Int) (w : World) : Calls Tryd.prog 20 #[.int .i64 n] w fun e w' => BitsRes w w' (newR n) e := by
  by_cases h : n < 0 ∨ 1024 < n
  · refine (rNew_any_bad n w h).mono ?_
    rintro e w' ⟨rfl, hb⟩
    unfold newR
    rw [if_pos h]
    exact ⟨none, 0, 0, rfl, own_nil _ _ _ _, hb⟩
  · obtain ⟨m, rfl⟩ : ∃ m : Nat, n = m := ⟨n.toNat, by omega⟩
    refine (rNew_any m w (by omega)).mono ?_
    rintro e w' ⟨A, rfl, ho, hb⟩
    unfold newR
    rw [if_neg h, Int.toNat_natCast]
    exact ⟨A, _, _, rfl, ho, hb⟩
end Go.Proofs.YtihbdndigfnhkaaDoor
