/- The reader of a text of regions: one byte. -/
import Derived.Test.YtfblbkhiaglelaaDoorRd2
namespace Go.Proofs.YtfblbkhiaglelaaDoor
open Go Go.Proofs Go.RowKit
set_option linter.unusedSimpArgs false
set_option linter.unusedVariables false
set_option maxRecDepth 100000

set_option maxHeartbeats 2000000 in
theorem rnext_t (s : List UInt8) (b a c : Nat) (bad : Bool) (w : World) (K : Bk w b #[.string ⟨s.toArray⟩, .int .i64 a, .bool bad] 71) (hs : s.length ≤ 100000) (ha : a < s.length) (hc : (s.getD a 0).toNat = c) :
    Calls Tryd.prog 50 #[.pointer (some ⟨b, 0, none⟩), .int .u8 c] w fun e w' => e = .returned (.bool true) ∧ Bk w' b #[.string ⟨s.toArray⟩, .int .i64 ((a : Int) + 1), .bool bad] 71 ∧ Tch b w w' := by
  have hx := byte_at s a ha
  rw [hc] at hx
  clear hc
  have T := Tch.refl b w
  have cb0 := K.cell 0
  have cb1 := K.cell 1
  have fb1 := K.frozen 1
  simp only [List.getElem?_toArray, List.getElem?_cons_zero, List.getElem?_cons_succ] at cb0 cb1
  have hI : (a : Int) < (s.length : Int) := by omega
  have eL : decide ((a : Int) < (s.length : Int)) = true := by simp; omega
  go_enter Tryd.func50, Tryd.ntmps50
  go_wp2_with fail
  go_quiet (fail)
  go_wp2_with fail
  go_ret
  refine ⟨rfl, ?_, ?_⟩
  · repeat (with_reducible first | exact K | apply bkp1 | refine bkd ?_)
  · repeat (with_reducible first | exact T | refine tcp ?_ | refine tcd ?_)
set_option maxHeartbeats 2000000 in
theorem rnext_f (s : List UInt8) (b a c : Nat) (bad : Bool) (w : World) (K : Bk w b #[.string ⟨s.toArray⟩, .int .i64 a, .bool bad] 71) (hs : s.length ≤ 100000) (ha : a ≤ s.length) (hc : a < s.length → (s.getD a 0).toNat ≠ c) :
    Calls Tryd.prog 50 #[.pointer (some ⟨b, 0, none⟩), .int .u8 c] w fun e w' => e = .returned (.bool false) ∧ Bk w' b #[.string ⟨s.toArray⟩, .int .i64 a, .bool bad] 71 ∧ Tch b w w' := by
  have T := Tch.refl b w
  have cb0 := K.cell 0
  have cb1 := K.cell 1
  simp only [List.getElem?_toArray, List.getElem?_cons_zero, List.getElem?_cons_succ] at cb0 cb1
  by_cases hlt : a < s.length
  · have hx := byte_at s a hlt
    obtain ⟨d, hd⟩ : ∃ d, (s.getD a 0).toNat = d := ⟨_, rfl⟩
    have hne : d ≠ c := by have := hc hlt; omega
    rw [hd] at hx
    have hI : (a : Int) < (s.length : Int) := by omega
    have eL : decide ((a : Int) < (s.length : Int)) = true := by simp; omega
    have eD : ((d : Int) == (c : Int)) = false := by simp; omega
    clear hd hc
    go_enter Tryd.func50, Tryd.ntmps50
    go_wp2_with fail
    go_quiet (fail)
    go_wp2_with fail
    go_ret
    refine ⟨rfl, ?_, ?_⟩
    · repeat (with_reducible first | exact K | refine bkd ?_)
    · repeat (with_reducible first | exact T | refine tcd ?_)
  · have hI : ¬ (a : Int) < (s.length : Int) := by omega
    have eL : decide ((a : Int) < (s.length : Int)) = false := by simp; omega
    clear hc
    go_enter Tryd.func50, Tryd.ntmps50
    go_wp2_with fail
    go_quiet (fail)
    go_wp2_with fail
    go_ret
    refine ⟨rfl, ?_, ?_⟩
    · repeat (with_reducible first | exact K | refine bkd ?_)
    · repeat (with_reducible first | exact T | refine tcd ?_)
end Go.Proofs.YtfblbkhiaglelaaDoor
