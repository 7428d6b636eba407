/- The comparisons of package headgatekit, at equal lists. -/
import Derived.Test.YtmaebbbaooodaaaDoorBase
import Derived.Test.YtmaebbbaooodaaaDoorProg
namespace Go.Proofs.YtmaebbbaooodaaaDoor
open Go Go.Proofs Go.RowKit
set_option linter.unusedSimpArgs false
set_option linter.unusedVariables false

set_option maxHeartbeats 400000 in
theorem SameRanges_eq (A B : Option Addr) (n c d : Nat) (rs : List (Int × Int)) (w : World) (ha : Rd w 2 A n (flat2 .i64 rs)) (hb : Rd w 2 B n (flat2 .i64 rs)) (hn : n ≤ 1000000) :
    Calls Tryd.prog 18 #[.slice A n c, .slice B n d] w fun e w' => e = .returned (.bool true) ∧ Below w.heap.size w w' := by
  go_enter Tryd.func18, Tryd.ntmps18
  go_wp2
  go_loopw [5] (fun i wr => ∃ k : Nat, k ≤ n ∧ i = .int .i64 k ∧ Below w.heap.size w wr) (fun i _ => n - (intOf i).toNat)
  case atStart => exact ⟨0, Nat.zero_le _, rfl, Below.refl _ _⟩
  case round =>
    obtain ⟨k, hk, rfl, hbw⟩ := hrel
    by_cases hlt : k < n
    · obtain ⟨b, off, r, rfl, hbl, hr, hc1, hc2⟩ := (ha.below hbw (Nat.le_refl _)).pair hlt
      obtain ⟨b', off', r', rfl, hbl', hr', hc1', hc2'⟩ := (hb.below hbw (Nat.le_refl _)).pair hlt
      rw [hr] at hr'
      injection hr' with hr'
      subst hr'
      clear hr ha hb
      go_wp2_with fail
      go_quiet (fail)
      go_wp2
      go_roundw
      case rel => exact ⟨k + 1, by omega, by go_num, below_drawn hbw _⟩
      case measure => simp [intOf]; omega
    · go_wp2
      go_ret
      exact ⟨rfl, hbw⟩

set_option maxHeartbeats 400000 in
theorem SameInts_eq (A B : Option Addr) (n c d : Nat) (zs : List Int) (w : World) (ha : Rd w 1 A n (zs.map (Value.int .i64))) (hb : Rd w 1 B n (zs.map (Value.int .i64))) (hn : n ≤ 1000000) :
    Calls Tryd.prog 19 #[.slice A n c, .slice B n d] w fun e w' => e = .returned (.bool true) ∧ Below w.heap.size w w' := by
  go_enter Tryd.func19, Tryd.ntmps19
  go_wp2
  go_loopw [5] (fun i wr => ∃ k : Nat, k ≤ n ∧ i = .int .i64 k ∧ Below w.heap.size w wr) (fun i _ => n - (intOf i).toNat)
  case atStart => exact ⟨0, Nat.zero_le _, rfl, Below.refl _ _⟩
  case round =>
    obtain ⟨k, hk, rfl, hbw⟩ := hrel
    by_cases hlt : k < n
    · obtain ⟨b, off, r, rfl, hbl, hr, hc1⟩ := (ha.below hbw (Nat.le_refl _)).num hlt
      obtain ⟨b', off', r', rfl, hbl', hr', hc1'⟩ := (hb.below hbw (Nat.le_refl _)).num hlt
      rw [hr] at hr'
      injection hr' with hr'
      subst hr'
      clear hr ha hb
      go_wp2_with fail
      go_quiet (fail)
      go_wp2
      go_roundw
      case rel => exact ⟨k + 1, by omega, by go_num, below_drawn hbw _⟩
      case measure => simp [intOf]; omega
    · go_wp2
      go_ret
      exact ⟨rfl, hbw⟩

end Go.Proofs.YtmaebbbaooodaaaDoor
