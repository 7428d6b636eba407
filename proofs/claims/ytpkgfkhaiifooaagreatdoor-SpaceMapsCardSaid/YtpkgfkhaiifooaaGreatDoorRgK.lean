/- The comparisons of package headgatekit, at equal lists. -/
import Derived.Test.YtpkgfkhaiifooaaGreatDoorBase
import Derived.Test.YtpkgfkhaiifooaaGreatDoorProg
import Derived.Test.YtpkgfkhaiifooaaGreatDoorOwn2
namespace Go.Proofs.YtpkgfkhaiifooaaGreatDoor
open Go Go.Proofs Go.RowKit
set_option linter.unusedSimpArgs false
set_option linter.unusedVariables false

set_option maxHeartbeats 400000 in
theorem SameRanges_eq (A B : Option Addr) (n c d : Nat) (rs : List (Int × Int)) (w : World) (ha : Rd w 2 A n (flat2 .i64 rs)) (hb : Rd w 2 B n (flat2 .i64 rs)) (hn : n ≤ 1000000) :
    Calls Tryz.prog 26 #[.slice A n c, .slice B n d] w fun e w' => e = .returned (.bool true) ∧ Below w.heap.size w w' := by
  go_enter Tryz.func26, Tryz.ntmps26
  go_wp2
  go_loopw [5] (fun i wr => ∃ k : Nat, k ≤ n ∧ i = .int .i64 k ∧ Below w.heap.size w wr) (fun i _ => n - (intOf i).toNat)
  case atStart => exact ⟨0, Nat.zero_le _, rfl, Below.refl _ _⟩
  case round =>
    obtain ⟨k, hk, rfl, hbw⟩ := hrel
    by_cases hlt : k < n
    · obtain ⟨b, off, r, rfl, hbl, hr, hc1, hc2⟩ := (ha.below hbw (Nat.le_refl _)).pair hlt
      obtain ⟨b', off', r', rfl, hbl', hr', hc1', hc2'⟩ := (hb.below hbw (Nat.le_refl _)).pair hlt
      rw [hr] at hr'
      injection hr' with hr'
      subst hr'
      clear hr ha hb
      go_wp2_with fail
      go_quiet (fail)
      go_wp2
      go_roundw
      case rel => exact ⟨k + 1, by omega, by go_num, below_drawn hbw _⟩
      case measure => simp [intOf]; omega
    · go_wp2
      go_ret
      exact ⟨rfl, hbw⟩

theorem infoRgK : (Tryz.prog.info? 72).map (fun i => (i.zero, i.size, i.bytes)) = some (some (.agg #[.int .i64 0, .int .i64 0]), 2, 16) := by kernel_rfl
set_option maxHeartbeats 400000 in
theorem OwnRanges_own (A : Option Addr) (n c : Nat) (rs : List (Int × Int)) (w : World) (hn : n ≤ 1000000) (hr : Rd w 2 A n (flat2 .i64 rs)) :
    Calls Tryz.prog 18 #[.slice A n c] w fun e w' => ∃ A' c', e = .returned (.slice A' n c') ∧ w'.ownsRow w.heap.size 72 2 (.slice A' n c') n (flat2 .i64 rs) ∧ Below w.heap.size w w' := by
  obtain ⟨i0, hi, hz0, hz1, hz2⟩ := info_parts infoRgK
  go_enter Tryz.func18, Tryz.ntmps18
  go_wp2_with (at_builtin; refine wpList_append_rd _ rfl _ _ 22 rfl w.heap.size 72 i0 (.agg #[.int .i64 0, .int .i64 0]) 2 16 Tryz.underlying22 hi hz0 hz1 hz2 rfl (by decide) _ _ _ rfl (own_empty w 72 2) A n c (flat2 .i64 rs) rfl (hr.alloc _) (oneCells_flat2 _ _) (by simp only [maxLen]; omega) (by omega) (by simp) ?_; intro v' w1 hown' hgrow)
  go_ret
  have hB1 : Below w.heap.size w w1 := (((Below.refl _ w).alloc (Nat.le_refl _) _).grown hgrow (by simp) (fun k e => by cases e; exact Nat.le_refl _))
  rw [Nat.zero_add, List.nil_append] at hown'
  obtain ⟨A', c', rfl, hrd⟩ := own_slice hown'
  exact ⟨A', c', rfl, hown', hB1⟩

end Go.Proofs.YtpkgfkhaiifooaaGreatDoor
