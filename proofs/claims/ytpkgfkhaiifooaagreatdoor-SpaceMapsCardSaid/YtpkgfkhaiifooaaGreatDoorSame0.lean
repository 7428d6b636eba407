/- The comparisons of package headgatekit, at equal lists of numbers and words. -/
import Derived.Test.YtpkgfkhaiifooaaGreatDoorTab1
namespace Go.Proofs.YtpkgfkhaiifooaaGreatDoor
open Go Go.Proofs Go.RowKit
set_option linter.unusedSimpArgs false
set_option linter.unusedVariables false

set_option maxHeartbeats 400000 in
theorem SameInts_eq (A B : Option Addr) (n c d : Nat) (zs : List Int) (w : World) (ha : Rd w 1 A n (zs.map (Value.int .i64))) (hb : Rd w 1 B n (zs.map (Value.int .i64))) (hn : n ≤ 1000000) :
    Calls Tryz.prog 15 #[.slice A n c, .slice B n d] w fun e w' => e = .returned (.bool true) ∧ Below w.heap.size w w' := by
  go_enter Tryz.func15, Tryz.ntmps15
  go_wp2
  go_loopw [5] (fun i wr => ∃ k : Nat, k ≤ n ∧ i = .int .i64 k ∧ Below w.heap.size w wr) (fun i _ => n - (intOf i).toNat)
  case atStart => exact ⟨0, Nat.zero_le _, rfl, Below.refl _ _⟩
  case round =>
    obtain ⟨k, hk, rfl, hbw⟩ := hrel
    by_cases hlt : k < n
    · obtain ⟨b, off, r, rfl, hbl, hr, hc1⟩ := (ha.below hbw (Nat.le_refl _)).num hlt
      obtain ⟨b', off', r', rfl, hbl', hr', hc1'⟩ := (hb.below hbw (Nat.le_refl _)).num hlt
      rw [hr] at hr'
      injection hr' with hr'
      subst hr'
      clear hr ha hb
      go_wp2_with fail
      go_quiet (fail)
      go_wp2
      go_roundw
      case rel => exact ⟨k + 1, by omega, by go_num, below_drawn hbw _⟩
      case measure => simp [intOf]; omega
    · go_wp2
      go_ret
      exact ⟨rfl, hbw⟩

set_option maxHeartbeats 400000 in
theorem SameWords_eq (A B : Option Addr) (n c d : Nat) (ws : List Nat) (w : World) (ha : Rd w 1 A n (uw ws)) (hb : Rd w 1 B n (uw ws)) (hs : wsmall ws) (hn : n ≤ 1000000) :
    Calls Tryz.prog 62 #[.slice A n c, .slice B n d] w fun e w' => e = .returned (.bool true) ∧ Below w.heap.size w w' := by
  go_enter Tryz.func62, Tryz.ntmps62
  go_wp2
  go_loopw [5] (fun i wr => ∃ k : Nat, k ≤ n ∧ i = .int .i64 k ∧ Below w.heap.size w wr) (fun i _ => n - (intOf i).toNat)
  case atStart => exact ⟨0, Nat.zero_le _, rfl, Below.refl _ _⟩
  case round =>
    obtain ⟨k, hk, rfl, hbw⟩ := hrel
    by_cases hlt : k < n
    · obtain ⟨b, off, x, rfl, hbl, hx, hxl, hc1⟩ := (ha.below hbw (Nat.le_refl _)).word hs hlt
      obtain ⟨b', off', x', rfl, hbl', hx', hxl', hc1'⟩ := (hb.below hbw (Nat.le_refl _)).word hs hlt
      rw [hx] at hx'
      subst hx'
      clear hx ha hb
      go_wp2_with fail
      go_quiet (fail)
      go_wp2
      go_roundw
      case rel => exact ⟨k + 1, by omega, by go_num, below_drawn hbw _⟩
      case measure => simp [intOf]; omega
    · go_wp2
      go_ret
      exact ⟨rfl, hbw⟩

theorem Rd.to {w w' : World} {sz n : Nat} {A : Option Addr} {xs : List Value} (h : Rd w sz A n xs) (hb : Below w.heap.size w w') : Rd w' sz A n xs := h.below hb (Nat.le_refl _)
theorem Rd.drew1 {w : World} {sz n : Nat} {A : Option Addr} {xs : List Value} (h : Rd w sz A n xs) : Rd w.drew sz A n xs := h
end Go.Proofs.YtpkgfkhaiifooaaGreatDoor
