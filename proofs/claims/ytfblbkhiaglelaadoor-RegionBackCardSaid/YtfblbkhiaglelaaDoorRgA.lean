/- Which lists of regions are valid, by the program. -/
import Derived.Test.YtfblbkhiaglelaaDoorRg1
import Derived.Test.YtfblbkhiaglelaaDoorProg
import Derived.Laws.BitsAllLaws
namespace Go.Proofs.YtfblbkhiaglelaaDoor
open Go Go.Proofs Go.RowKit
set_option linter.unusedSimpArgs false
set_option linter.unusedVariables false
set_option maxRecDepth 100000

theorem rIsPage (n : Int) (w : World) :
    Calls Tryd.prog 29 #[.int .i64 n] w fun e w' => e = .returned (.bool (decide (0 ≤ n) && decide (n < 64))) ∧ w' = w := by
  by_cases h : 0 ≤ n
  · go_enter Tryd.func29, Tryd.ntmps29
    go_wp2
    go_ret
    exact ⟨by simp [h], rfl⟩
  · go_enter Tryd.func29, Tryd.ntmps29
    go_wp2
    go_ret
    exact ⟨by simp; omega, rfl⟩
theorem Rd.pr {w : World} {A : Option Addr} {n : Nat} {rs : List (Int × Int)} (h : Rd w 2 A n (flat2 .i64 rs)) {i : Nat} (hi : i < n) :
    ∃ b off a c, A = some ⟨b, off, none⟩ ∧ b < w.heap.size ∧ rs.getD i (0, 0) = (a, c) ∧ w.cell? ⟨b, off + i * 2, none⟩ = some (.int .i64 a) ∧ w.cell? ⟨b, off + i * 2 + 1, none⟩ = some (.int .i64 c) := by
  obtain ⟨b, off, r, e, hb, hr, h1, h2⟩ := h.pair hi
  exact ⟨b, off, r.1, r.2, e, hb, by rw [getD_pair hr], h1, h2⟩

set_option maxHeartbeats 1000000 in
theorem rcheck_any (A : Option Addr) (n c : Nat) (rs : List (Int × Int)) (i : Nat) (w : World) (hr : Rd w 2 A n (flat2 .i64 rs)) (hi : i < n) (hn : n ≤ 1000000) (hp : 0 < i → rgE rs (i - 1) = 0) :
    Calls Tryd.prog 46 #[.slice A n c, .int .i64 i] w fun e w' => e = .returned (.int .i64 (rgE rs i)) ∧ Below w.heap.size w w' := by
  obtain ⟨b, off, x, y, rfl, hb, hg, c1, c2⟩ := hr.pr hi
  have hE : rgE rs i = if x < 0 ∨ y < x ∨ 63 < y then 2 else if 0 < i ∧ x < (rs.getD (i - 1) (0, 0)).2 + 2 then 8 else 0 := by unfold rgE; rw [hg]
  have HE := Lib.hid hE
  clear hE hg
  by_cases hbad : x < 0 ∨ y < x ∨ 63 < y
  · rw [HE.out, if_pos hbad]
    have hcs : (¬ 0 ≤ x) ∨ (0 ≤ x ∧ ¬ x < 64) ∨ (0 ≤ x ∧ x < 64 ∧ ¬ 0 ≤ y) ∨ (0 ≤ x ∧ x < 64 ∧ 0 ≤ y ∧ ¬ y < 64) ∨ (0 ≤ x ∧ x < 64 ∧ 0 ≤ y ∧ y < 64 ∧ y < x) := by omega
    clear hbad HE hp hr
    rcases hcs with h1 | ⟨h1, h2⟩ | ⟨h1, h2, h3⟩ | ⟨h1, h2, h3, h4⟩ | ⟨h1, h2, h3, h4, h5⟩
    all_goals
      go_enter Tryd.func46, Tryd.ntmps46
      go_wp2_with (go_at_call 29; refine (rIsPage _ _).mono ?_; rintro e w' ⟨rfl, rfl⟩)
      go_ret
      exact ⟨rfl, by (repeat' (first | exact Below.refl _ _ | assumption | refine balloc ?_ _ | refine below_drawn ?_ _ | refine below_drew ?_ | refine bnext ?_ hb24 | refine bnext ?_ hb23 | refine bnext ?_ hb22 | refine bnext ?_ hb21 | refine bnext ?_ hb20 | refine bnext ?_ hb19 | refine bnext ?_ hb18 | refine bnext ?_ hb17 | refine bnext ?_ hb16 | refine bnext ?_ hb15 | refine bnext ?_ hb14 | refine bnext ?_ hb13 | refine bnext ?_ hb12 | refine bnext ?_ hb11 | refine bnext ?_ hb10 | refine bnext ?_ hb9 | refine bnext ?_ hb8 | refine bnext ?_ hb7 | refine bnext ?_ hb6 | refine bnext ?_ hb5 | refine bnext ?_ hb4 | refine bnext ?_ hb3 | refine bnext ?_ hb2 | refine bnext ?_ hb1))⟩
  · rw [HE.out, if_neg hbad]
    have h1 : 0 ≤ x := by omega
    have h2 : x < 64 := by omega
    have h3 : 0 ≤ y := by omega
    have h4 : y < 64 := by omega
    have h5 : ¬ y < x := by omega
    clear hbad HE
    rcases i with _ | i
    · rw [if_neg (by omega)]
      simp only [Nat.zero_mul, Nat.add_zero] at c1 c2
      go_enter Tryd.func46, Tryd.ntmps46
      go_wp2_with (go_at_call 29; refine (rIsPage _ _).mono ?_; rintro e w' ⟨rfl, rfl⟩)
      go_quiet (fail)
      go_wp2_with fail
      go_ret
      exact ⟨rfl, by (repeat' (first | exact Below.refl _ _ | assumption | refine balloc ?_ _ | refine below_drawn ?_ _ | refine below_drew ?_ | refine bnext ?_ hb24 | refine bnext ?_ hb23 | refine bnext ?_ hb22 | refine bnext ?_ hb21 | refine bnext ?_ hb20 | refine bnext ?_ hb19 | refine bnext ?_ hb18 | refine bnext ?_ hb17 | refine bnext ?_ hb16 | refine bnext ?_ hb15 | refine bnext ?_ hb14 | refine bnext ?_ hb13 | refine bnext ?_ hb12 | refine bnext ?_ hb11 | refine bnext ?_ hb10 | refine bnext ?_ hb9 | refine bnext ?_ hb8 | refine bnext ?_ hb7 | refine bnext ?_ hb6 | refine bnext ?_ hb5 | refine bnext ?_ hb4 | refine bnext ?_ hb3 | refine bnext ?_ hb2 | refine bnext ?_ hb1))⟩
    · obtain ⟨b', off', x', y', he, hb', hg', c1', c2'⟩ := hr.pr (i := i) (by omega)
      injection he with he
      injection he with hq1 hq2
      subst hq1 hq2
      have hbd := rgE_one (hp (by omega))
      rw [Nat.add_sub_cancel, hg'] at hbd
      rw [Nat.add_sub_cancel, hg']
      simp only at hbd
      have hy1 : 0 ≤ y' := by omega
      have hy2 : y' ≤ 63 := by omega
      clear hbd hp hr hg'
      by_cases hlt : x < y' + 2
      · rw [if_pos ⟨by omega, hlt⟩]
        go_enter Tryd.func46, Tryd.ntmps46
        go_wp2_with (go_at_call 29; refine (rIsPage _ _).mono ?_; rintro e w' ⟨rfl, rfl⟩)
        go_quiet (fail)
        go_wp2_with fail
        go_ret
        exact ⟨rfl, by (repeat' (first | exact Below.refl _ _ | assumption | refine balloc ?_ _ | refine below_drawn ?_ _ | refine below_drew ?_ | refine bnext ?_ hb24 | refine bnext ?_ hb23 | refine bnext ?_ hb22 | refine bnext ?_ hb21 | refine bnext ?_ hb20 | refine bnext ?_ hb19 | refine bnext ?_ hb18 | refine bnext ?_ hb17 | refine bnext ?_ hb16 | refine bnext ?_ hb15 | refine bnext ?_ hb14 | refine bnext ?_ hb13 | refine bnext ?_ hb12 | refine bnext ?_ hb11 | refine bnext ?_ hb10 | refine bnext ?_ hb9 | refine bnext ?_ hb8 | refine bnext ?_ hb7 | refine bnext ?_ hb6 | refine bnext ?_ hb5 | refine bnext ?_ hb4 | refine bnext ?_ hb3 | refine bnext ?_ hb2 | refine bnext ?_ hb1))⟩
      · rw [if_neg (by omega)]
        go_enter Tryd.func46, Tryd.ntmps46
        go_wp2_with (go_at_call 29; refine (rIsPage _ _).mono ?_; rintro e w' ⟨rfl, rfl⟩)
        go_quiet (fail)
        go_wp2_with fail
        go_ret
        exact ⟨rfl, by (repeat' (first | exact Below.refl _ _ | assumption | refine balloc ?_ _ | refine below_drawn ?_ _ | refine below_drew ?_ | refine bnext ?_ hb24 | refine bnext ?_ hb23 | refine bnext ?_ hb22 | refine bnext ?_ hb21 | refine bnext ?_ hb20 | refine bnext ?_ hb19 | refine bnext ?_ hb18 | refine bnext ?_ hb17 | refine bnext ?_ hb16 | refine bnext ?_ hb15 | refine bnext ?_ hb14 | refine bnext ?_ hb13 | refine bnext ?_ hb12 | refine bnext ?_ hb11 | refine bnext ?_ hb10 | refine bnext ?_ hb9 | refine bnext ?_ hb8 | refine bnext ?_ hb7 | refine bnext ?_ hb6 | refine bnext ?_ hb5 | refine bnext ?_ hb4 | refine bnext ?_ hb3 | refine bnext ?_ hb2 | refine bnext ?_ hb1))⟩
end Go.Proofs.YtfblbkhiaglelaaDoor
