/- AddrApart returns true for every number. -/
import Derived.Test.YtmaebbbaooodaaaAwake03
import Derived.Test.YtmaebbbaooodaaaApartP
namespace Go.Proofs.Ytmaebbbaooodaaa
open Go Go.Proofs Go.RowKit

/-- The same, in the words of the walk. -/
theorem apart_facts (a b : Int) (h0 : 0 ≤ a) (h1 : a ≤ b) (h2 : b < 64) : ∃ m : Nat, m < 8 ∧ (pieces a b).length = m + 1 ∧ (coverL [(a, b)]).length = m + 1 ∧ coverE [(a, b)] = 0 ∧
    (∃ y, (pieces a b)[0]? = some (a, y)) ∧ (∃ x, (pieces a b)[m]? = some (x, b)) ∧
    ∀ i, i ≤ m → ∃ x y, (pieces a b)[i]? = some (x, y) ∧ (coverL [(a, b)])[i]? = some (x / 8) ∧ 0 ≤ x ∧ x ≤ y ∧ y < 64 ∧ y / 8 = x / 8 ∧ (∀ j, i = j + 1 → ∃ x', (pieces a b)[j]? = some (x', x - 1)) := by
  have h := apart_of a b h0 h1 h2
  unfold apartB at h
  simp only [Bool.and_eq_true, decide_eq_true_eq] at h
  obtain ⟨⟨⟨⟨⟨⟨g1, g2⟩, g3⟩, g4⟩, g5⟩, g6⟩, g7⟩ := h
  refine ⟨(pieces a b).length - 1, by omega, by omega, by omega, g4, ?_, ?_, ?_⟩
  · rw [List.head?_eq_getElem?] at g5
    cases hh : (pieces a b)[0]? with
    | none => rw [hh] at g5; simp at g5
    | some p => rw [hh] at g5; simp at g5; exact ⟨p.2, by rw [← g5]⟩
  · rw [List.getLast?_eq_getElem?] at g6
    cases hh : (pieces a b)[(pieces a b).length - 1]? with
    | none => rw [hh] at g6; simp at g6
    | some p => rw [hh] at g6; simp at g6; exact ⟨p.1, by rw [← g6]⟩
  · intro i hi
    have hs := List.all_eq_true.1 g7 i (by simp; omega)
    unfold stepB at hs
    cases hp : (pieces a b)[i]? with
    | none => rw [hp] at hs; simp at hs
    | some p =>
      cases hc : (coverL [(a, b)])[i]? with
      | none => rw [hp, hc] at hs; simp at hs
      | some c =>
        rw [hp, hc] at hs
        simp only [Bool.and_eq_true, decide_eq_true_eq] at hs
        obtain ⟨⟨⟨⟨⟨k1, k2⟩, k3⟩, k4⟩, k5⟩, k6⟩ := hs
        refine ⟨p.1, p.2, rfl, by rw [k4], k1, k2, k3, by omega, ?_⟩
        rintro j rfl
        simp only at k6
        cases hq : (pieces a b)[j]? with
        | none => rw [hq] at k6; simp at k6
        | some q =>
          rw [hq] at k6
          simp only [Bool.and_eq_true, decide_eq_true_eq] at k6
          obtain ⟨⟨k7, k8⟩, k9⟩ := k6
          exact ⟨q.1, by rw [show p.1 - 1 = q.2 by omega]⟩

set_option maxRecDepth 100000 in
set_option maxHeartbeats 2000000 in
theorem AddrApart_true (n : Int) (w : World) :
    Calls Try.prog 6 #[.int .i64 n] w fun e w' => e = .returned (.bool true) ∧ Below w.heap.size w w' := by
  obtain ⟨a0, a1, a2⟩ := mLo_bd n
  obtain ⟨m, hm, hpl, hcl, hce, ⟨y0, hp0⟩, ⟨xm, hpm⟩, hall⟩ := apart_facts (mLo n) (mHi n) a0 a1 a2
  go_enter Try.func6, Try.ntmps6
  have Hall := Lib.hid hall
  have Hp0 := Lib.hid hp0
  have Hpm := Lib.hid hpm
  have Hpl := Lib.hid hpl
  have Hcl := Lib.hid hcl
  have Hce := Lib.hid hce
  clear hall hp0 hpm hpl hcl hce
  go_wp2_with fail
  refine (made_any _ _).mono ?_
  rintro e w1 ⟨rfl, hb1⟩
  generalize mLo n = a at *
  generalize mHi n = b at *
  go_wp2_with fail
  refine (Pieces_rd _ _ _ a0 a1 a2).mono ?_
  rintro e w2 ⟨A, c, rfl, hr2, hb2⟩
  have kR := (Bk.new w1 #[.int .i64 a, .int .i64 b] 23).to hb2
  obtain ⟨cR, fR, lR⟩ := kR.facts
  rw [Hpl.out]
  rw [Hpl.out] at hr2
  go_wp2_with fail
  refine (Cover_any _ _ _ [(a, b)] _ (by omega) (by have := Rd.new (w := w2) (sz := 2) (n := 1) #[.int .i64 a, .int .i64 b] 23 rfl; exact this)).mono ?_
  rintro e w3 ⟨B, d, rfl, hr3, hb3⟩
  rw [Hcl.out, Hce.out]
  rw [Hcl.out] at hr3
  have hr2' := (hr2.alloc (.cells #[.int .i64 a, .int .i64 b] 23)).below hb3 (Nat.le_refl _)
  clear cR fR lR
  replace kR := (kR.alloc _).to hb3
  obtain ⟨cR, fR, lR⟩ := kR.facts
  clear hr2
  obtain ⟨g, off, r0, hA, hgl, hr0, hc0, hc0'⟩ := hr2'.pair (i := 0) (by omega)
  obtain ⟨g', off', rm, hA', hgl', hrm, hcm, hcm'⟩ := hr2'.pair (i := m) (by omega)
  subst hA
  injection hA' with hA'
  injection hA' with e1 e2
  subst e1 e2
  rw [Hp0.out] at hr0
  rw [Hpm.out] at hrm
  injection hr0 with hr0
  injection hrm with hrm
  subst hr0 hrm
  simp only at hc0 hc0' hcm hcm'
  rw [Nat.zero_mul, Nat.add_zero] at hc0
  have hz0 : ((m : Int) + 1 == 0) = false := by simp; omega
  have hwr : IntKind.i64.wrap ((m : Int) + 1 - 1) = (m : Int) := by rw [IntWalk.i64_in _ (by omega)]; omega
  have hi0 : (0 : Int) ≤ (m : Int) := by omega
  have hi1 : (m : Int) < (m : Int) + 1 := by omega
  go_wp2_with fail
  go_quiet (fail)
  clear hwr hi0 hi1
  go_wp2_with fail
  clear hc0 hc0' hcm hcm' cR fR lR hgl'
  go_loopw [8] (fun i wr => ∃ k : Nat, k ≤ m + 1 ∧ i = .int .i64 k ∧ Below w3.heap.size w3 wr) (fun i _ => m + 1 - (intOf i).toNat)
  case atStart => exact ⟨0, by omega, rfl, below_drawn (Below.refl _ _) _⟩
  case round =>
    obtain ⟨k, hk, rfl, hbw⟩ := hrel
    by_cases hlt : k < m + 1
    · obtain ⟨x, y, hx, hc, x0, xy, y1, hxy, hprev⟩ := Hall.out k (by omega)
      obtain ⟨g1, o1, r1, hA1, hl1, hr1, hc1, hc1'⟩ := (hr2'.below hbw (Nat.le_refl _)).pair (i := k) (by omega)
      obtain ⟨g2, o2, z2, hA2, hl2, hz2, hc2⟩ := (hr3.below hbw (Nat.le_refl _)).num (i := k) (by omega)
      injection hA1 with hA1
      injection hA1 with e1 e2
      subst e1 e2 hA2
      rw [hx] at hr1
      injection hr1 with hr1
      subst hr1
      rw [hc] at hz2
      injection hz2 with hz2
      subst hz2
      simp only at hc1 hc1'
      have b1 : (x / 8 != y / 8) = false := by simp; omega
      have b2 : decide (y < x) = false := by simp; omega
      have i0 : (0 : Int) ≤ (k : Int) := by omega
      have i1 : (k : Int) < (m : Int) + 1 := by omega
      clear hx hc hxy
      cases k with
      | zero =>
        clear hprev
        simp only [Nat.zero_mul, Nat.add_zero] at hc1 hc1' hc2
        go_wp2_with (first | (go_at_call 12; refine (Leaf_ok _ _ (by omega) (by omega)).mono ?_; rintro e w' ⟨rfl, rfl⟩) | (go_at_call 11; refine (awake_true _).mono ?_; rintro e w5 ⟨rfl, hb5⟩))
        go_quiet (fail)
        go_wp2_with (first | (go_at_call 12; refine (Leaf_ok _ _ (by omega) (by omega)).mono ?_; rintro e w' ⟨rfl, rfl⟩) | (go_at_call 11; refine (awake_true _).mono ?_; rintro e w5 ⟨rfl, hb5⟩))
        go_roundw
        case rel => exact ⟨0 + 1, by omega, by go_num, below_drawn hbw _⟩
        case measure => simp [intOf]
      | succ j =>
        obtain ⟨x', hx'⟩ := hprev j rfl
        obtain ⟨g3, o3, r3, hA3, hl3, hr3', hc3, hc3'⟩ := (hr2'.below hbw (Nat.le_refl _)).pair (i := j) (by omega)
        injection hA3 with hA3
        injection hA3 with e1 e2
        subst e1 e2
        rw [hx'] at hr3'
        injection hr3' with hr3'
        subst hr3'
        simp only at hc3 hc3'
        have b3 : decide ((0 : Int) < ((j + 1 : Nat) : Int)) = true := by rw [decide_eq_true_eq]; omega
        have b4 : (x != IntKind.i64.wrap (x - 1 + 1)) = false := by rw [IntWalk.i64_in _ (by omega)]; simp
        have hwj : IntKind.i64.wrap (((j + 1 : Nat) : Int) - 1) = (j : Int) := by rw [IntWalk.i64_in _ (by omega)]; omega
        have j0 : (0 : Int) ≤ (j : Int) := by omega
        have j1 : (j : Int) < (m : Int) + 1 := by omega
        clear hprev hx'
        go_wp2_with (first | (go_at_call 12; refine (Leaf_ok _ _ (by omega) (by omega)).mono ?_; rintro e w' ⟨rfl, rfl⟩) | (go_at_call 11; refine (awake_true _).mono ?_; rintro e w5 ⟨rfl, hb5⟩))
        go_quiet (fail)
        clear hwj b4 b3
        go_wp2_with (first | (go_at_call 12; refine (Leaf_ok _ _ (by omega) (by omega)).mono ?_; rintro e w' ⟨rfl, rfl⟩) | (go_at_call 11; refine (awake_true _).mono ?_; rintro e w5 ⟨rfl, hb5⟩))
        go_roundw
        case rel => exact ⟨j + 1 + 1, by omega, by go_num, below_drawn hbw _⟩
        case measure => simp [intOf]; omega
    · go_wp2_with (first | (go_at_call 12; refine (Leaf_ok _ _ (by omega) (by omega)).mono ?_; rintro e w' ⟨rfl, rfl⟩) | (go_at_call 11; refine (awake_true _).mono ?_; rintro e w5 ⟨rfl, hb5⟩))
      go_ret
      have hb4 := hbw
      exact ⟨rfl, by (repeat' (first | exact Below.refl _ _ | assumption | refine balloc ?_ _ | refine below_drawn ?_ _ | refine below_drew ?_ | refine bnext ?_ hb24 | refine bnext ?_ hb23 | refine bnext ?_ hb22 | refine bnext ?_ hb21 | refine bnext ?_ hb20 | refine bnext ?_ hb19 | refine bnext ?_ hb18 | refine bnext ?_ hb17 | refine bnext ?_ hb16 | refine bnext ?_ hb15 | refine bnext ?_ hb14 | refine bnext ?_ hb13 | refine bnext ?_ hb12 | refine bnext ?_ hb11 | refine bnext ?_ hb10 | refine bnext ?_ hb9 | refine bnext ?_ hb8 | refine bnext ?_ hb7 | refine bnext ?_ hb6 | refine bnext ?_ hb5 | refine bnext ?_ hb4 | refine bnext ?_ hb3 | refine bnext ?_ hb2 | refine bnext ?_ hb1))⟩

end Go.Proofs.Ytmaebbbaooodaaa
