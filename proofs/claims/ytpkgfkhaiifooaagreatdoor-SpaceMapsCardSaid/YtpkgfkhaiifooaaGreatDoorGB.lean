/- Several texts in one. -/
import Derived.Test.YtpkgfkhaiifooaaGreatDoorGA
import Derived.Test.YtpkgfkhaiifooaaGreatDoorProg
import Derived.Laws.BitsAllLaws
import Derived.Test.YtpkgfkhaiifooaaGreatDoorOnes
/- Which lists of regions are valid, by the program. -/
namespace Go.Proofs.YtpkgfkhaiifooaaGreatDoor
open Go Go.Proofs Go.RowKit
set_option linter.unusedSimpArgs false
set_option linter.unusedVariables false
set_option maxRecDepth 100000

theorem rIsPage (n : Int) (w : World) :
    Calls Tryz.prog 83 #[.int .i64 n] w fun e w' => e = .returned (.bool (decide (0 ≤ n) && decide (n < 64))) ∧ w' = w := by
  by_cases h : 0 ≤ n
  · go_enter Tryz.func83, Tryz.ntmps83
    go_wp2
    go_ret
    exact ⟨by simp [h], rfl⟩
  · go_enter Tryz.func83, Tryz.ntmps83
    go_wp2
    go_ret
    exact ⟨by simp; omega, rfl⟩
theorem Rd.pr {w : World} {A : Option Addr} {n : Nat} {rs : List (Int × Int)} (h : Rd w 2 A n (flat2 .i64 rs)) {i : Nat} (hi : i < n) :
    ∃ b off a c, A = some ⟨b, off, none⟩ ∧ b < w.heap.size ∧ rs.getD i (0, 0) = (a, c) ∧ w.cell? ⟨b, off + i * 2, none⟩ = some (.int .i64 a) ∧ w.cell? ⟨b, off + i * 2 + 1, none⟩ = some (.int .i64 c) := by
  obtain ⟨b, off, r, e, hb, hr, h1, h2⟩ := h.pair hi
  exact ⟨b, off, r.1, r.2, e, hb, by rw [getD_pair hr], h1, h2⟩

set_option maxHeartbeats 1000000 in
theorem rcheck_any (A : Option Addr) (n c : Nat) (rs : List (Int × Int)) (i : Nat) (w : World) (hr : Rd w 2 A n (flat2 .i64 rs)) (hi : i < n) (hn : n ≤ 1000000) (hp : 0 < i → rgE rs (i - 1) = 0) :
    Calls Tryz.prog 78 #[.slice A n c, .int .i64 i] w fun e w' => e = .returned (.int .i64 (rgE rs i)) ∧ Below w.heap.size w w' := by
  obtain ⟨b, off, x, y, rfl, hb, hg, c1, c2⟩ := hr.pr hi
  have hE : rgE rs i = if x < 0 ∨ y < x ∨ 63 < y then 2 else if 0 < i ∧ x < (rs.getD (i - 1) (0, 0)).2 + 2 then 8 else 0 := by unfold rgE; rw [hg]
  have HE := Lib.hid hE
  clear hE hg
  by_cases hbad : x < 0 ∨ y < x ∨ 63 < y
  · rw [HE.out, if_pos hbad]
    have hcs : (¬ 0 ≤ x) ∨ (0 ≤ x ∧ ¬ x < 64) ∨ (0 ≤ x ∧ x < 64 ∧ ¬ 0 ≤ y) ∨ (0 ≤ x ∧ x < 64 ∧ 0 ≤ y ∧ ¬ y < 64) ∨ (0 ≤ x ∧ x < 64 ∧ 0 ≤ y ∧ y < 64 ∧ y < x) := by omega
    clear hbad HE hp hr
    rcases hcs with h1 | ⟨h1, h2⟩ | ⟨h1, h2, h3⟩ | ⟨h1, h2, h3, h4⟩ | ⟨h1, h2, h3, h4, h5⟩
    all_goals
      go_enter Tryz.func78, Tryz.ntmps78
      go_wp2_with (go_at_call 83; refine (rIsPage _ _).mono ?_; rintro e w' ⟨rfl, rfl⟩)
      go_ret
      exact ⟨rfl, by (repeat' (first | exact Below.refl _ _ | assumption | refine balloc ?_ _ | refine below_drawn ?_ _ | refine below_drew ?_ | refine bnext ?_ hb24 | refine bnext ?_ hb23 | refine bnext ?_ hb22 | refine bnext ?_ hb21 | refine bnext ?_ hb20 | refine bnext ?_ hb19 | refine bnext ?_ hb18 | refine bnext ?_ hb17 | refine bnext ?_ hb16 | refine bnext ?_ hb15 | refine bnext ?_ hb14 | refine bnext ?_ hb13 | refine bnext ?_ hb12 | refine bnext ?_ hb11 | refine bnext ?_ hb10 | refine bnext ?_ hb9 | refine bnext ?_ hb8 | refine bnext ?_ hb7 | refine bnext ?_ hb6 | refine bnext ?_ hb5 | refine bnext ?_ hb4 | refine bnext ?_ hb3 | refine bnext ?_ hb2 | refine bnext ?_ hb1))⟩
  · rw [HE.out, if_neg hbad]
    have h1 : 0 ≤ x := by omega
    have h2 : x < 64 := by omega
    have h3 : 0 ≤ y := by omega
    have h4 : y < 64 := by omega
    have h5 : ¬ y < x := by omega
    clear hbad HE
    rcases i with _ | i
    · rw [if_neg (by omega)]
      simp only [Nat.zero_mul, Nat.add_zero] at c1 c2
      go_enter Tryz.func78, Tryz.ntmps78
      go_wp2_with (go_at_call 83; refine (rIsPage _ _).mono ?_; rintro e w' ⟨rfl, rfl⟩)
      go_quiet (fail)
      go_wp2_with fail
      go_ret
      exact ⟨rfl, by (repeat' (first | exact Below.refl _ _ | assumption | refine balloc ?_ _ | refine below_drawn ?_ _ | refine below_drew ?_ | refine bnext ?_ hb24 | refine bnext ?_ hb23 | refine bnext ?_ hb22 | refine bnext ?_ hb21 | refine bnext ?_ hb20 | refine bnext ?_ hb19 | refine bnext ?_ hb18 | refine bnext ?_ hb17 | refine bnext ?_ hb16 | refine bnext ?_ hb15 | refine bnext ?_ hb14 | refine bnext ?_ hb13 | refine bnext ?_ hb12 | refine bnext ?_ hb11 | refine bnext ?_ hb10 | refine bnext ?_ hb9 | refine bnext ?_ hb8 | refine bnext ?_ hb7 | refine bnext ?_ hb6 | refine bnext ?_ hb5 | refine bnext ?_ hb4 | refine bnext ?_ hb3 | refine bnext ?_ hb2 | refine bnext ?_ hb1))⟩
    · obtain ⟨b', off', x', y', he, hb', hg', c1', c2'⟩ := hr.pr (i := i) (by omega)
      injection he with he
      injection he with hq1 hq2
      subst hq1 hq2
      have hbd := rgE_one (hp (by omega))
      rw [Nat.add_sub_cancel, hg'] at hbd
      rw [Nat.add_sub_cancel, hg']
      simp only at hbd
      have hy1 : 0 ≤ y' := by omega
      have hy2 : y' ≤ 63 := by omega
      clear hbd hp hr hg'
      by_cases hlt : x < y' + 2
      · rw [if_pos ⟨by omega, hlt⟩]
        go_enter Tryz.func78, Tryz.ntmps78
        go_wp2_with (go_at_call 83; refine (rIsPage _ _).mono ?_; rintro e w' ⟨rfl, rfl⟩)
        go_quiet (fail)
        go_wp2_with fail
        go_ret
        exact ⟨rfl, by (repeat' (first | exact Below.refl _ _ | assumption | refine balloc ?_ _ | refine below_drawn ?_ _ | refine below_drew ?_ | refine bnext ?_ hb24 | refine bnext ?_ hb23 | refine bnext ?_ hb22 | refine bnext ?_ hb21 | refine bnext ?_ hb20 | refine bnext ?_ hb19 | refine bnext ?_ hb18 | refine bnext ?_ hb17 | refine bnext ?_ hb16 | refine bnext ?_ hb15 | refine bnext ?_ hb14 | refine bnext ?_ hb13 | refine bnext ?_ hb12 | refine bnext ?_ hb11 | refine bnext ?_ hb10 | refine bnext ?_ hb9 | refine bnext ?_ hb8 | refine bnext ?_ hb7 | refine bnext ?_ hb6 | refine bnext ?_ hb5 | refine bnext ?_ hb4 | refine bnext ?_ hb3 | refine bnext ?_ hb2 | refine bnext ?_ hb1))⟩
      · rw [if_neg (by omega)]
        go_enter Tryz.func78, Tryz.ntmps78
        go_wp2_with (go_at_call 83; refine (rIsPage _ _).mono ?_; rintro e w' ⟨rfl, rfl⟩)
        go_quiet (fail)
        go_wp2_with fail
        go_ret
        exact ⟨rfl, by (repeat' (first | exact Below.refl _ _ | assumption | refine balloc ?_ _ | refine below_drawn ?_ _ | refine below_drew ?_ | refine bnext ?_ hb24 | refine bnext ?_ hb23 | refine bnext ?_ hb22 | refine bnext ?_ hb21 | refine bnext ?_ hb20 | refine bnext ?_ hb19 | refine bnext ?_ hb18 | refine bnext ?_ hb17 | refine bnext ?_ hb16 | refine bnext ?_ hb15 | refine bnext ?_ hb14 | refine bnext ?_ hb13 | refine bnext ?_ hb12 | refine bnext ?_ hb11 | refine bnext ?_ hb10 | refine bnext ?_ hb9 | refine bnext ?_ hb8 | refine bnext ?_ hb7 | refine bnext ?_ hb6 | refine bnext ?_ hb5 | refine bnext ?_ hb4 | refine bnext ?_ hb3 | refine bnext ?_ hb2 | refine bnext ?_ hb1))⟩
end Go.Proofs.YtpkgfkhaiifooaaGreatDoor
/- Regions: valid lists and their pages, by the program. -/
namespace Go.Proofs.YtpkgfkhaiifooaaGreatDoor
open Go Go.Proofs Go.RowKit
set_option linter.unusedSimpArgs false
set_option linter.unusedVariables false
set_option maxRecDepth 100000

set_option maxHeartbeats 1000000 in
theorem rCheckP_any (A : Option Addr) (n c : Nat) (rs : List (Int × Int)) (w : World) (hr : Rd w 2 A n (flat2 .i64 rs)) (hn : n ≤ 1000000) :
    Calls Tryz.prog 43 #[.slice A n c] w fun e w' => e = .returned (.tuple #[.int .i64 (regE rs).1, .int .i64 (regE rs).2]) ∧ Below w.heap.size w w' := by
  have hlen : rs.length = n := by have := hr.1; rw [flat2_len] at this; omega
  have Hhit := Lib.hid (regE_hit rs)
  have Hok := Lib.hid (regE_ok rs)
  rw [hlen] at Hhit Hok
  clear hlen
  go_enter Tryz.func43, Tryz.ntmps43
  go_wp2_with fail
  go_loopw [8] (fun i wr => ∃ k : Nat, k ≤ n ∧ i = .int .i64 k ∧ Hid (∀ j, j < k → rgE rs j = 0) ∧ Below w.heap.size w wr) (fun i _ => n - (intOf i).toNat)
  case atStart => exact ⟨0, by omega, rfl, Lib.hid (fun j h => absurd h (Nat.not_lt_zero _)), Below.refl _ _⟩
  case round =>
    obtain ⟨k, hk, rfl, Hz, hB⟩ := hrel
    by_cases hlt : k < n
    · have HC := Lib.hid (rcheck_any A n c rs k wr (hr.below hB (Nat.le_refl _)) hlt hn (fun h => Hz.out _ (by omega)))
      by_cases hE : rgE rs k = 0
      · rw [hE] at HC
        go_wp2_with (go_at_call 78; refine HC.out.mono ?_; rintro e w1 ⟨rfl, hb1⟩)
        go_roundw
        case rel => exact ⟨k + 1, by omega, by go_num, Lib.hid (fun j hj => by rcases Nat.lt_or_ge j k with h | h; exact Hz.out j h; rw [show j = k by omega]; exact hE), bnext hB hb1⟩
        case measure => simp [intOf]; omega
      · have HR := Lib.hid (Hhit.out k hlt Hz.out hE)
        have hE' : (rgE rs k == 0) = false := by simpa using hE
        clear hE
        generalize rgE rs k = z at *
        go_wp2_with (go_at_call 78; refine HC.out.mono ?_; rintro e w1 ⟨rfl, hb1⟩)
        go_ret2
        exact ⟨by rw [HR.out]; rfl, bnext hB hb1⟩
    · obtain rfl : k = n := by omega
      go_wp2_with fail
      go_ret2
      exact ⟨by rw [Hok.out Hz.out]; rfl, hB⟩
theorem rIsPage_f (n : Int) (w : World) (h : n < 0 ∨ 64 ≤ n) : Calls Tryz.prog 83 #[.int .i64 n] w fun e w' => e = .returned (.bool false) ∧ w' = w := by
  refine (rIsPage n w).mono ?_
  rintro e w' ⟨rfl, rfl⟩
  refine ⟨?_, rfl⟩
  have : (decide (0 ≤ n) && decide (n < 64)) = false := by rw [Bool.and_eq_false_iff]; simp only [decide_eq_false_iff_not]; omega
  rw [this]
theorem rIsPage_t (n : Int) (w : World) (h0 : 0 ≤ n) (h1 : n < 64) : Calls Tryz.prog 83 #[.int .i64 n] w fun e w' => e = .returned (.bool true) ∧ w' = w := by
  refine (rIsPage n w).mono ?_
  rintro e w' ⟨rfl, rfl⟩
  refine ⟨?_, rfl⟩
  rw [decide_eq_true h0, decide_eq_true h1]
  rfl
theorem span_any (a b : Nat) (w : World) (hab : a ≤ b) (hb : b < 64) :
    Calls Tryz.prog 49 #[.int .i64 a, .int .i64 b] w fun e w' => e = .returned (.int .u64 (spanN a b)) ∧ w' = w := by
  have hs := spanN_lt a b
  go_enter Tryz.func49, Tryz.ntmps49
  go_wp2
  go_ret
  exact ⟨ret_int (uwrap _ (spanN a b) (by simp [spanN]) hs), rfl⟩
theorem shas_any (x p : Nat) (w : World) (hx : x < 18446744073709551616) (hp : p < 64) :
    Calls Tryz.prog 84 #[.int .u64 x, .int .i64 p] w fun e w' => e = .returned (.bool (x.testBit p)) ∧ w' = w := by
  go_enter Tryz.func84, Tryz.ntmps84
  go_wp2
  go_ret
  exact ⟨congrArg (fun z => Ending.returned (.bool z)) (bit_test0 x p hx), rfl⟩
set_option maxHeartbeats 1000000 in
theorem pages_any (A : Option Addr) (n c : Nat) (rs : List (Int × Int)) (w : World) (hr : Rd w 2 A n (flat2 .i64 rs)) (hn : n ≤ 1000000) (hv : RgV rs) :
    Calls Tryz.prog 48 #[.slice A n c] w fun e w' => e = .returned (.int .u64 (setN rs rs.length)) ∧ Below w.heap.size w w' := by
  have hlen : rs.length = n := by have := hr.1; rw [flat2_len] at this; omega
  have Hv := Lib.hid hv
  unfold RgV at Hv
  rw [hlen] at Hv ⊢
  clear hlen hv
  go_enter Tryz.func48, Tryz.ntmps48
  go_wp2_with fail
  go_loopw [3, 8] (fun s i wr => ∃ k : Nat, k ≤ n ∧ i = .int .i64 k ∧ s = .int .u64 (setN rs k) ∧ Below w.heap.size w wr) (fun _ i _ => n - (intOf i).toNat)
  case atStart => exact ⟨0, by omega, rfl, rfl, Below.refl _ _⟩
  case round =>
    obtain ⟨k, hk, rfl, rfl, hB⟩ := hrel
    by_cases hlt : k < n
    · obtain ⟨b, off, x, y, rfl, hb, hg, c1, c2⟩ := (hr.below hB (Nat.le_refl _)).pr hlt
      obtain ⟨h1, h2, h3, _⟩ := rgE_one (Hv.out k hlt)
      have hS : setN rs (k + 1) = setN rs k ||| spanN x.toNat y.toNat := by rw [setN, hg]
      rw [hg] at h1 h2 h3
      simp only at h1 h2 h3
      obtain ⟨x, rfl⟩ : ∃ q : Nat, x = q := ⟨x.toNat, by omega⟩
      obtain ⟨y, rfl⟩ : ∃ q : Nat, y = q := ⟨y.toNat, by omega⟩
      simp only [Int.toNat_natCast] at hS
      have HS := Lib.hid hS
      have hl1 := setN_lt rs k
      have HO := Lib.hid (u64_or_nat (setN rs k) (spanN x y) hl1 (spanN_lt x y))
      clear hS hg hr hl1
      generalize setN rs k = S at *
      go_wp2_with (go_at_call 49; refine (span_any x y _ (by omega) (by omega)).mono ?_; rintro e w' ⟨rfl, rfl⟩)
      go_roundw
      case rel => exact ⟨k + 1, by omega, by go_num, by rw [HS.out]; exact val_int HO.out, by (repeat' (first | exact Below.refl _ _ | assumption | refine balloc ?_ _ | refine below_drawn ?_ _ | refine below_drew ?_ | refine bnext ?_ hb24 | refine bnext ?_ hb23 | refine bnext ?_ hb22 | refine bnext ?_ hb21 | refine bnext ?_ hb20 | refine bnext ?_ hb19 | refine bnext ?_ hb18 | refine bnext ?_ hb17 | refine bnext ?_ hb16 | refine bnext ?_ hb15 | refine bnext ?_ hb14 | refine bnext ?_ hb13 | refine bnext ?_ hb12 | refine bnext ?_ hb11 | refine bnext ?_ hb10 | refine bnext ?_ hb9 | refine bnext ?_ hb8 | refine bnext ?_ hb7 | refine bnext ?_ hb6 | refine bnext ?_ hb5 | refine bnext ?_ hb4 | refine bnext ?_ hb3 | refine bnext ?_ hb2 | refine bnext ?_ hb1))⟩
      case measure => simp [intOf]; omega
    · obtain rfl : k = n := by omega
      go_wp2_with fail
      go_ret
      exact ⟨rfl, hB⟩
theorem Has_rg (A : Option Addr) (n c : Nat) (rs : List (Int × Int)) (page : Int) (w : World) (hr : Rd w 2 A n (flat2 .i64 rs)) (hn : n ≤ 1000000) :
    Calls Tryz.prog 46 #[.slice A n c, .int .i64 page] w fun e w' => e = .returned (.tuple #[.bool (hasRg rs page).1, .int .i64 (hasRg rs page).2]) ∧ Below w.heap.size w w' := by
  by_cases hE : (regE rs).1 = 0
  · have hv := regE_zero rs hE
    by_cases hp : 0 ≤ page ∧ page < 64
    · obtain ⟨p, rfl⟩ : ∃ p : Nat, page = p := ⟨page.toNat, by omega⟩
      rw [hasRg_ok rs p hv (by omega)]
      have HE := Lib.hid hE
      have HS := Lib.hid (setN_has rs hv p)
      have hl := setN_lt rs rs.length
      obtain ⟨h0, h1⟩ := hp
      have h2 : p < 64 := by omega
      clear hE
      go_enter Tryz.func46, Tryz.ntmps46
      go_wp2_with (first
        | (go_at_call 43; refine (rCheckP_any A n c rs _ hr hn).mono ?_; rw [HE.out]; rintro e w1 ⟨rfl, hb1⟩)
        | (go_at_call 83; refine (rIsPage _ _).mono ?_; rintro e w' ⟨rfl, rfl⟩)
        | (go_at_call 48; refine (pages_any A n c rs _ (hr.below hb1 (Nat.le_refl _)) hn hv).mono ?_; rintro e w2 ⟨rfl, hb2⟩)
        | (go_at_call 84; refine (shas_any _ p _ hl h2).mono ?_; rw [HS.out]; rintro e w' ⟨rfl, rfl⟩))
      go_ret2
      exact ⟨rfl, bnext hb1 hb2⟩
    · have hx : hasRg rs page = (false, 2) := by unfold hasRg; rw [if_neg (by simp [hE]), if_pos (by omega)]
      rw [hx]
      have Hp := Lib.hid (show page < 0 ∨ 64 ≤ page by omega)
      have HE := Lib.hid hE
      clear hE hp hx
      go_enter Tryz.func46, Tryz.ntmps46
      go_wp2_with (first
        | (go_at_call 43; refine (rCheckP_any A n c rs _ hr hn).mono ?_; rw [HE.out]; rintro e w1 ⟨rfl, hb1⟩)
        | (go_at_call 83; refine (rIsPage_f _ _ Hp.out).mono ?_; rintro e w' ⟨rfl, rfl⟩))
      go_ret2
      exact ⟨rfl, hb1⟩
  · have hx : hasRg rs page = (false, (regE rs).1) := by unfold hasRg; rw [if_pos hE]
    rw [hx]
    have HC := Lib.hid (rCheckP_any A n c rs w hr hn)
    have hE' : ((regE rs).1 == 0) = false := by simpa using hE
    clear hE hx
    generalize (regE rs).1 = z at *
    generalize (regE rs).2 = z2 at *
    go_enter Tryz.func46, Tryz.ntmps46
    go_wp2_with (go_at_call 43; refine HC.out.mono ?_; rintro e w1 ⟨rfl, hb1⟩)
    go_ret2
    exact ⟨rfl, hb1⟩
end Go.Proofs.YtpkgfkhaiifooaaGreatDoor
