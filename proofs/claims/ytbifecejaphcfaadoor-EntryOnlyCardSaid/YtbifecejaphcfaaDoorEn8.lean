/- Entries of a page table: words with other flags and other numbers. -/
import Derived.Test.YtbifecejaphcfaaDoorEn7
namespace Go.Proofs.YtbifecejaphcfaaDoor
open Go Go.Proofs Go.RowKit
set_option linter.unusedSimpArgs false
set_option linter.unusedVariables false

def chgR (r : (Int × Int × Bool × Bool × Bool) × Int) (want : Int → Prop) [DecidablePred want] (f : Int → Int → Bool → Bool → Bool → Int × Int) : Int × Int :=
  if r.2 ≠ 0 then (0, r.2) else if ¬ want r.1.1 then (0, 9) else f r.1.1 r.1.2.1 r.1.2.2.1 r.1.2.2.2.1 r.1.2.2.2.2
def writeR (x : Nat) (on : Bool) : Int × Int := chgR (unpR x) (· = 1) fun _ n _ _ c => (((packN 1 n.toNat on (!on) c : Nat) : Int), 0)
def referR (x : Nat) (on : Bool) : Int × Int := chgR (unpR x) (· = 1) fun _ n a b _ => (((packN 1 n.toNat a b on : Nat) : Int), 0)
def moveR (x : Nat) (m : Int) : Int × Int := chgR (unpR x) (· ≠ 0) fun k _ a b c => if m < 0 ∨ 255 < m then (0, 2) else (((packN k.toNat m.toNat a b c : Nat) : Int), 0)
theorem unpR_ok (x : Nat) (h : (unpR x).2 = 0) : chk (unpR x).1.1 (unpR x).1.2.1 (unpR x).1.2.2.1 (unpR x).1.2.2.2.1 (unpR x).1.2.2.2.2 = 0 := by
  unfold unpR at h ⊢
  by_cases h0 : unpE x = 0
  · rw [if_pos h0]
    simp only
    unfold unpE at h0
    by_cases h1 : x % 4 = 3
    · rw [if_pos h1] at h0; simp at h0
    · rw [if_neg h1] at h0
      by_cases h2 : x / 32 % 8 ≠ 0 ∨ x / 65536 ≠ 0
      · rw [if_pos h2] at h0; simp at h0
      · rw [if_neg h2] at h0; exact h0
  · rw [if_neg h0] at h
    exact absurd h h0

set_option maxHeartbeats 2000000 in
theorem Write_any (x : Nat) (m : Bool) (w : World) (hx : x < 18446744073709551616) (hL : LayOK w) :
    Calls Tryd.prog 22 #[.int .u64 x, .bool m] w fun e w' => e = .returned (.tuple #[.int .u64 (writeR x m).1, .int .i64 (writeR x m).2]) ∧ Below w.heap.size w w' := by
  have hok := unpR_ok x
  rcases hu : unpR x with ⟨⟨k, n, a, b, c⟩, er⟩
  rw [hu] at hok
  simp only at hok
  have HU := Lib.hid hu
  by_cases he : er = 0
  · subst he
    have hck := hok rfl
    obtain ⟨hk3, hn0, hn1⟩ := chk_ok k n a b c hck
    obtain ⟨k, rfl⟩ : ∃ q : Nat, k = q := ⟨k.toNat, by omega⟩
    obtain ⟨n, rfl⟩ : ∃ q : Nat, n = q := ⟨n.toNat, by omega⟩
    clear hu hok
    by_cases hk1 : k = 1
    · subst hk1
      have hv : writeR x m = (((packN 1 n m (!m) c : Nat) : Int), 0) := by unfold writeR chgR; rw [HU.out]; simp
      rw [hv]
      clear hv hck hk3
      go_enter Tryd.func22, Tryd.ntmps22
      go_wp2_with fail
      refine (Unpack_any x _ hx hL).mono ?_
      rintro e w1 ⟨he, hb1⟩
      rw [HU.out] at he
      subst he
      go_wp2_with (go_at_call 34; refine (pack_any 1 n m (!m) c _ (by omega) (by omega) ((hL.below hb1).alloc _)).mono ?_; rintro e w2 ⟨rfl, hb2⟩)
      go_ret2
      exact ⟨rfl, by (repeat' (first | exact Below.refl _ _ | assumption | refine balloc ?_ _ | refine below_drawn ?_ _ | refine below_drew ?_ | refine bnext ?_ hb24 | refine bnext ?_ hb23 | refine bnext ?_ hb22 | refine bnext ?_ hb21 | refine bnext ?_ hb20 | refine bnext ?_ hb19 | refine bnext ?_ hb18 | refine bnext ?_ hb17 | refine bnext ?_ hb16 | refine bnext ?_ hb15 | refine bnext ?_ hb14 | refine bnext ?_ hb13 | refine bnext ?_ hb12 | refine bnext ?_ hb11 | refine bnext ?_ hb10 | refine bnext ?_ hb9 | refine bnext ?_ hb8 | refine bnext ?_ hb7 | refine bnext ?_ hb6 | refine bnext ?_ hb5 | refine bnext ?_ hb4 | refine bnext ?_ hb3 | refine bnext ?_ hb2 | refine bnext ?_ hb1))⟩
    · have hv : writeR x m = (0, 9) := by unfold writeR chgR; rw [HU.out]; simp [hk1]; omega
      rw [hv]
      have hkb : ((k : Int) != 1) = true := by simp; omega
      clear hv hck hk3 hk1
      go_enter Tryd.func22, Tryd.ntmps22
      go_wp2_with fail
      refine (Unpack_any x _ hx hL).mono ?_
      rintro e w1 ⟨he, hb1⟩
      rw [HU.out] at he
      subst he
      go_wp2_with fail
      go_ret2
      exact ⟨rfl, by (repeat' (first | exact Below.refl _ _ | assumption | refine balloc ?_ _ | refine below_drawn ?_ _ | refine below_drew ?_ | refine bnext ?_ hb24 | refine bnext ?_ hb23 | refine bnext ?_ hb22 | refine bnext ?_ hb21 | refine bnext ?_ hb20 | refine bnext ?_ hb19 | refine bnext ?_ hb18 | refine bnext ?_ hb17 | refine bnext ?_ hb16 | refine bnext ?_ hb15 | refine bnext ?_ hb14 | refine bnext ?_ hb13 | refine bnext ?_ hb12 | refine bnext ?_ hb11 | refine bnext ?_ hb10 | refine bnext ?_ hb9 | refine bnext ?_ hb8 | refine bnext ?_ hb7 | refine bnext ?_ hb6 | refine bnext ?_ hb5 | refine bnext ?_ hb4 | refine bnext ?_ hb3 | refine bnext ?_ hb2 | refine bnext ?_ hb1))⟩
  · have hv : writeR x m = (0, er) := by unfold writeR chgR; rw [HU.out]; simp [he]
    rw [hv]
    have heb : (er != 0) = true := by simpa using he
    clear hv hu hok he
    go_enter Tryd.func22, Tryd.ntmps22
    go_wp2_with fail
    refine (Unpack_any x _ hx hL).mono ?_
    rintro e w1 ⟨he, hb1⟩
    rw [HU.out] at he
    subst he
    go_wp2_with fail
    go_ret2
    exact ⟨rfl, by (repeat' (first | exact Below.refl _ _ | assumption | refine balloc ?_ _ | refine below_drawn ?_ _ | refine below_drew ?_ | refine bnext ?_ hb24 | refine bnext ?_ hb23 | refine bnext ?_ hb22 | refine bnext ?_ hb21 | refine bnext ?_ hb20 | refine bnext ?_ hb19 | refine bnext ?_ hb18 | refine bnext ?_ hb17 | refine bnext ?_ hb16 | refine bnext ?_ hb15 | refine bnext ?_ hb14 | refine bnext ?_ hb13 | refine bnext ?_ hb12 | refine bnext ?_ hb11 | refine bnext ?_ hb10 | refine bnext ?_ hb9 | refine bnext ?_ hb8 | refine bnext ?_ hb7 | refine bnext ?_ hb6 | refine bnext ?_ hb5 | refine bnext ?_ hb4 | refine bnext ?_ hb3 | refine bnext ?_ hb2 | refine bnext ?_ hb1))⟩

set_option maxHeartbeats 2000000 in
theorem rWrite_any (x : Nat) (m : Bool) (w : World) (hx : x < 18446744073709551616) :
    Calls Tryd.prog 23 #[.int .u64 x, .bool m] w fun e w' => e = .returned (.tuple #[.int .u64 (writeR x m).1, .int .i64 (writeR x m).2]) ∧ Below w.heap.size w w' := by
  have hok := unpR_ok x
  rcases hu : unpR x with ⟨⟨k, n, a, b, c⟩, er⟩
  rw [hu] at hok
  simp only at hok
  have HU := Lib.hid hu
  by_cases he : er = 0
  · subst he
    have hck := hok rfl
    obtain ⟨hk3, hn0, hn1⟩ := chk_ok k n a b c hck
    obtain ⟨k, rfl⟩ : ∃ q : Nat, k = q := ⟨k.toNat, by omega⟩
    obtain ⟨n, rfl⟩ : ∃ q : Nat, n = q := ⟨n.toNat, by omega⟩
    clear hu hok
    by_cases hk1 : k = 1
    · subst hk1
      have hv : writeR x m = (((packN 1 n m (!m) c : Nat) : Int), 0) := by unfold writeR chgR; rw [HU.out]; simp
      have hpk : packR 1 n m (!m) c = (((packN 1 n m (!m) c : Nat) : Int), 0) := by
        have : chk 1 n m (!m) c = 0 := by grind [chk]
        unfold packR; rw [if_neg (by simp [this])]; rfl
      have HPk := Lib.hid hpk
      clear hpk
      rw [hv]
      clear hv hck hk3
      go_enter Tryd.func23, Tryd.ntmps23
      go_wp2_with fail
      refine (rUnpack_any x _ hx).mono ?_
      rintro e w1 ⟨he, hb1⟩
      rw [HU.out] at he
      subst he
      go_wp2_with (go_at_call 12; refine (rPack_any _ _ _ _ _ _).mono ?_; rw [HPk.out]; rintro e w2 ⟨rfl, hb2⟩)
      go_ret2
      exact ⟨rfl, by (repeat' (first | exact Below.refl _ _ | assumption | refine balloc ?_ _ | refine below_drawn ?_ _ | refine below_drew ?_ | refine bnext ?_ hb24 | refine bnext ?_ hb23 | refine bnext ?_ hb22 | refine bnext ?_ hb21 | refine bnext ?_ hb20 | refine bnext ?_ hb19 | refine bnext ?_ hb18 | refine bnext ?_ hb17 | refine bnext ?_ hb16 | refine bnext ?_ hb15 | refine bnext ?_ hb14 | refine bnext ?_ hb13 | refine bnext ?_ hb12 | refine bnext ?_ hb11 | refine bnext ?_ hb10 | refine bnext ?_ hb9 | refine bnext ?_ hb8 | refine bnext ?_ hb7 | refine bnext ?_ hb6 | refine bnext ?_ hb5 | refine bnext ?_ hb4 | refine bnext ?_ hb3 | refine bnext ?_ hb2 | refine bnext ?_ hb1))⟩
    · have hv : writeR x m = (0, 9) := by unfold writeR chgR; rw [HU.out]; simp [hk1]; omega
      rw [hv]
      have hkb : ((k : Int) != 1) = true := by simp; omega
      clear hv hck hk3 hk1
      go_enter Tryd.func23, Tryd.ntmps23
      go_wp2_with fail
      refine (rUnpack_any x _ hx).mono ?_
      rintro e w1 ⟨he, hb1⟩
      rw [HU.out] at he
      subst he
      go_wp2_with fail
      go_ret2
      exact ⟨rfl, by (repeat' (first | exact Below.refl _ _ | assumption | refine balloc ?_ _ | refine below_drawn ?_ _ | refine below_drew ?_ | refine bnext ?_ hb24 | refine bnext ?_ hb23 | refine bnext ?_ hb22 | refine bnext ?_ hb21 | refine bnext ?_ hb20 | refine bnext ?_ hb19 | refine bnext ?_ hb18 | refine bnext ?_ hb17 | refine bnext ?_ hb16 | refine bnext ?_ hb15 | refine bnext ?_ hb14 | refine bnext ?_ hb13 | refine bnext ?_ hb12 | refine bnext ?_ hb11 | refine bnext ?_ hb10 | refine bnext ?_ hb9 | refine bnext ?_ hb8 | refine bnext ?_ hb7 | refine bnext ?_ hb6 | refine bnext ?_ hb5 | refine bnext ?_ hb4 | refine bnext ?_ hb3 | refine bnext ?_ hb2 | refine bnext ?_ hb1))⟩
  · have hv : writeR x m = (0, er) := by unfold writeR chgR; rw [HU.out]; simp [he]
    rw [hv]
    have heb : (er != 0) = true := by simpa using he
    clear hv hu hok he
    go_enter Tryd.func23, Tryd.ntmps23
    go_wp2_with fail
    refine (rUnpack_any x _ hx).mono ?_
    rintro e w1 ⟨he, hb1⟩
    rw [HU.out] at he
    subst he
    go_wp2_with fail
    go_ret2
    exact ⟨rfl, by (repeat' (first | exact Below.refl _ _ | assumption | refine balloc ?_ _ | refine below_drawn ?_ _ | refine below_drew ?_ | refine bnext ?_ hb24 | refine bnext ?_ hb23 | refine bnext ?_ hb22 | refine bnext ?_ hb21 | refine bnext ?_ hb20 | refine bnext ?_ hb19 | refine bnext ?_ hb18 | refine bnext ?_ hb17 | refine bnext ?_ hb16 | refine bnext ?_ hb15 | refine bnext ?_ hb14 | refine bnext ?_ hb13 | refine bnext ?_ hb12 | refine bnext ?_ hb11 | refine bnext ?_ hb10 | refine bnext ?_ hb9 | refine bnext ?_ hb8 | refine bnext ?_ hb7 | refine bnext ?_ hb6 | refine bnext ?_ hb5 | refine bnext ?_ hb4 | refine bnext ?_ hb3 | refine bnext ?_ hb2 | refine bnext ?_ hb1))⟩

set_option maxHeartbeats 2000000 in
theorem Refer_any (x : Nat) (m : Bool) (w : World) (hx : x < 18446744073709551616) (hL : LayOK w) :
    Calls Tryd.prog 24 #[.int .u64 x, .bool m] w fun e w' => e = .returned (.tuple #[.int .u64 (referR x m).1, .int .i64 (referR x m).2]) ∧ Below w.heap.size w w' := by
  have hok := unpR_ok x
  rcases hu : unpR x with ⟨⟨k, n, a, b, c⟩, er⟩
  rw [hu] at hok
  simp only at hok
  have HU := Lib.hid hu
  by_cases he : er = 0
  · subst he
    have hck := hok rfl
    obtain ⟨hk3, hn0, hn1⟩ := chk_ok k n a b c hck
    obtain ⟨k, rfl⟩ : ∃ q : Nat, k = q := ⟨k.toNat, by omega⟩
    obtain ⟨n, rfl⟩ : ∃ q : Nat, n = q := ⟨n.toNat, by omega⟩
    clear hu hok
    by_cases hk1 : k = 1
    · subst hk1
      have hv : referR x m = (((packN 1 n a b m : Nat) : Int), 0) := by unfold referR chgR; rw [HU.out]; simp
      rw [hv]
      clear hv hck hk3
      go_enter Tryd.func24, Tryd.ntmps24
      go_wp2_with fail
      refine (Unpack_any x _ hx hL).mono ?_
      rintro e w1 ⟨he, hb1⟩
      rw [HU.out] at he
      subst he
      go_wp2_with (go_at_call 34; refine (pack_any 1 n a b m _ (by omega) (by omega) ((hL.below hb1).alloc _)).mono ?_; rintro e w2 ⟨rfl, hb2⟩)
      go_ret2
      exact ⟨rfl, by (repeat' (first | exact Below.refl _ _ | assumption | refine balloc ?_ _ | refine below_drawn ?_ _ | refine below_drew ?_ | refine bnext ?_ hb24 | refine bnext ?_ hb23 | refine bnext ?_ hb22 | refine bnext ?_ hb21 | refine bnext ?_ hb20 | refine bnext ?_ hb19 | refine bnext ?_ hb18 | refine bnext ?_ hb17 | refine bnext ?_ hb16 | refine bnext ?_ hb15 | refine bnext ?_ hb14 | refine bnext ?_ hb13 | refine bnext ?_ hb12 | refine bnext ?_ hb11 | refine bnext ?_ hb10 | refine bnext ?_ hb9 | refine bnext ?_ hb8 | refine bnext ?_ hb7 | refine bnext ?_ hb6 | refine bnext ?_ hb5 | refine bnext ?_ hb4 | refine bnext ?_ hb3 | refine bnext ?_ hb2 | refine bnext ?_ hb1))⟩
    · have hv : referR x m = (0, 9) := by unfold referR chgR; rw [HU.out]; simp [hk1]; omega
      rw [hv]
      have hkb : ((k : Int) != 1) = true := by simp; omega
      clear hv hck hk3 hk1
      go_enter Tryd.func24, Tryd.ntmps24
      go_wp2_with fail
      refine (Unpack_any x _ hx hL).mono ?_
      rintro e w1 ⟨he, hb1⟩
      rw [HU.out] at he
      subst he
      go_wp2_with fail
      go_ret2
      exact ⟨rfl, by (repeat' (first | exact Below.refl _ _ | assumption | refine balloc ?_ _ | refine below_drawn ?_ _ | refine below_drew ?_ | refine bnext ?_ hb24 | refine bnext ?_ hb23 | refine bnext ?_ hb22 | refine bnext ?_ hb21 | refine bnext ?_ hb20 | refine bnext ?_ hb19 | refine bnext ?_ hb18 | refine bnext ?_ hb17 | refine bnext ?_ hb16 | refine bnext ?_ hb15 | refine bnext ?_ hb14 | refine bnext ?_ hb13 | refine bnext ?_ hb12 | refine bnext ?_ hb11 | refine bnext ?_ hb10 | refine bnext ?_ hb9 | refine bnext ?_ hb8 | refine bnext ?_ hb7 | refine bnext ?_ hb6 | refine bnext ?_ hb5 | refine bnext ?_ hb4 | refine bnext ?_ hb3 | refine bnext ?_ hb2 | refine bnext ?_ hb1))⟩
  · have hv : referR x m = (0, er) := by unfold referR chgR; rw [HU.out]; simp [he]
    rw [hv]
    have heb : (er != 0) = true := by simpa using he
    clear hv hu hok he
    go_enter Tryd.func24, Tryd.ntmps24
    go_wp2_with fail
    refine (Unpack_any x _ hx hL).mono ?_
    rintro e w1 ⟨he, hb1⟩
    rw [HU.out] at he
    subst he
    go_wp2_with fail
    go_ret2
    exact ⟨rfl, by (repeat' (first | exact Below.refl _ _ | assumption | refine balloc ?_ _ | refine below_drawn ?_ _ | refine below_drew ?_ | refine bnext ?_ hb24 | refine bnext ?_ hb23 | refine bnext ?_ hb22 | refine bnext ?_ hb21 | refine bnext ?_ hb20 | refine bnext ?_ hb19 | refine bnext ?_ hb18 | refine bnext ?_ hb17 | refine bnext ?_ hb16 | refine bnext ?_ hb15 | refine bnext ?_ hb14 | refine bnext ?_ hb13 | refine bnext ?_ hb12 | refine bnext ?_ hb11 | refine bnext ?_ hb10 | refine bnext ?_ hb9 | refine bnext ?_ hb8 | refine bnext ?_ hb7 | refine bnext ?_ hb6 | refine bnext ?_ hb5 | refine bnext ?_ hb4 | refine bnext ?_ hb3 | refine bnext ?_ hb2 | refine bnext ?_ hb1))⟩

set_option maxHeartbeats 2000000 in
theorem rRefer_any (x : Nat) (m : Bool) (w : World) (hx : x < 18446744073709551616) :
    Calls Tryd.prog 25 #[.int .u64 x, .bool m] w fun e w' => e = .returned (.tuple #[.int .u64 (referR x m).1, .int .i64 (referR x m).2]) ∧ Below w.heap.size w w' := by
  have hok := unpR_ok x
  rcases hu : unpR x with ⟨⟨k, n, a, b, c⟩, er⟩
  rw [hu] at hok
  simp only at hok
  have HU := Lib.hid hu
  by_cases he : er = 0
  · subst he
    have hck := hok rfl
    obtain ⟨hk3, hn0, hn1⟩ := chk_ok k n a b c hck
    obtain ⟨k, rfl⟩ : ∃ q : Nat, k = q := ⟨k.toNat, by omega⟩
    obtain ⟨n, rfl⟩ : ∃ q : Nat, n = q := ⟨n.toNat, by omega⟩
    clear hu hok
    by_cases hk1 : k = 1
    · subst hk1
      have hv : referR x m = (((packN 1 n a b m : Nat) : Int), 0) := by unfold referR chgR; rw [HU.out]; simp
      have hpk : packR 1 n a b m = (((packN 1 n a b m : Nat) : Int), 0) := by
        have : chk 1 n a b m = 0 := by grind [chk]
        unfold packR; rw [if_neg (by simp [this])]; rfl
      have HPk := Lib.hid hpk
      clear hpk
      rw [hv]
      clear hv hck hk3
      go_enter Tryd.func25, Tryd.ntmps25
      go_wp2_with fail
      refine (rUnpack_any x _ hx).mono ?_
      rintro e w1 ⟨he, hb1⟩
      rw [HU.out] at he
      subst he
      go_wp2_with (go_at_call 12; refine (rPack_any _ _ _ _ _ _).mono ?_; rw [HPk.out]; rintro e w2 ⟨rfl, hb2⟩)
      go_ret2
      exact ⟨rfl, by (repeat' (first | exact Below.refl _ _ | assumption | refine balloc ?_ _ | refine below_drawn ?_ _ | refine below_drew ?_ | refine bnext ?_ hb24 | refine bnext ?_ hb23 | refine bnext ?_ hb22 | refine bnext ?_ hb21 | refine bnext ?_ hb20 | refine bnext ?_ hb19 | refine bnext ?_ hb18 | refine bnext ?_ hb17 | refine bnext ?_ hb16 | refine bnext ?_ hb15 | refine bnext ?_ hb14 | refine bnext ?_ hb13 | refine bnext ?_ hb12 | refine bnext ?_ hb11 | refine bnext ?_ hb10 | refine bnext ?_ hb9 | refine bnext ?_ hb8 | refine bnext ?_ hb7 | refine bnext ?_ hb6 | refine bnext ?_ hb5 | refine bnext ?_ hb4 | refine bnext ?_ hb3 | refine bnext ?_ hb2 | refine bnext ?_ hb1))⟩
    · have hv : referR x m = (0, 9) := by unfold referR chgR; rw [HU.out]; simp [hk1]; omega
      rw [hv]
      have hkb : ((k : Int) != 1) = true := by simp; omega
      clear hv hck hk3 hk1
      go_enter Tryd.func25, Tryd.ntmps25
      go_wp2_with fail
      refine (rUnpack_any x _ hx).mono ?_
      rintro e w1 ⟨he, hb1⟩
      rw [HU.out] at he
      subst he
      go_wp2_with fail
      go_ret2
      exact ⟨rfl, by (repeat' (first | exact Below.refl _ _ | assumption | refine balloc ?_ _ | refine below_drawn ?_ _ | refine below_drew ?_ | refine bnext ?_ hb24 | refine bnext ?_ hb23 | refine bnext ?_ hb22 | refine bnext ?_ hb21 | refine bnext ?_ hb20 | refine bnext ?_ hb19 | refine bnext ?_ hb18 | refine bnext ?_ hb17 | refine bnext ?_ hb16 | refine bnext ?_ hb15 | refine bnext ?_ hb14 | refine bnext ?_ hb13 | refine bnext ?_ hb12 | refine bnext ?_ hb11 | refine bnext ?_ hb10 | refine bnext ?_ hb9 | refine bnext ?_ hb8 | refine bnext ?_ hb7 | refine bnext ?_ hb6 | refine bnext ?_ hb5 | refine bnext ?_ hb4 | refine bnext ?_ hb3 | refine bnext ?_ hb2 | refine bnext ?_ hb1))⟩
  · have hv : referR x m = (0, er) := by unfold referR chgR; rw [HU.out]; simp [he]
    rw [hv]
    have heb : (er != 0) = true := by simpa using he
    clear hv hu hok he
    go_enter Tryd.func25, Tryd.ntmps25
    go_wp2_with fail
    refine (rUnpack_any x _ hx).mono ?_
    rintro e w1 ⟨he, hb1⟩
    rw [HU.out] at he
    subst he
    go_wp2_with fail
    go_ret2
    exact ⟨rfl, by (repeat' (first | exact Below.refl _ _ | assumption | refine balloc ?_ _ | refine below_drawn ?_ _ | refine below_drew ?_ | refine bnext ?_ hb24 | refine bnext ?_ hb23 | refine bnext ?_ hb22 | refine bnext ?_ hb21 | refine bnext ?_ hb20 | refine bnext ?_ hb19 | refine bnext ?_ hb18 | refine bnext ?_ hb17 | refine bnext ?_ hb16 | refine bnext ?_ hb15 | refine bnext ?_ hb14 | refine bnext ?_ hb13 | refine bnext ?_ hb12 | refine bnext ?_ hb11 | refine bnext ?_ hb10 | refine bnext ?_ hb9 | refine bnext ?_ hb8 | refine bnext ?_ hb7 | refine bnext ?_ hb6 | refine bnext ?_ hb5 | refine bnext ?_ hb4 | refine bnext ?_ hb3 | refine bnext ?_ hb2 | refine bnext ?_ hb1))⟩

set_option maxHeartbeats 2000000 in
theorem Move_any (x : Nat) (m : Int) (w : World) (hx : x < 18446744073709551616) (hL : LayOK w) :
    Calls Tryd.prog 26 #[.int .u64 x, .int .i64 m] w fun e w' => e = .returned (.tuple #[.int .u64 (moveR x m).1, .int .i64 (moveR x m).2]) ∧ Below w.heap.size w w' := by
  have hok := unpR_ok x
  rcases hu : unpR x with ⟨⟨k, n, a, b, c⟩, er⟩
  rw [hu] at hok
  simp only at hok
  have HU := Lib.hid hu
  by_cases he : er = 0
  · subst he
    have hck := hok rfl
    obtain ⟨hk3, hn0, hn1⟩ := chk_ok k n a b c hck
    obtain ⟨k, rfl⟩ : ∃ q : Nat, k = q := ⟨k.toNat, by omega⟩
    obtain ⟨n, rfl⟩ : ∃ q : Nat, n = q := ⟨n.toNat, by omega⟩
    clear hu hok
    by_cases hk1 : k = 0
    · subst hk1
      have hv : moveR x m = (0, 9) := by unfold moveR chgR; rw [HU.out]; simp
      rw [hv]
      clear hv hck hk3
      go_enter Tryd.func26, Tryd.ntmps26
      go_wp2_with fail
      refine (Unpack_any x _ hx hL).mono ?_
      rintro e w1 ⟨he, hb1⟩
      rw [HU.out] at he
      subst he
      go_wp2_with fail
      go_ret2
      exact ⟨rfl, by (repeat' (first | exact Below.refl _ _ | assumption | refine balloc ?_ _ | refine below_drawn ?_ _ | refine below_drew ?_ | refine bnext ?_ hb24 | refine bnext ?_ hb23 | refine bnext ?_ hb22 | refine bnext ?_ hb21 | refine bnext ?_ hb20 | refine bnext ?_ hb19 | refine bnext ?_ hb18 | refine bnext ?_ hb17 | refine bnext ?_ hb16 | refine bnext ?_ hb15 | refine bnext ?_ hb14 | refine bnext ?_ hb13 | refine bnext ?_ hb12 | refine bnext ?_ hb11 | refine bnext ?_ hb10 | refine bnext ?_ hb9 | refine bnext ?_ hb8 | refine bnext ?_ hb7 | refine bnext ?_ hb6 | refine bnext ?_ hb5 | refine bnext ?_ hb4 | refine bnext ?_ hb3 | refine bnext ?_ hb2 | refine bnext ?_ hb1))⟩
    · have hkb : ((k : Int) == 0) = false := by simp; omega
      by_cases hm : m < 0 ∨ 255 < m
      · have hv : moveR x m = (0, 2) := by unfold moveR chgR; rw [HU.out]; simp [hk1, hm]
        rw [hv]
        have hm' : m < 0 ∨ (0 ≤ m ∧ 255 < m) := by omega
        clear hv hck hk3 hk1 hm
        rcases hm' with hm | ⟨hm0, hm⟩
        all_goals
          go_enter Tryd.func26, Tryd.ntmps26
          go_wp2_with fail
          refine (Unpack_any x _ hx hL).mono ?_
          rintro e w1 ⟨he, hb1⟩
          rw [HU.out] at he
          subst he
          obtain ⟨l0, l1, l2, l3, l4, l5⟩ := (hL.below hb1).cells
          have hlt1 := (hL.below hb1).lt
          go_wp2_with fail
          go_ret2
          exact ⟨rfl, by (repeat' (first | exact Below.refl _ _ | assumption | refine balloc ?_ _ | refine below_drawn ?_ _ | refine below_drew ?_ | refine bnext ?_ hb24 | refine bnext ?_ hb23 | refine bnext ?_ hb22 | refine bnext ?_ hb21 | refine bnext ?_ hb20 | refine bnext ?_ hb19 | refine bnext ?_ hb18 | refine bnext ?_ hb17 | refine bnext ?_ hb16 | refine bnext ?_ hb15 | refine bnext ?_ hb14 | refine bnext ?_ hb13 | refine bnext ?_ hb12 | refine bnext ?_ hb11 | refine bnext ?_ hb10 | refine bnext ?_ hb9 | refine bnext ?_ hb8 | refine bnext ?_ hb7 | refine bnext ?_ hb6 | refine bnext ?_ hb5 | refine bnext ?_ hb4 | refine bnext ?_ hb3 | refine bnext ?_ hb2 | refine bnext ?_ hb1))⟩
      · obtain ⟨m, rfl⟩ : ∃ q : Nat, m = q := ⟨m.toNat, by omega⟩
        have hv : moveR x m = (((packN k m a b c : Nat) : Int), 0) := by unfold moveR chgR; rw [HU.out]; simp [hk1, hm]
        have hm1 : m ≤ 255 := by omega
        rw [hv]
        have hk2 : k < 3 := by omega
        clear hv hck hk3 hk1 hm
        go_enter Tryd.func26, Tryd.ntmps26
        go_wp2_with fail
        refine (Unpack_any x _ hx hL).mono ?_
        rintro e w1 ⟨he, hb1⟩
        rw [HU.out] at he
        subst he
        obtain ⟨l0, l1, l2, l3, l4, l5⟩ := (hL.below hb1).cells
        have hlt1 := (hL.below hb1).lt
        go_wp2_with (go_at_call 34; refine (pack_any k m a b c _ (by omega) (by omega) ((hL.below hb1).alloc _)).mono ?_; rintro e w2 ⟨rfl, hb2⟩)
        go_ret2
        exact ⟨rfl, by (repeat' (first | exact Below.refl _ _ | assumption | refine balloc ?_ _ | refine below_drawn ?_ _ | refine below_drew ?_ | refine bnext ?_ hb24 | refine bnext ?_ hb23 | refine bnext ?_ hb22 | refine bnext ?_ hb21 | refine bnext ?_ hb20 | refine bnext ?_ hb19 | refine bnext ?_ hb18 | refine bnext ?_ hb17 | refine bnext ?_ hb16 | refine bnext ?_ hb15 | refine bnext ?_ hb14 | refine bnext ?_ hb13 | refine bnext ?_ hb12 | refine bnext ?_ hb11 | refine bnext ?_ hb10 | refine bnext ?_ hb9 | refine bnext ?_ hb8 | refine bnext ?_ hb7 | refine bnext ?_ hb6 | refine bnext ?_ hb5 | refine bnext ?_ hb4 | refine bnext ?_ hb3 | refine bnext ?_ hb2 | refine bnext ?_ hb1))⟩
  · have hv : moveR x m = (0, er) := by unfold moveR chgR; rw [HU.out]; simp [he]
    rw [hv]
    have heb : (er != 0) = true := by simpa using he
    clear hv hu hok he
    go_enter Tryd.func26, Tryd.ntmps26
    go_wp2_with fail
    refine (Unpack_any x _ hx hL).mono ?_
    rintro e w1 ⟨he, hb1⟩
    rw [HU.out] at he
    subst he
    go_wp2_with fail
    go_ret2
    exact ⟨rfl, by (repeat' (first | exact Below.refl _ _ | assumption | refine balloc ?_ _ | refine below_drawn ?_ _ | refine below_drew ?_ | refine bnext ?_ hb24 | refine bnext ?_ hb23 | refine bnext ?_ hb22 | refine bnext ?_ hb21 | refine bnext ?_ hb20 | refine bnext ?_ hb19 | refine bnext ?_ hb18 | refine bnext ?_ hb17 | refine bnext ?_ hb16 | refine bnext ?_ hb15 | refine bnext ?_ hb14 | refine bnext ?_ hb13 | refine bnext ?_ hb12 | refine bnext ?_ hb11 | refine bnext ?_ hb10 | refine bnext ?_ hb9 | refine bnext ?_ hb8 | refine bnext ?_ hb7 | refine bnext ?_ hb6 | refine bnext ?_ hb5 | refine bnext ?_ hb4 | refine bnext ?_ hb3 | refine bnext ?_ hb2 | refine bnext ?_ hb1))⟩

set_option maxHeartbeats 2000000 in
theorem rMove_any (x : Nat) (m : Int) (w : World) (hx : x < 18446744073709551616) :
    Calls Tryd.prog 27 #[.int .u64 x, .int .i64 m] w fun e w' => e = .returned (.tuple #[.int .u64 (moveR x m).1, .int .i64 (moveR x m).2]) ∧ Below w.heap.size w w' := by
  have hok := unpR_ok x
  rcases hu : unpR x with ⟨⟨k, n, a, b, c⟩, er⟩
  rw [hu] at hok
  simp only at hok
  have HU := Lib.hid hu
  by_cases he : er = 0
  · subst he
    have hck := hok rfl
    obtain ⟨hk3, hn0, hn1⟩ := chk_ok k n a b c hck
    obtain ⟨k, rfl⟩ : ∃ q : Nat, k = q := ⟨k.toNat, by omega⟩
    obtain ⟨n, rfl⟩ : ∃ q : Nat, n = q := ⟨n.toNat, by omega⟩
    clear hu hok
    by_cases hk1 : k = 0
    · subst hk1
      have hv : moveR x m = (0, 9) := by unfold moveR chgR; rw [HU.out]; simp
      rw [hv]
      clear hv hck hk3
      go_enter Tryd.func27, Tryd.ntmps27
      go_wp2_with fail
      refine (rUnpack_any x _ hx).mono ?_
      rintro e w1 ⟨he, hb1⟩
      rw [HU.out] at he
      subst he
      go_wp2_with fail
      go_ret2
      exact ⟨rfl, by (repeat' (first | exact Below.refl _ _ | assumption | refine balloc ?_ _ | refine below_drawn ?_ _ | refine below_drew ?_ | refine bnext ?_ hb24 | refine bnext ?_ hb23 | refine bnext ?_ hb22 | refine bnext ?_ hb21 | refine bnext ?_ hb20 | refine bnext ?_ hb19 | refine bnext ?_ hb18 | refine bnext ?_ hb17 | refine bnext ?_ hb16 | refine bnext ?_ hb15 | refine bnext ?_ hb14 | refine bnext ?_ hb13 | refine bnext ?_ hb12 | refine bnext ?_ hb11 | refine bnext ?_ hb10 | refine bnext ?_ hb9 | refine bnext ?_ hb8 | refine bnext ?_ hb7 | refine bnext ?_ hb6 | refine bnext ?_ hb5 | refine bnext ?_ hb4 | refine bnext ?_ hb3 | refine bnext ?_ hb2 | refine bnext ?_ hb1))⟩
    · have hkb : ((k : Int) == 0) = false := by simp; omega
      by_cases hm : m < 0 ∨ 255 < m
      · have hv : moveR x m = (0, 2) := by unfold moveR chgR; rw [HU.out]; simp [hk1, hm]
        rw [hv]
        have hm' : m < 0 ∨ (0 ≤ m ∧ 255 < m) := by omega
        clear hv hck hk3 hk1 hm
        rcases hm' with hm | ⟨hm0, hm⟩
        all_goals
          go_enter Tryd.func27, Tryd.ntmps27
          go_wp2_with fail
          refine (rUnpack_any x _ hx).mono ?_
          rintro e w1 ⟨he, hb1⟩
          rw [HU.out] at he
          subst he
          go_wp2_with fail
          go_ret2
          exact ⟨rfl, by (repeat' (first | exact Below.refl _ _ | assumption | refine balloc ?_ _ | refine below_drawn ?_ _ | refine below_drew ?_ | refine bnext ?_ hb24 | refine bnext ?_ hb23 | refine bnext ?_ hb22 | refine bnext ?_ hb21 | refine bnext ?_ hb20 | refine bnext ?_ hb19 | refine bnext ?_ hb18 | refine bnext ?_ hb17 | refine bnext ?_ hb16 | refine bnext ?_ hb15 | refine bnext ?_ hb14 | refine bnext ?_ hb13 | refine bnext ?_ hb12 | refine bnext ?_ hb11 | refine bnext ?_ hb10 | refine bnext ?_ hb9 | refine bnext ?_ hb8 | refine bnext ?_ hb7 | refine bnext ?_ hb6 | refine bnext ?_ hb5 | refine bnext ?_ hb4 | refine bnext ?_ hb3 | refine bnext ?_ hb2 | refine bnext ?_ hb1))⟩
      · obtain ⟨m, rfl⟩ : ∃ q : Nat, m = q := ⟨m.toNat, by omega⟩
        have hv : moveR x m = (((packN k m a b c : Nat) : Int), 0) := by unfold moveR chgR; rw [HU.out]; simp [hk1, hm]
        have hm1 : m ≤ 255 := by omega
        have hpk : packR k m a b c = (((packN k m a b c : Nat) : Int), 0) := by
          have : chk k m a b c = 0 := by grind [chk]
          unfold packR; rw [if_neg (by simp [this])]; rfl
        have HPk := Lib.hid hpk
        clear hpk
        rw [hv]
        have hk2 : k < 3 := by omega
        clear hv hck hk3 hk1 hm
        go_enter Tryd.func27, Tryd.ntmps27
        go_wp2_with fail
        refine (rUnpack_any x _ hx).mono ?_
        rintro e w1 ⟨he, hb1⟩
        rw [HU.out] at he
        subst he
        go_wp2_with (go_at_call 12; refine (rPack_any _ _ _ _ _ _).mono ?_; rw [HPk.out]; rintro e w2 ⟨rfl, hb2⟩)
        go_ret2
        exact ⟨rfl, by (repeat' (first | exact Below.refl _ _ | assumption | refine balloc ?_ _ | refine below_drawn ?_ _ | refine below_drew ?_ | refine bnext ?_ hb24 | refine bnext ?_ hb23 | refine bnext ?_ hb22 | refine bnext ?_ hb21 | refine bnext ?_ hb20 | refine bnext ?_ hb19 | refine bnext ?_ hb18 | refine bnext ?_ hb17 | refine bnext ?_ hb16 | refine bnext ?_ hb15 | refine bnext ?_ hb14 | refine bnext ?_ hb13 | refine bnext ?_ hb12 | refine bnext ?_ hb11 | refine bnext ?_ hb10 | refine bnext ?_ hb9 | refine bnext ?_ hb8 | refine bnext ?_ hb7 | refine bnext ?_ hb6 | refine bnext ?_ hb5 | refine bnext ?_ hb4 | refine bnext ?_ hb3 | refine bnext ?_ hb2 | refine bnext ?_ hb1))⟩
  · have hv : moveR x m = (0, er) := by unfold moveR chgR; rw [HU.out]; simp [he]
    rw [hv]
    have heb : (er != 0) = true := by simpa using he
    clear hv hu hok he
    go_enter Tryd.func27, Tryd.ntmps27
    go_wp2_with fail
    refine (rUnpack_any x _ hx).mono ?_
    rintro e w1 ⟨he, hb1⟩
    rw [HU.out] at he
    subst he
    go_wp2_with fail
    go_ret2
    exact ⟨rfl, by (repeat' (first | exact Below.refl _ _ | assumption | refine balloc ?_ _ | refine below_drawn ?_ _ | refine below_drew ?_ | refine bnext ?_ hb24 | refine bnext ?_ hb23 | refine bnext ?_ hb22 | refine bnext ?_ hb21 | refine bnext ?_ hb20 | refine bnext ?_ hb19 | refine bnext ?_ hb18 | refine bnext ?_ hb17 | refine bnext ?_ hb16 | refine bnext ?_ hb15 | refine bnext ?_ hb14 | refine bnext ?_ hb13 | refine bnext ?_ hb12 | refine bnext ?_ hb11 | refine bnext ?_ hb10 | refine bnext ?_ hb9 | refine bnext ?_ hb8 | refine bnext ?_ hb7 | refine bnext ?_ hb6 | refine bnext ?_ hb5 | refine bnext ?_ hb4 | refine bnext ?_ hb3 | refine bnext ?_ hb2 | refine bnext ?_ hb1))⟩

end Go.Proofs.YtbifecejaphcfaaDoor
