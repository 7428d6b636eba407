/- EntryFlags returns true for every number and flags. -/
import Derived.Test.YtbifecejaphcfaaDoorEnM
import Derived.Deep.RegionHeld3
namespace Go.Proofs.YtbifecejaphcfaaDoor
open Go Go.Proofs Go.RowKit
set_option linter.unusedSimpArgs false
set_option linter.unusedVariables false

theorem chk_flag (n : Nat) (a b c r : Bool) (h : chk 1 n a b c = 0) : chk 1 n a b r = 0 := by
  unfold chk at h ⊢; cases a <;> cases b <;> simp_all
theorem chk_on (n : Nat) (a b c on : Bool) (h : chk 1 n a b c = 0) : chk 1 n on (!on) c = 0 := by
  obtain ⟨h1, h2, h3⟩ := chk_ok _ _ _ _ _ h
  have h4 : ¬ ((n : Int) < 0 ∨ 255 < (n : Int) ∨ ((1 : Int) = 0 ∧ (n : Int) ≠ 0)) := by omega
  unfold chk; rw [if_neg (by simp), if_neg h4]; cases on <;> simp
theorem wr_of (n : Nat) (a b c on : Bool) (h : chk 1 n a b c = 0) : writeR (packN 1 n a b c) on = (((packN 1 n on (!on) c : Nat) : Int), 0) := by
  unfold writeR chgR; rw [unp_pack 1 n a b c h]; simp
theorem rf_of (n : Nat) (a b c on : Bool) (h : chk 1 n a b c = 0) : referR (packN 1 n a b c) on = (((packN 1 n a b on : Nat) : Int), 0) := by
  unfold referR chgR; rw [unp_pack 1 n a b c h]; simp
theorem made_flags {z n : Int} {a b c : Bool} {x : Nat} {t : List UInt8} (M : Made z 1 n a b c x t) (on r : Bool) : ∃ x1 x2 x3 : Nat, writeR x on = ((x1 : Int), 0) ∧ referR x1 r = ((x2 : Int), 0) ∧ referR x r = ((x3 : Int), 0) ∧ writeR x3 on = ((x2 : Int), 0) ∧ writeR x1 on = ((x1 : Int), 0) ∧ unpR x2 = ((1, n, on, !on, r), 0) ∧ x1 < 65536 ∧ x2 < 65536 ∧ x3 < 65536 := by
  have h := M.ok
  obtain ⟨h1, h2, h3⟩ := chk_ok _ _ _ _ _ h
  obtain ⟨m, rfl⟩ : ∃ m : Nat, n = m := ⟨n.toNat, by omega⟩
  have hx : x = packN 1 m a b c := by
    have := (pack_of 1 m a b c h).symm.trans M.pack
    injection this with e1 e2
    omega
  subst hx
  have k1 := chk_on m a b c on h
  have k2 := chk_flag m on (!on) c r k1
  have k3 := chk_flag m a b c r h
  refine ⟨_, _, _, wr_of m a b c on h, rf_of m _ _ c r k1, rf_of m a b c r h, ?_, ?_, unp_pack 1 m _ _ _ k2, packN_lt _ _ _ _ _ k1, packN_lt _ _ _ _ _ k2, packN_lt _ _ _ _ _ k3⟩
  · exact wr_of m a b r on k3
  · exact wr_of m on (!on) c on k1
theorem made_none {z k n : Int} {a b c : Bool} {x : Nat} {t : List UInt8} (M : Made z k n a b c x t) (hk : k ≠ 1) (on : Bool) : writeR x on = (0, 9) ∧ referR x on = (0, 9) := by
  unfold writeR referR chgR; rw [M.unp]; simp [hk]

set_option maxRecDepth 100000 in
set_option maxHeartbeats 4000000 in
theorem EntryFlags_true (z : Int) (on r : Bool) (w : World) (hL : LayOK w) (hP : PowOK w) :
    Calls Tryd.prog 10 #[.int .i64 z, .bool on, .bool r] w fun e w' => e = .returned (.bool true) ∧ Below w.heap.size w w' := by
  obtain ⟨k, n, a, b, c, x, t, M⟩ := made_all z
  have hx : x < 18446744073709551616 := by have := M.lt; omega
  by_cases hk : k = 1
  · subst hk
    obtain ⟨x1, x2, x3, f1, f2, f3, f4, f5, f6, l1, l2, l3⟩ := made_flags M on r
    have F1 := Lib.hid f1
    have F2 := Lib.hid f2
    have F3 := Lib.hid f3
    have F4 := Lib.hid f4
    have F5 := Lib.hid f5
    have F6 := Lib.hid f6
    clear f1 f2 f3 f4 f5 f6
    go_enter Tryd.func10, Tryd.ntmps10
    go_wp2_with fail
    refine (EntryKnown_true _ hL hP).mono ?_
    rintro e w1 ⟨rfl, hb1⟩
    have hc1 : Below w.heap.size w w1 := bnext (Below.refl _ _) hb1
    replace hL := hL.below hc1
    replace hP := hP.below hc1
    go_wp2_with fail
    refine (M.call _).mono ?_
    rintro e w2 ⟨rfl, hb2⟩
    have hc2 : Below w1.heap.size w1 w2 := bnext (Below.refl _ _) hb2
    replace hL := hL.below hc2
    replace hP := hP.below hc2
    go_wp2_with fail
    refine (Pack_any 1 n a b c _ (hL.alloc _)).mono ?_
    rw [M.pack]
    rintro e w3 ⟨rfl, hb3⟩
    have hc3 : Below w2.heap.size w2 w3 := bnext (balloc (Below.refl _ _) _) hb3
    replace hL := hL.below hc3
    replace hP := hP.below hc3
    have kE := (Bk.new w2 #[.int .i64 1, .int .i64 n, .bool a, .bool b, .bool c] 23).to hb3
    obtain ⟨cE, fE, lE⟩ := kE.facts
    go_wp2_with fail
    refine (Write_any x on _ hx hL).mono ?_
    rw [F1.out]
    rintro e w4 ⟨rfl, hb4⟩
    clear cE fE lE
    have hc4 : Below w3.heap.size w3 w4 := bnext (Below.refl _ _) hb4
    replace kE := kE.to hc4
    replace hL := hL.below hc4
    replace hP := hP.below hc4
    obtain ⟨cE, fE, lE⟩ := kE.facts
    go_wp2_with fail
    refine (Refer_any x1 r _ (by omega) hL).mono ?_
    rw [F2.out]
    rintro e w5 ⟨rfl, hb5⟩
    clear cE fE lE
    have hc5 : Below w4.heap.size w4 w5 := bnext (Below.refl _ _) hb5
    replace kE := kE.to hc5
    replace hL := hL.below hc5
    replace hP := hP.below hc5
    obtain ⟨cE, fE, lE⟩ := kE.facts
    go_wp2_with fail
    refine (Refer_any x r _ hx hL).mono ?_
    rw [F3.out]
    rintro e w6 ⟨rfl, hb6⟩
    clear cE fE lE
    have hc6 : Below w5.heap.size w5 w6 := bnext (Below.refl _ _) hb6
    replace kE := kE.to hc6
    replace hL := hL.below hc6
    replace hP := hP.below hc6
    obtain ⟨cE, fE, lE⟩ := kE.facts
    go_wp2_with fail
    refine (Write_any x3 on _ (by omega) hL).mono ?_
    rw [F4.out]
    rintro e w7 ⟨rfl, hb7⟩
    clear cE fE lE
    have hc7 : Below w6.heap.size w6 w7 := bnext (Below.refl _ _) hb7
    replace kE := kE.to hc7
    replace hL := hL.below hc7
    replace hP := hP.below hc7
    obtain ⟨cE, fE, lE⟩ := kE.facts
    go_wp2_with fail
    refine (Write_any x1 on _ (by omega) hL).mono ?_
    rw [F5.out]
    rintro e w8 ⟨rfl, hb8⟩
    clear cE fE lE
    have hc8 : Below w7.heap.size w7 w8 := bnext (Below.refl _ _) hb8
    replace kE := kE.to hc8
    replace hL := hL.below hc8
    replace hP := hP.below hc8
    obtain ⟨cE, fE, lE⟩ := kE.facts
    go_wp2_with fail
    refine (Unpack_any x2 _ (by omega) (hL.alloc _)).mono ?_
    rintro e w9 ⟨he, hb9⟩
    clear cE fE lE
    have hc9 : Below w8.heap.size w8 w9 := bnext (balloc (Below.refl _ _) _) hb9
    replace kE := kE.to hc9
    replace hL := hL.below hc9
    replace hP := hP.below hc9
    have kN := (Bk.new w8 #[.int .i64 1, .int .i64 n, .bool on, .bool (!on), .bool r] 23).to hb9
    rw [F6.out] at he
    subst he
    simp only
    obtain ⟨cE, fE, lE⟩ := kE.facts
    obtain ⟨cN, fN, lN⟩ := kN.facts
    go_wp2_with fail
    go_ret
    exact ⟨rfl, by (repeat' (first | exact Below.refl _ _ | assumption | refine balloc ?_ _ | refine below_drawn ?_ _ | refine below_drew ?_ | refine bnext ?_ hb24 | refine bnext ?_ hb23 | refine bnext ?_ hb22 | refine bnext ?_ hb21 | refine bnext ?_ hb20 | refine bnext ?_ hb19 | refine bnext ?_ hb18 | refine bnext ?_ hb17 | refine bnext ?_ hb16 | refine bnext ?_ hb15 | refine bnext ?_ hb14 | refine bnext ?_ hb13 | refine bnext ?_ hb12 | refine bnext ?_ hb11 | refine bnext ?_ hb10 | refine bnext ?_ hb9 | refine bnext ?_ hb8 | refine bnext ?_ hb7 | refine bnext ?_ hb6 | refine bnext ?_ hb5 | refine bnext ?_ hb4 | refine bnext ?_ hb3 | refine bnext ?_ hb2 | refine bnext ?_ hb1))⟩
  · obtain ⟨g1, _⟩ := made_none M hk on
    obtain ⟨_, g2⟩ := made_none M hk r
    go_enter Tryd.func10, Tryd.ntmps10
    go_wp2_with fail
    refine (EntryKnown_true _ hL hP).mono ?_
    rintro e w1 ⟨rfl, hb1⟩
    have hc1 : Below w.heap.size w w1 := bnext (Below.refl _ _) hb1
    replace hL := hL.below hc1
    replace hP := hP.below hc1
    go_wp2_with fail
    refine (M.call _).mono ?_
    rintro e w2 ⟨rfl, hb2⟩
    have hc2 : Below w1.heap.size w1 w2 := bnext (Below.refl _ _) hb2
    replace hL := hL.below hc2
    replace hP := hP.below hc2
    go_wp2_with fail
    refine (Pack_any k n a b c _ (hL.alloc _)).mono ?_
    rw [M.pack]
    rintro e w3 ⟨rfl, hb3⟩
    have hc3 : Below w2.heap.size w2 w3 := bnext (balloc (Below.refl _ _) _) hb3
    replace hL := hL.below hc3
    replace hP := hP.below hc3
    have kE := (Bk.new w2 #[.int .i64 k, .int .i64 n, .bool a, .bool b, .bool c] 23).to hb3
    obtain ⟨cE, fE, lE⟩ := kE.facts
    go_wp2_with fail
    refine (Write_any x on _ hx hL).mono ?_
    rw [g1]
    rintro e w4 ⟨rfl, hb4⟩
    clear cE fE lE
    have hc4 : Below w3.heap.size w3 w4 := bnext (Below.refl _ _) hb4
    replace kE := kE.to hc4
    replace hL := hL.below hc4
    replace hP := hP.below hc4
    obtain ⟨cE, fE, lE⟩ := kE.facts
    have hne : (k != 1) = true := by simp [hk]
    go_wp2_with fail
    refine (Refer_any x r _ hx hL).mono ?_
    rw [g2]
    rintro e w5 ⟨rfl, hb5⟩
    clear cE fE lE
    have hc5 : Below w4.heap.size w4 w5 := bnext (Below.refl _ _) hb5
    replace kE := kE.to hc5
    replace hL := hL.below hc5
    replace hP := hP.below hc5
    obtain ⟨cE, fE, lE⟩ := kE.facts
    go_wp2_with fail
    go_ret
    exact ⟨rfl, by (repeat' (first | exact Below.refl _ _ | assumption | refine balloc ?_ _ | refine below_drawn ?_ _ | refine below_drew ?_ | refine bnext ?_ hb24 | refine bnext ?_ hb23 | refine bnext ?_ hb22 | refine bnext ?_ hb21 | refine bnext ?_ hb20 | refine bnext ?_ hb19 | refine bnext ?_ hb18 | refine bnext ?_ hb17 | refine bnext ?_ hb16 | refine bnext ?_ hb15 | refine bnext ?_ hb14 | refine bnext ?_ hb13 | refine bnext ?_ hb12 | refine bnext ?_ hb11 | refine bnext ?_ hb10 | refine bnext ?_ hb9 | refine bnext ?_ hb8 | refine bnext ?_ hb7 | refine bnext ?_ hb6 | refine bnext ?_ hb5 | refine bnext ?_ hb4 | refine bnext ?_ hb3 | refine bnext ?_ hb2 | refine bnext ?_ hb1))⟩
end Go.Proofs.YtbifecejaphcfaaDoor
