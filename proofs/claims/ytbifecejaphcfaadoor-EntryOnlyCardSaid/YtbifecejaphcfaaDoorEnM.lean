/- The entry that is made of a number. -/
import Derived.Test.YtbifecejaphcfaaDoorEnP
import Derived.Test.YtbifecejaphcfaaDoorMod
import Derived.Test.YtbifecejaphcfaaDoorLawKnown02
namespace Go.Proofs.YtbifecejaphcfaaDoor
open Go Go.Proofs Go.RowKit
set_option linter.unusedSimpArgs false
set_option linter.unusedVariables false

set_option maxRecDepth 100000 in
set_option maxHeartbeats 2000000 in
theorem made_any (n : Int) (w : World) :
    Calls Tryd.prog 33 #[.int .i64 n] w fun e w' => e = .returned (.agg #[.int .i64 (mdK n), .int .i64 (mdN n), .bool (mdA n), .bool (mdB n), .bool (mdC n)]) ∧ Below w.heap.size w w' := by
  have hM := fun w => Mod_any n 1048576 w (by omega) (by omega)
  have hk : (mdK n : Int) = n % 1048576 % 3 := by unfold mdK; omega
  have hN0 : n % 1048576 % 3 = 0 → (mdN n : Int) = 0 := fun h => by unfold mdN; rw [if_pos h]; rfl
  have hN1 : n % 1048576 % 3 ≠ 0 → (mdN n : Int) = n % 1048576 / 3 % 256 := fun h => by unfold mdN; rw [if_neg h]; omega
  have hA0 : n % 1048576 % 3 ≠ 1 → mdA n = false ∧ mdB n = false ∧ mdC n = false := fun h => by unfold mdA mdB mdC; simp [h]
  have hA1 : n % 1048576 % 3 = 1 → mdA n = (n % 1048576 / 768 % 2 == 0) ∧ mdB n = !(n % 1048576 / 768 % 2 == 0) ∧ mdC n = (n % 1048576 / 1536 % 2 == 0) := fun h => by
    unfold mdA mdB mdC; rw [h]; simp; exact ⟨rfl, rfl⟩
  generalize (mdN n : Int) = N at *
  generalize mdA n = A at *
  generalize mdB n = B at *
  generalize mdC n = C at *
  rw [hk]
  have hm0 : 0 ≤ n % 1048576 := by omega
  have hm1 : n % 1048576 < 1048576 := by omega
  generalize n % 1048576 = m at *
  have HM := Lib.hid hM
  clear hM hk
  have h3 : m % 3 = 0 ∨ m % 3 = 1 ∨ m % 3 = 2 := by omega
  rcases h3 with h | h | h
  · have e1 := hN0 h
    obtain ⟨e2, e3, e4⟩ := hA0 (by omega)
    subst e1 e2 e3 e4
    rw [h]
    clear hN0 hN1 hA0 hA1
    go_enter Tryd.func33, Tryd.ntmps33
    go_wp2_with (go_at_call 46; refine (HM.out _).mono ?_; rintro e w' ⟨rfl, rfl⟩)
    exact bodyPost_ret (v := .agg #[.int .i64 0, .int .i64 0, .bool false, .bool false, .bool false]) (by simp [results, Tryd.results33, go_sem]) rfl ⟨rfl, by (repeat' (first | exact Below.refl _ _ | assumption | refine balloc ?_ _ | refine below_drawn ?_ _ | refine below_drew ?_ | refine bnext ?_ hb24 | refine bnext ?_ hb23 | refine bnext ?_ hb22 | refine bnext ?_ hb21 | refine bnext ?_ hb20 | refine bnext ?_ hb19 | refine bnext ?_ hb18 | refine bnext ?_ hb17 | refine bnext ?_ hb16 | refine bnext ?_ hb15 | refine bnext ?_ hb14 | refine bnext ?_ hb13 | refine bnext ?_ hb12 | refine bnext ?_ hb11 | refine bnext ?_ hb10 | refine bnext ?_ hb9 | refine bnext ?_ hb8 | refine bnext ?_ hb7 | refine bnext ?_ hb6 | refine bnext ?_ hb5 | refine bnext ?_ hb4 | refine bnext ?_ hb3 | refine bnext ?_ hb2 | refine bnext ?_ hb1))⟩
  · have e1 := hN1 (by omega)
    obtain ⟨e2, e3, e4⟩ := hA1 h
    subst e1 e2 e3 e4
    rw [h]
    clear hN0 hN1 hA0 hA1
    go_enter Tryd.func33, Tryd.ntmps33
    go_wp2_with (go_at_call 46; refine (HM.out _).mono ?_; rintro e w' ⟨rfl, rfl⟩)
    all_goals exact bodyPost_ret (v := .agg #[.int .i64 1, .int .i64 (m / 3 % 256), .bool (m / 768 % 2 == 0), .bool (!(m / 768 % 2 == 0)), .bool (m / 1536 % 2 == 0)]) (by simp [results, Tryd.results33, go_sem]) rfl ⟨rfl, by (repeat' (first | exact Below.refl _ _ | assumption | refine balloc ?_ _ | refine below_drawn ?_ _ | refine below_drew ?_ | refine bnext ?_ hb24 | refine bnext ?_ hb23 | refine bnext ?_ hb22 | refine bnext ?_ hb21 | refine bnext ?_ hb20 | refine bnext ?_ hb19 | refine bnext ?_ hb18 | refine bnext ?_ hb17 | refine bnext ?_ hb16 | refine bnext ?_ hb15 | refine bnext ?_ hb14 | refine bnext ?_ hb13 | refine bnext ?_ hb12 | refine bnext ?_ hb11 | refine bnext ?_ hb10 | refine bnext ?_ hb9 | refine bnext ?_ hb8 | refine bnext ?_ hb7 | refine bnext ?_ hb6 | refine bnext ?_ hb5 | refine bnext ?_ hb4 | refine bnext ?_ hb3 | refine bnext ?_ hb2 | refine bnext ?_ hb1))⟩
  · have e1 := hN1 (by omega)
    obtain ⟨e2, e3, e4⟩ := hA0 (by omega)
    subst e1 e2 e3 e4
    rw [h]
    clear hN0 hN1 hA0 hA1
    go_enter Tryd.func33, Tryd.ntmps33
    go_wp2_with (go_at_call 46; refine (HM.out _).mono ?_; rintro e w' ⟨rfl, rfl⟩)
    exact bodyPost_ret (v := .agg #[.int .i64 2, .int .i64 (m / 3 % 256), .bool false, .bool false, .bool false]) (by simp [results, Tryd.results33, go_sem]) rfl ⟨rfl, by (repeat' (first | exact Below.refl _ _ | assumption | refine balloc ?_ _ | refine below_drawn ?_ _ | refine below_drew ?_ | refine bnext ?_ hb24 | refine bnext ?_ hb23 | refine bnext ?_ hb22 | refine bnext ?_ hb21 | refine bnext ?_ hb20 | refine bnext ?_ hb19 | refine bnext ?_ hb18 | refine bnext ?_ hb17 | refine bnext ?_ hb16 | refine bnext ?_ hb15 | refine bnext ?_ hb14 | refine bnext ?_ hb13 | refine bnext ?_ hb12 | refine bnext ?_ hb11 | refine bnext ?_ hb10 | refine bnext ?_ hb9 | refine bnext ?_ hb8 | refine bnext ?_ hb7 | refine bnext ?_ hb6 | refine bnext ?_ hb5 | refine bnext ?_ hb4 | refine bnext ?_ hb3 | refine bnext ?_ hb2 | refine bnext ?_ hb1))⟩
theorem pack_of (k n : Nat) (a b c : Bool) (h : chk k n a b c = 0) : packR k n a b c = (((packN k n a b c : Nat) : Int), 0) := by
  unfold packR
  rw [if_neg (by simp [h])]
  simp
theorem dig3_all : ((List.range 256).all fun n => decide ((Lib.decDigits n).length ≤ 3)) = true := by decide +kernel
theorem dig3_len (n : Nat) (h : n ≤ 255) : (Lib.decDigits n).length ≤ 3 := by
  simpa using List.all_eq_true.1 dig3_all n (List.mem_range.2 (by omega))
theorem txt_len (k n : Nat) (a c : Bool) (h : n ≤ 255) : (txtL k n a c).length ≤ 6 := by
  have := dig3_len n h
  unfold txtL
  split
  · simp
  split
  · simp; omega
  · cases c <;> simp <;> omega
/-- What is known of an entry that was made of a number: itself, its word, its text. -/
structure Made (n k m : Int) (a b c : Bool) (x : Nat) (t : List UInt8) : Prop where
  call : ∀ w, Calls Tryd.prog 33 #[.int .i64 n] w fun e w' => e = .returned (.agg #[.int .i64 k, .int .i64 m, .bool a, .bool b, .bool c]) ∧ Below w.heap.size w w'
  ok : chk k m a b c = 0
  pack : packR k m a b c = ((x : Int), 0)
  unp : unpR x = ((k, m, a, b, c), 0)
  text : textR k m a b c = (t, 0)
  prog : progR t = ((k, m, a, b, c), 0)
  lt : x < 65536
  len : t.length ≤ 6
  kind : ((x % 4 : Nat) : Int) = k
  not3 : x % 4 ≠ 3
theorem made_all (n : Int) : ∃ k m a b c x t, Made n k m a b c x t := by
  have h := md_ok n
  obtain ⟨hk, hn0, hn1⟩ := chk_ok _ _ _ _ _ h
  have hf := flagN_lt (mdA n) (mdB n) (mdC n)
  refine ⟨mdK n, mdN n, mdA n, mdB n, mdC n, packN (mdK n) (mdN n) (mdA n) (mdB n) (mdC n), txtL (mdK n) (mdN n) (mdA n) (mdC n), fun w => made_any n w, h, pack_of _ _ _ _ _ h, unp_pack _ _ _ _ _ h, txt_of _ _ _ _ _ h, parse_text _ _ _ _ _ h, packN_lt _ _ _ _ _ h, txt_len _ _ _ _ (by omega), ?_, ?_⟩
  · unfold packN; omega
  · unfold packN; omega
end Go.Proofs.YtbifecejaphcfaaDoor
