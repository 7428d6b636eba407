/- Texts of ranges: Text, by the program and by the reference. -/
import Derived.Test.YtmaebbbaooodaaaDoorAdP
import Derived.Test.YtmaebbbaooodaaaDoorAddr3
import Derived.Test.YtmaebbbaooodaaaDoorShelf03
import Derived.Laws.IdiomStrings
import Derived.Deep.RegionHeld3
namespace Go.Proofs.YtmaebbbaooodaaaDoor
open Go Go.Proofs Go.RowKit
set_option linter.unusedSimpArgs false
set_option linter.unusedVariables false

theorem cell_later {w w' : World} {a : Addr} {v : Value} (hb : Below w.heap.size w w') (h : w.cell? a = some v) : w'.cell? a = some v :=
  (hb.cell (p := a) (World.block_lt_of_cell? w a h)).trans h
theorem cell_alloc {w : World} {a : Addr} {v : Value} (o : Obj) (h : w.cell? a = some v) : (w.alloc o).cell? a = some v :=
  (World.cell?_alloc_lt w o a (World.block_lt_of_cell? w a h)).trans h
theorem cell_drew {w : World} {a : Addr} {v : Value} (h : w.cell? a = some v) : w.drew.cell? a = some v := h
theorem ret_str {s t : ByteArray} {k : IntKind} {z : Int} (h : s = t) : Ending.returned (.tuple #[.string s, .int k z]) = .returned (.tuple #[.string t, .int k z]) := by rw [h]
theorem ret_str1 {s t : ByteArray} (h : s = t) : Ending.returned (.string s) = .returned (.string t) := by rw [h]
theorem ItoaS_any (n : Nat) (w : World) (hn : n < 64) : Calls Tryd.prog 23 #[.int .i64 n] w fun e w' => e = .returned (.string ⟨(Lib.decDigits n).toArray⟩) ∧ w = w' :=
  (Tryd.strconv_Itoa_small n (by omega) w).mono fun _ _ h => ⟨h.1, h.2.symm⟩

set_option maxHeartbeats 1000000 in
theorem Text_any (a b : Int) (w : World) :
    Calls Tryd.prog 7 #[.agg #[.int .i64 a, .int .i64 b]] w fun e w' => e = .returned (.tuple #[.string ⟨(textA a b).1.toArray⟩, .int .i64 (textA a b).2]) ∧ Below w.heap.size w w' := by
  by_cases h : a < 0 ∨ b < a ∨ 64 ≤ b
  · have hv : textA a b = ([], 2) := by unfold textA; rw [if_pos h]
    rw [hv]
    have HB := Lib.hid h
    clear h hv
    go_enter Tryd.func7, Tryd.ntmps7
    go_wp2_with (go_at_call 22; refine (Check_bad _ _ _ HB.out).mono ?_; rintro e w1 ⟨rfl, rfl⟩)
    go_ret2
    exact ⟨rfl, by (repeat' (first | exact Below.refl _ _ | assumption | refine balloc ?_ _ | refine below_drawn ?_ _ | refine below_drew ?_ | refine bnext ?_ hb24 | refine bnext ?_ hb23 | refine bnext ?_ hb22 | refine bnext ?_ hb21 | refine bnext ?_ hb20 | refine bnext ?_ hb19 | refine bnext ?_ hb18 | refine bnext ?_ hb17 | refine bnext ?_ hb16 | refine bnext ?_ hb15 | refine bnext ?_ hb14 | refine bnext ?_ hb13 | refine bnext ?_ hb12 | refine bnext ?_ hb11 | refine bnext ?_ hb10 | refine bnext ?_ hb9 | refine bnext ?_ hb8 | refine bnext ?_ hb7 | refine bnext ?_ hb6 | refine bnext ?_ hb5 | refine bnext ?_ hb4 | refine bnext ?_ hb3 | refine bnext ?_ hb2 | refine bnext ?_ hb1))⟩
  · obtain ⟨a, rfl⟩ : ∃ q : Nat, a = q := ⟨a.toNat, by omega⟩
    obtain ⟨b, rfl⟩ : ∃ q : Nat, b = q := ⟨b.toNat, by omega⟩
    have h0 : a ≤ b := by omega
    have h1 : b < 64 := by omega
    have hv : textA a b = (txtA a b, 0) := by unfold textA; rw [if_neg h]; rfl
    rw [hv]
    clear h hv
    have la := dig64_len a (by omega)
    have lb := dig64_len b h1
    by_cases e : a = b
    · subst e
      have HV : Hid (txtA a a = Lib.decDigits a) := Lib.hid (by unfold txtA; rw [if_pos rfl])
      go_enter Tryd.func7, Tryd.ntmps7
      go_wp2_with (first
        | (go_at_call 22; refine (Check_ok _ _ _ (by omega) (by omega) (by omega)).mono ?_; rintro e w1 ⟨rfl, rfl⟩)
        | (go_at_call 23; refine (ItoaS_any a _ (by omega)).mono ?_; rintro e w1 ⟨rfl, rfl⟩))
      go_ret2
      exact ⟨ret_str (by rw [HV.out]), by (repeat' (first | exact Below.refl _ _ | assumption | refine balloc ?_ _ | refine below_drawn ?_ _ | refine below_drew ?_ | refine bnext ?_ hb24 | refine bnext ?_ hb23 | refine bnext ?_ hb22 | refine bnext ?_ hb21 | refine bnext ?_ hb20 | refine bnext ?_ hb19 | refine bnext ?_ hb18 | refine bnext ?_ hb17 | refine bnext ?_ hb16 | refine bnext ?_ hb15 | refine bnext ?_ hb14 | refine bnext ?_ hb13 | refine bnext ?_ hb12 | refine bnext ?_ hb11 | refine bnext ?_ hb10 | refine bnext ?_ hb9 | refine bnext ?_ hb8 | refine bnext ?_ hb7 | refine bnext ?_ hb6 | refine bnext ?_ hb5 | refine bnext ?_ hb4 | refine bnext ?_ hb3 | refine bnext ?_ hb2 | refine bnext ?_ hb1))⟩
    · have HV : Hid (txtA a b = Lib.decDigits a ++ [46, 46] ++ Lib.decDigits b) := Lib.hid (by unfold txtA; rw [if_neg e])
      have d1 : ((b : Int) != (a : Int)) = true := by simp; omega
      clear e
      go_enter Tryd.func7, Tryd.ntmps7
      go_wp2_with (first
        | (go_at_call 22; refine (Check_ok _ _ _ (by omega) (by omega) (by omega)).mono ?_; rintro e w1 ⟨rfl, rfl⟩)
        | (go_at_call_of 23 (Value.int .i64 (a : Int)); refine (ItoaS_any a _ (by omega)).mono ?_; rintro e w1 ⟨rfl, rfl⟩)
        | (go_at_call_of 23 (Value.int .i64 (b : Int)); refine (ItoaS_any b _ (by omega)).mono ?_; rintro e w1 ⟨rfl, rfl⟩))
      all_goals try (exfalso; omega)
      go_ret2
      exact ⟨ret_str (ByteArray.ext (by rw [HV.out]; simp)), by (repeat' (first | exact Below.refl _ _ | assumption | refine balloc ?_ _ | refine below_drawn ?_ _ | refine below_drew ?_ | refine bnext ?_ hb24 | refine bnext ?_ hb23 | refine bnext ?_ hb22 | refine bnext ?_ hb21 | refine bnext ?_ hb20 | refine bnext ?_ hb19 | refine bnext ?_ hb18 | refine bnext ?_ hb17 | refine bnext ?_ hb16 | refine bnext ?_ hb15 | refine bnext ?_ hb14 | refine bnext ?_ hb13 | refine bnext ?_ hb12 | refine bnext ?_ hb11 | refine bnext ?_ hb10 | refine bnext ?_ hb9 | refine bnext ?_ hb8 | refine bnext ?_ hb7 | refine bnext ?_ hb6 | refine bnext ?_ hb5 | refine bnext ?_ hb4 | refine bnext ?_ hb3 | refine bnext ?_ hb2 | refine bnext ?_ hb1))⟩

theorem dig_ext (n : Nat) (hn : n < 10) : (⟨#[48, 49, 50, 51, 52, 53, 54, 55, 56, 57]⟩ : ByteArray).extract n (n + 1) = ⟨(Lib.decDigits n).toArray⟩ := by
  rw [dig_small n hn]
  have h : n = 0 ∨ n = 1 ∨ n = 2 ∨ n = 3 ∨ n = 4 ∨ n = 5 ∨ n = 6 ∨ n = 7 ∨ n = 8 ∨ n = 9 := by omega
  rcases h with rfl | rfl | rfl | rfl | rfl | rfl | rfl | rfl | rfl | rfl <;> rfl
theorem rdigS (n : Nat) (w : World) (hn : n < 10) :
    Calls Tryd.prog 25 #[.int .i64 n] w fun e w' => e = .returned (.string ⟨(Lib.decDigits n).toArray⟩) ∧ w' = w := by
  have HX := Lib.hid (dig_ext n hn)
  go_enter Tryd.func25, Tryd.ntmps25
  go_wp2
  go_ret
  exact ⟨ret_str1 HX.out, rfl⟩
set_option maxHeartbeats 1000000 in
theorem rdigits_any (n : Nat) (w : World) (hn : n < 64) :
    Calls Tryd.prog 25 #[.int .i64 n] w fun e w' => e = .returned (.string ⟨(Lib.decDigits n).toArray⟩) ∧ Below w.heap.size w w' := by
  by_cases h : n < 10
  · exact (rdigS n w h).mono fun _ _ ⟨h1, h2⟩ => ⟨h1, by rw [h2]; exact Below.refl _ _⟩
  · have HX := Lib.hid (dig_ext (n % 10) (by omega))
    have HD : Hid (Lib.decDigits n = Lib.decDigits (n / 10) ++ Lib.decDigits (n % 10)) := Lib.hid (by rw [dig_big n h, dig_small (n % 10) (by omega)])
    have l1 := dig64_len (n / 10) (by omega)
    have l2 := dig64_len (n % 10) (by omega)
    have hI : ¬ (n : Int) < 10 := by omega
    have hq : ((n / 10 : Nat) : Int) < 10 := by omega
    go_enter Tryd.func25, Tryd.ntmps25
    go_wp2_with fail
    go_quiet ((go_at_call 25; exact Calls.quiet_of_same (rdigS (n / 10) _ (by omega))))
    all_goals try (exfalso; omega)
    all_goals try go_wp2_with fail
    all_goals go_ret
    refine ⟨ret_str1 ?_, by (repeat' (first | exact Below.refl _ _ | assumption | refine balloc ?_ _ | refine below_drawn ?_ _ | refine below_drew ?_ | refine bnext ?_ hb24 | refine bnext ?_ hb23 | refine bnext ?_ hb22 | refine bnext ?_ hb21 | refine bnext ?_ hb20 | refine bnext ?_ hb19 | refine bnext ?_ hb18 | refine bnext ?_ hb17 | refine bnext ?_ hb16 | refine bnext ?_ hb15 | refine bnext ?_ hb14 | refine bnext ?_ hb13 | refine bnext ?_ hb12 | refine bnext ?_ hb11 | refine bnext ?_ hb10 | refine bnext ?_ hb9 | refine bnext ?_ hb8 | refine bnext ?_ hb7 | refine bnext ?_ hb6 | refine bnext ?_ hb5 | refine bnext ?_ hb4 | refine bnext ?_ hb3 | refine bnext ?_ hb2 | refine bnext ?_ hb1))⟩
    rw [HD.out]
    apply ByteArray.ext
    simp [HX.out]

set_option maxHeartbeats 1000000 in
theorem rText_any (a b : Int) (w : World) :
    Calls Tryd.prog 8 #[.agg #[.int .i64 a, .int .i64 b]] w fun e w' => e = .returned (.tuple #[.string ⟨(textA a b).1.toArray⟩, .int .i64 (textA a b).2]) ∧ Below w.heap.size w w' := by
  by_cases h : a < 0 ∨ b < a ∨ 64 ≤ b
  · have hv : textA a b = ([], 2) := by unfold textA; rw [if_pos h]
    rw [hv]
    have HB := Lib.hid h
    clear h hv
    go_enter Tryd.func8, Tryd.ntmps8
    go_wp2_with (go_at_call 24; refine (rCheck_bad _ _ _ HB.out).mono ?_; rintro e w1 ⟨rfl, rfl⟩)
    go_ret2
    exact ⟨rfl, by (repeat' (first | exact Below.refl _ _ | assumption | refine balloc ?_ _ | refine below_drawn ?_ _ | refine below_drew ?_ | refine bnext ?_ hb24 | refine bnext ?_ hb23 | refine bnext ?_ hb22 | refine bnext ?_ hb21 | refine bnext ?_ hb20 | refine bnext ?_ hb19 | refine bnext ?_ hb18 | refine bnext ?_ hb17 | refine bnext ?_ hb16 | refine bnext ?_ hb15 | refine bnext ?_ hb14 | refine bnext ?_ hb13 | refine bnext ?_ hb12 | refine bnext ?_ hb11 | refine bnext ?_ hb10 | refine bnext ?_ hb9 | refine bnext ?_ hb8 | refine bnext ?_ hb7 | refine bnext ?_ hb6 | refine bnext ?_ hb5 | refine bnext ?_ hb4 | refine bnext ?_ hb3 | refine bnext ?_ hb2 | refine bnext ?_ hb1))⟩
  · obtain ⟨a, rfl⟩ : ∃ q : Nat, a = q := ⟨a.toNat, by omega⟩
    obtain ⟨b, rfl⟩ : ∃ q : Nat, b = q := ⟨b.toNat, by omega⟩
    have h0 : a ≤ b := by omega
    have h1 : b < 64 := by omega
    have hv : textA a b = (txtA a b, 0) := by unfold textA; rw [if_neg h]; rfl
    rw [hv]
    clear h hv
    have la := dig64_len a (by omega)
    have lb := dig64_len b h1
    by_cases e : a = b
    · subst e
      have HV : Hid (txtA a a = Lib.decDigits a) := Lib.hid (by unfold txtA; rw [if_pos rfl])
      go_enter Tryd.func8, Tryd.ntmps8
      go_wp2_with (first
        | (go_at_call 24; refine (rCheck_ok _ _ _ (by omega) (by omega) (by omega)).mono ?_; rintro e w1 ⟨rfl, rfl⟩)
        | (go_at_call 25; refine (rdigits_any a _ (by omega)).mono ?_; rintro e w1 ⟨rfl, hb1⟩))
      go_ret2
      exact ⟨ret_str (by rw [HV.out]), by (repeat' (first | exact Below.refl _ _ | assumption | refine balloc ?_ _ | refine below_drawn ?_ _ | refine below_drew ?_ | refine bnext ?_ hb24 | refine bnext ?_ hb23 | refine bnext ?_ hb22 | refine bnext ?_ hb21 | refine bnext ?_ hb20 | refine bnext ?_ hb19 | refine bnext ?_ hb18 | refine bnext ?_ hb17 | refine bnext ?_ hb16 | refine bnext ?_ hb15 | refine bnext ?_ hb14 | refine bnext ?_ hb13 | refine bnext ?_ hb12 | refine bnext ?_ hb11 | refine bnext ?_ hb10 | refine bnext ?_ hb9 | refine bnext ?_ hb8 | refine bnext ?_ hb7 | refine bnext ?_ hb6 | refine bnext ?_ hb5 | refine bnext ?_ hb4 | refine bnext ?_ hb3 | refine bnext ?_ hb2 | refine bnext ?_ hb1))⟩
    · have HV : Hid (txtA a b = Lib.decDigits a ++ [46, 46] ++ Lib.decDigits b) := Lib.hid (by unfold txtA; rw [if_neg e])
      have d1 : ((a : Int) == (b : Int)) = false := by simp; omega
      clear e
      go_enter Tryd.func8, Tryd.ntmps8
      go_wp2_with fail
      refine (rCheck_ok _ _ _ (by omega) (by omega) (by omega)).mono ?_
      rintro e w1 ⟨rfl, rfl⟩
      have kR := (Bk.new w #[.int .i64 (a : Int), .int .i64 (b : Int)] 23).alloc (.cells #[.int .i64 (a : Int), .int .i64 (b : Int)] 23)
      have hB1 := balloc (balloc (Below.refl _ w) (.cells #[.int .i64 (a : Int), .int .i64 (b : Int)] 23)) (.cells #[.int .i64 (a : Int), .int .i64 (b : Int)] 23)
      generalize (w.alloc (.cells #[.int .i64 (a : Int), .int .i64 (b : Int)] 23)).alloc (.cells #[.int .i64 (a : Int), .int .i64 (b : Int)] 23) = w2 at *
      obtain ⟨cR, fR, lR⟩ := kR.facts
      go_wp2_with fail
      have c0 : w2.cell? ⟨w.heap.size, 0, none⟩ = some (.int .i64 (a : Int)) := kR.cell 0
      have c1 : w2.cell? ⟨w.heap.size, 1, none⟩ = some (.int .i64 (b : Int)) := kR.cell 1
      clear cR fR
      have C1 : ∀ W : World, (Op.stringOp .add (⟨(Lib.decDigits a).toArray⟩ : ByteArray) ⟨#[46, 46]⟩).run Tryd.prog W = .ok (.string ⟨(Lib.decDigits a ++ [46, 46]).toArray⟩) W := fun W => run_string_add_lists W _ [46, 46] (by omega) (by simp)
      have C2 : ∀ W : World, (Op.stringOp .add (⟨(Lib.decDigits a ++ [46, 46]).toArray⟩ : ByteArray) ⟨(Lib.decDigits b).toArray⟩).run Tryd.prog W = .ok (.string ⟨(Lib.decDigits a ++ [46, 46] ++ Lib.decDigits b).toArray⟩) W := fun W => run_string_add_lists W _ _ (by simp; omega) (by omega)
      go_region_held3 (fun w' => w'.cell? ⟨w.heap.size, 0, none⟩ = some (.int .i64 (a : Int)) ∧ w'.cell? ⟨w.heap.size, 1, none⟩ = some (.int .i64 (b : Int)))
        (refine ⟨?_, ?_⟩ <;> (repeat (with_reducible first | exact c0 | exact c1 | refine cell_drew ?_ | refine cell_later hb4 ?_ | refine cell_later hb3 ?_)))
        (first
          | (go_at_call_of 25 (Value.int .i64 (a : Int)); refine (rdigits_any a _ (by omega)).mono ?_; rintro e w3 ⟨rfl, hb3⟩)
          | (go_at_call_of 25 (Value.int .i64 (b : Int)); refine (rdigits_any b _ (by omega)).mono ?_; rintro e w4 ⟨rfl, hb4⟩))
      all_goals try (exfalso; omega)
      all_goals try go_wp2_with fail
      all_goals try (exfalso; omega)
      all_goals go_ret2
      all_goals exact ⟨ret_str (ByteArray.ext (by rw [HV.out]; simp)), by repeat (with_reducible first | exact hB1 | refine bnext ?_ hb4 | refine bnext ?_ hb3 | refine below_drew ?_)⟩
end Go.Proofs.YtmaebbbaooodaaaDoor
