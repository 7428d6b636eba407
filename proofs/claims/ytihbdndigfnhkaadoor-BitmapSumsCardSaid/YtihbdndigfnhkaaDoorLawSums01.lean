/- BitmapSums returns true for all numbers. -/
import Derived.Test.YtihbdndigfnhkaaDoorLawRuns01
import Derived.Deep.RegionHeld3
import Derived.Deep.DeepCutAuto
namespace Go.Proofs.YtihbdndigfnhkaaDoor
open Go Go.Proofs Go.RowKit
set_option linter.unusedSimpArgs false
set_option linter.unusedVariables false
set_option maxRecDepth 100000

theorem Cmb_ok (N : Nat) (ws vs : List Nat) (A : Option Addr) (m c : Nat) (A' : Option Addr) (m' c' : Nat) (op : Int) (w : World) (hN : N ≤ 300) (hr : Rd w 1 A m (uw ws)) (hs : wsmall ws) (hE : chkE N ws = 0) (hr' : Rd w 1 A' m' (uw vs)) (hs' : wsmall vs) (hE' : chkE N vs = 0) (h1 : 1 ≤ op) (h2 : op ≤ 4) :
    Calls Tryd.prog 29 #[.agg #[.int .i64 N, .slice A m c], .agg #[.int .i64 N, .slice A' m' c'], .int .i64 op] w fun e w' => ∃ A2 m2 c2, e = .returned (.tuple #[.agg #[.int .i64 N, .slice A2 m2 c2], .int .i64 0]) ∧ Rd w' 1 A2 m2 (uw (cmbW N ws vs op)) ∧ Below w.heap.size w w' := by
  have hm : m ≤ 1000000 := by have := hr.1; rw [uw_len] at this; have := chk_len hE; omega
  have hm' : m' ≤ 1000000 := by have := hr'.1; rw [uw_len] at this; have := chk_len hE'; omega
  refine (Combine_any N A m c ws N A' m' c' vs op w hr hs hm hr' hs' hm').mono ?_
  rw [cmb_ok N ws vs op hE hE' h1 h2]
  rintro e w' ⟨A2, m2, c2, rfl, hown, hb⟩
  exact ⟨A2, m2, c2, rfl, Rd.own hown, hb⟩
theorem Cnt_ok (N : Nat) (ws : List Nat) (A : Option Addr) (m c : Nat) (w : World) (hr : Rd w 1 A m (uw ws)) (hs : wsmall ws) (hE : chkE N ws = 0) :
    Calls Tryd.prog 25 #[.agg #[.int .i64 N, .slice A m c], .int .i64 0, .int .i64 N] w fun e w' => e = .returned (.tuple #[.int .i64 (cnt ws 0 N), .int .i64 0]) ∧ Below w.heap.size w w' := by
  have hm : m ≤ 1000000 := by have := hr.1; rw [uw_len] at this; have := chk_len hE; omega
  have h := count_ok N ws 0 N hE (by omega) (Nat.le_refl _)
  have := Count_any N A m c ws 0 N w hr hs hm
  rw [show countR N ws 0 N = ((cnt ws 0 N : Int), 0) from h] at this
  exact this
theorem textB_le (N : Nat) (ws : List Nat) (hN : N ≤ 300) (hE : chkE N ws = 0) : (textB N ws).1.length ≤ 1000 := by
  have h1 := decDigits_len N (by omega)
  have h2 := digL_len ws ((N + 3) / 4)
  unfold textB
  rw [if_neg (by simp [hE]), Int.toNat_natCast]
  simp only [List.length_append, List.length_cons, List.length_nil]
  omega
def szA (a b c d : Int) : Nat → Array Value
  | 0 => #[.int .i64 0, .int .i64 0, .int .i64 0, .int .i64 0]
  | 1 => #[.int .i64 a, .int .i64 0, .int .i64 0, .int .i64 0]
  | 2 => #[.int .i64 a, .int .i64 b, .int .i64 0, .int .i64 0]
  | 3 => #[.int .i64 a, .int .i64 b, .int .i64 c, .int .i64 0]
  | _ => #[.int .i64 a, .int .i64 b, .int .i64 c, .int .i64 d]
def SzR (w5 : World) (p : Nat) (a b c d : Int) (i : Value) (wr : World) : Prop := ∃ k : Nat, k ≤ 4 ∧ i = .int .i64 k ∧ Bk wr p (szA a b c d k) 57 ∧ Below w5.heap.size w5 wr
theorem scell_later {w w' : World} {a : Addr} {v : Value} (hb : Below w.heap.size w w') (h : w.cell? a = some v) : w'.cell? a = some v :=
  (hb.cell (p := a) (World.block_lt_of_cell? w a h)).trans h
theorem scell_drew {w : World} {a : Addr} {v : Value} (h : w.cell? a = some v) : w.drew.cell? a = some v := h
set_option maxHeartbeats 8000000 in
theorem BitmapSums_true (n : Int) (nums more : List Int) (A : Option Addr) (c : Nat) (A' : Option Addr) (c' : Nat) (w : World) (hr : Rd w 1 A nums.length (nums.map (Value.int .i64))) (hl : nums.length ≤ 9223372036854775807) (hr' : Rd w 1 A' more.length (more.map (Value.int .i64))) (hl' : more.length ≤ 9223372036854775807) (hT : TabOK w) (hC : CutOK w) (hP : PowOK w) :
    Calls Tryd.prog 9 #[.int .i64 n, .slice A nums.length c, .slice A' more.length c'] w fun e w' => e = .returned (.bool true) ∧ Below w.heap.size w w' := by
  obtain ⟨N, hN⟩ : ∃ N : Nat, n % 301 = N := ⟨(n % 301).toNat, by have := Int.emod_nonneg n (show (301 : Int) ≠ 0 by omega); omega⟩
  have hN3 : N ≤ 300 := by have := Int.emod_lt_of_pos n (show (0 : Int) < 301 by omega); omega
  have HM1 := Lib.hid (fun w h => made_full N n nums A c w hN h hl)
  have HM2 := Lib.hid (fun w h => made_full N n more A' c' w hN h hl')
  have HP := Lib.hid hP
  have HC := Lib.hid hC
  clear hN
  go_enter Tryd.func9, Tryd.ntmps9
  go_wp2_with fail
  go_at_call 7
  refine (BitmapKnown_true _ hT hC hP).mono ?_
  rintro e w1 ⟨rfl, hb1⟩
  replace hr := hr.below hb1 (Nat.le_refl _)
  replace hr' := hr'.below hb1 (Nat.le_refl _)
  have B1 := hb1
  clear hb1
  clear hT hC hP
  go_wp2_with fail
  go_at_call 40
  refine (HM1.out _ hr).mono ?_
  rintro e w2 ⟨ws, A1, m1, c1, rfl, hE, hs, hown, hb2⟩
  replace hr := hr.below hb2 (Nat.le_refl _)
  replace hr' := hr'.below hb2 (Nat.le_refl _)
  have B2 := bnext B1 hb2
  clear hb2 B1
  have r1 := Rd.own hown
  clear hown HM1
  have kA := Bk.new w2 #[.int .i64 N, .slice A1 m1 c1] 24
  replace hr' := hr'.alloc (.cells #[.int .i64 N, .slice A1 m1 c1] 24)
  replace r1 := r1.alloc (.cells #[.int .i64 N, .slice A1 m1 c1] 24)
  replace B2 := balloc B2 (.cells #[.int .i64 N, .slice A1 m1 c1] 24)
  go_wp2_with fail
  go_at_call 40
  refine (HM2.out _ hr').mono ?_
  rintro e w3 ⟨vs, A2, m2, c2, rfl, hE', hs', hown, hb3⟩
  replace kA := kA.to hb3
  replace hr' := hr'.below hb3 (Nat.le_refl _)
  replace r1 := r1.below hb3 (Nat.le_refl _)
  have B3 := bnext B2 hb3
  clear hb3 B2
  have r2 := Rd.own hown
  clear hown HM2
  have kB := Bk.new w3 #[.int .i64 N, .slice A2 m2 c2] 24
  replace kA := kA.alloc (.cells #[.int .i64 N, .slice A2 m2 c2] 24)
  replace r1 := r1.alloc (.cells #[.int .i64 N, .slice A2 m2 c2] 24)
  replace r2 := r2.alloc (.cells #[.int .i64 N, .slice A2 m2 c2] 24)
  replace B3 := balloc B3 (.cells #[.int .i64 N, .slice A2 m2 c2] 24)
  obtain ⟨ccA, ffA, llA⟩ := kA.facts
  obtain ⟨ccB, ffB, llB⟩ := kB.facts
  go_wp2_with fail
  go_at_call 29
  refine (Cmb_ok N ws vs A1 m1 c1 A2 m2 c2 1 _ hN3 r1 hs hE r2 hs' hE' (by omega) (by omega)).mono ?_
  rintro e w4 ⟨A3, m3, c3, rfl, r3, hb4⟩
  clear ccA ffA llA ccB ffB llB
  replace kA := kA.to hb4
  replace kB := kB.to hb4
  replace r1 := r1.below hb4 (Nat.le_refl _)
  replace r2 := r2.below hb4 (Nat.le_refl _)
  have B4 := bnext B3 hb4
  clear hb4 B3
  have k3 := Bk.new w4 #[.int .i64 N, .slice A3 m3 c3] 24
  replace kA := kA.alloc (.cells #[.int .i64 N, .slice A3 m3 c3] 24)
  replace kB := kB.alloc (.cells #[.int .i64 N, .slice A3 m3 c3] 24)
  replace r1 := r1.alloc (.cells #[.int .i64 N, .slice A3 m3 c3] 24)
  replace r2 := r2.alloc (.cells #[.int .i64 N, .slice A3 m3 c3] 24)
  replace r3 := r3.alloc (.cells #[.int .i64 N, .slice A3 m3 c3] 24)
  replace B4 := balloc B4 (.cells #[.int .i64 N, .slice A3 m3 c3] 24)
  obtain ⟨ccA, ffA, llA⟩ := kA.facts
  obtain ⟨ccB, ffB, llB⟩ := kB.facts
  go_wp2_with fail
  go_at_call 29
  refine (Cmb_ok N ws vs A1 m1 c1 A2 m2 c2 2 _ hN3 r1 hs hE r2 hs' hE' (by omega) (by omega)).mono ?_
  rintro e w5 ⟨A4, m4, c4, rfl, r4, hb5⟩
  clear ccA ffA llA ccB ffB llB
  replace kA := kA.to hb5
  replace kB := kB.to hb5
  replace k3 := k3.to hb5
  replace r1 := r1.below hb5 (Nat.le_refl _)
  replace r2 := r2.below hb5 (Nat.le_refl _)
  replace r3 := r3.below hb5 (Nat.le_refl _)
  have B5 := bnext B4 hb5
  clear hb5 B4
  have k4 := Bk.new w5 #[.int .i64 N, .slice A4 m4 c4] 24
  replace kA := kA.alloc (.cells #[.int .i64 N, .slice A4 m4 c4] 24)
  replace kB := kB.alloc (.cells #[.int .i64 N, .slice A4 m4 c4] 24)
  replace k3 := k3.alloc (.cells #[.int .i64 N, .slice A4 m4 c4] 24)
  replace r1 := r1.alloc (.cells #[.int .i64 N, .slice A4 m4 c4] 24)
  replace r2 := r2.alloc (.cells #[.int .i64 N, .slice A4 m4 c4] 24)
  replace r3 := r3.alloc (.cells #[.int .i64 N, .slice A4 m4 c4] 24)
  replace r4 := r4.alloc (.cells #[.int .i64 N, .slice A4 m4 c4] 24)
  replace B5 := balloc B5 (.cells #[.int .i64 N, .slice A4 m4 c4] 24)
  obtain ⟨ccA, ffA, llA⟩ := kA.facts
  obtain ⟨ccB, ffB, llB⟩ := kB.facts
  go_wp2_with fail
  go_at_call 29
  refine (Cmb_ok N ws vs A1 m1 c1 A2 m2 c2 3 _ hN3 r1 hs hE r2 hs' hE' (by omega) (by omega)).mono ?_
  rintro e w6 ⟨A5, m5, c5, rfl, r5, hb6⟩
  clear ccA ffA llA ccB ffB llB
  replace kA := kA.to hb6
  replace kB := kB.to hb6
  replace k3 := k3.to hb6
  replace k4 := k4.to hb6
  replace r1 := r1.below hb6 (Nat.le_refl _)
  replace r2 := r2.below hb6 (Nat.le_refl _)
  replace r3 := r3.below hb6 (Nat.le_refl _)
  replace r4 := r4.below hb6 (Nat.le_refl _)
  have B6 := bnext B5 hb6
  clear hb6 B5
  have k5 := Bk.new w6 #[.int .i64 N, .slice A5 m5 c5] 24
  replace kA := kA.alloc (.cells #[.int .i64 N, .slice A5 m5 c5] 24)
  replace kB := kB.alloc (.cells #[.int .i64 N, .slice A5 m5 c5] 24)
  replace k3 := k3.alloc (.cells #[.int .i64 N, .slice A5 m5 c5] 24)
  replace k4 := k4.alloc (.cells #[.int .i64 N, .slice A5 m5 c5] 24)
  replace r1 := r1.alloc (.cells #[.int .i64 N, .slice A5 m5 c5] 24)
  replace r2 := r2.alloc (.cells #[.int .i64 N, .slice A5 m5 c5] 24)
  replace r3 := r3.alloc (.cells #[.int .i64 N, .slice A5 m5 c5] 24)
  replace r4 := r4.alloc (.cells #[.int .i64 N, .slice A5 m5 c5] 24)
  replace r5 := r5.alloc (.cells #[.int .i64 N, .slice A5 m5 c5] 24)
  replace B6 := balloc B6 (.cells #[.int .i64 N, .slice A5 m5 c5] 24)
  obtain ⟨ccB, ffB, llB⟩ := kB.facts
  obtain ⟨ccA, ffA, llA⟩ := kA.facts
  go_wp2_with fail
  go_at_call 29
  refine (Cmb_ok N vs ws A2 m2 c2 A1 m1 c1 3 _ hN3 r2 hs' hE' r1 hs hE (by omega) (by omega)).mono ?_
  rintro e w7 ⟨A6, m6, c6, rfl, r6, hb7⟩
  clear ccB ffB llB ccA ffA llA
  replace kA := kA.to hb7
  replace kB := kB.to hb7
  replace k3 := k3.to hb7
  replace k4 := k4.to hb7
  replace k5 := k5.to hb7
  replace r1 := r1.below hb7 (Nat.le_refl _)
  replace r2 := r2.below hb7 (Nat.le_refl _)
  replace r3 := r3.below hb7 (Nat.le_refl _)
  replace r4 := r4.below hb7 (Nat.le_refl _)
  replace r5 := r5.below hb7 (Nat.le_refl _)
  have B7 := bnext B6 hb7
  clear hb7 B6
  have k6 := Bk.new w7 #[.int .i64 N, .slice A6 m6 c6] 24
  replace kA := kA.alloc (.cells #[.int .i64 N, .slice A6 m6 c6] 24)
  replace kB := kB.alloc (.cells #[.int .i64 N, .slice A6 m6 c6] 24)
  replace k3 := k3.alloc (.cells #[.int .i64 N, .slice A6 m6 c6] 24)
  replace k4 := k4.alloc (.cells #[.int .i64 N, .slice A6 m6 c6] 24)
  replace k5 := k5.alloc (.cells #[.int .i64 N, .slice A6 m6 c6] 24)
  replace r1 := r1.alloc (.cells #[.int .i64 N, .slice A6 m6 c6] 24)
  replace r2 := r2.alloc (.cells #[.int .i64 N, .slice A6 m6 c6] 24)
  replace r3 := r3.alloc (.cells #[.int .i64 N, .slice A6 m6 c6] 24)
  replace r4 := r4.alloc (.cells #[.int .i64 N, .slice A6 m6 c6] 24)
  replace r5 := r5.alloc (.cells #[.int .i64 N, .slice A6 m6 c6] 24)
  replace r6 := r6.alloc (.cells #[.int .i64 N, .slice A6 m6 c6] 24)
  replace B7 := balloc B7 (.cells #[.int .i64 N, .slice A6 m6 c6] 24)
  obtain ⟨ccA, ffA, llA⟩ := kA.facts
  obtain ⟨ccB, ffB, llB⟩ := kB.facts
  go_wp2_with fail
  go_at_call 29
  refine (Cmb_ok N ws vs A1 m1 c1 A2 m2 c2 4 _ hN3 r1 hs hE r2 hs' hE' (by omega) (by omega)).mono ?_
  rintro e w8 ⟨A7, m7, c7, rfl, r7, hb8⟩
  clear ccA ffA llA ccB ffB llB
  replace kA := kA.to hb8
  replace kB := kB.to hb8
  replace k3 := k3.to hb8
  replace k4 := k4.to hb8
  replace k5 := k5.to hb8
  replace k6 := k6.to hb8
  replace r1 := r1.below hb8 (Nat.le_refl _)
  replace r2 := r2.below hb8 (Nat.le_refl _)
  replace r3 := r3.below hb8 (Nat.le_refl _)
  replace r4 := r4.below hb8 (Nat.le_refl _)
  replace r5 := r5.below hb8 (Nat.le_refl _)
  replace r6 := r6.below hb8 (Nat.le_refl _)
  have B8 := bnext B7 hb8
  clear hb8 B7
  have k7 := Bk.new w8 #[.int .i64 N, .slice A7 m7 c7] 24
  replace kA := kA.alloc (.cells #[.int .i64 N, .slice A7 m7 c7] 24)
  replace kB := kB.alloc (.cells #[.int .i64 N, .slice A7 m7 c7] 24)
  replace k3 := k3.alloc (.cells #[.int .i64 N, .slice A7 m7 c7] 24)
  replace k4 := k4.alloc (.cells #[.int .i64 N, .slice A7 m7 c7] 24)
  replace k5 := k5.alloc (.cells #[.int .i64 N, .slice A7 m7 c7] 24)
  replace k6 := k6.alloc (.cells #[.int .i64 N, .slice A7 m7 c7] 24)
  replace r1 := r1.alloc (.cells #[.int .i64 N, .slice A7 m7 c7] 24)
  replace r2 := r2.alloc (.cells #[.int .i64 N, .slice A7 m7 c7] 24)
  replace r3 := r3.alloc (.cells #[.int .i64 N, .slice A7 m7 c7] 24)
  replace r4 := r4.alloc (.cells #[.int .i64 N, .slice A7 m7 c7] 24)
  replace r5 := r5.alloc (.cells #[.int .i64 N, .slice A7 m7 c7] 24)
  replace r6 := r6.alloc (.cells #[.int .i64 N, .slice A7 m7 c7] 24)
  replace r7 := r7.alloc (.cells #[.int .i64 N, .slice A7 m7 c7] 24)
  replace B8 := balloc B8 (.cells #[.int .i64 N, .slice A7 m7 c7] 24)
  obtain ⟨cc5, ff5, ll5⟩ := k5.facts
  obtain ⟨cc6, ff6, ll6⟩ := k6.facts
  go_wp2_with fail
  go_at_call 29
  refine (Cmb_ok N (cmbW N ws vs 3) (cmbW N vs ws 3) A5 m5 c5 A6 m6 c6 1 _ hN3 r5 (cmb_small N ws vs 3) (cmb_chk N ws vs 3 (by omega)) r6 (cmb_small N vs ws 3) (cmb_chk N vs ws 3 (by omega)) (by omega) (by omega)).mono ?_
  rintro e w9 ⟨A8, m8, c8, rfl, r8, hb9⟩
  clear cc5 ff5 ll5 cc6 ff6 ll6
  replace kA := kA.to hb9
  replace kB := kB.to hb9
  replace k3 := k3.to hb9
  replace k4 := k4.to hb9
  replace k5 := k5.to hb9
  replace k6 := k6.to hb9
  replace k7 := k7.to hb9
  replace r1 := r1.below hb9 (Nat.le_refl _)
  replace r2 := r2.below hb9 (Nat.le_refl _)
  replace r3 := r3.below hb9 (Nat.le_refl _)
  replace r4 := r4.below hb9 (Nat.le_refl _)
  replace r5 := r5.below hb9 (Nat.le_refl _)
  replace r6 := r6.below hb9 (Nat.le_refl _)
  replace r7 := r7.below hb9 (Nat.le_refl _)
  have B9 := bnext B8 hb9
  clear hb9 B8
  have k8 := Bk.new w9 #[.int .i64 N, .slice A8 m8 c8] 24
  replace kA := kA.alloc (.cells #[.int .i64 N, .slice A8 m8 c8] 24)
  replace kB := kB.alloc (.cells #[.int .i64 N, .slice A8 m8 c8] 24)
  replace k3 := k3.alloc (.cells #[.int .i64 N, .slice A8 m8 c8] 24)
  replace k4 := k4.alloc (.cells #[.int .i64 N, .slice A8 m8 c8] 24)
  replace k5 := k5.alloc (.cells #[.int .i64 N, .slice A8 m8 c8] 24)
  replace k6 := k6.alloc (.cells #[.int .i64 N, .slice A8 m8 c8] 24)
  replace k7 := k7.alloc (.cells #[.int .i64 N, .slice A8 m8 c8] 24)
  replace r1 := r1.alloc (.cells #[.int .i64 N, .slice A8 m8 c8] 24)
  replace r2 := r2.alloc (.cells #[.int .i64 N, .slice A8 m8 c8] 24)
  replace r3 := r3.alloc (.cells #[.int .i64 N, .slice A8 m8 c8] 24)
  replace r4 := r4.alloc (.cells #[.int .i64 N, .slice A8 m8 c8] 24)
  replace r5 := r5.alloc (.cells #[.int .i64 N, .slice A8 m8 c8] 24)
  replace r6 := r6.alloc (.cells #[.int .i64 N, .slice A8 m8 c8] 24)
  replace r7 := r7.alloc (.cells #[.int .i64 N, .slice A8 m8 c8] 24)
  replace r8 := r8.alloc (.cells #[.int .i64 N, .slice A8 m8 c8] 24)
  replace B9 := balloc B9 (.cells #[.int .i64 N, .slice A8 m8 c8] 24)
  rw [cmb_one] at r8
  have hm7 : m7 = m8 := by have h1 := r7.1; have h2 := r8.1; omega
  subst hm7
  have hl7 : m7 ≤ 1000000 := by have := r7.1; rw [uw_len] at this; have := chk_len (cmb_chk N ws vs 4 (by omega)); omega
  obtain ⟨cc7, ff7, ll7⟩ := k7.facts
  obtain ⟨cc8, ff8, ll8⟩ := k8.facts
  go_wp2_with fail
  go_at_call 18
  refine (SameBits_eq N A7 A8 m7 c7 c8 (cmbW N ws vs 4) _ r7 r8 (cmb_small N ws vs 4) hl7).mono ?_
  rintro e w10 ⟨rfl, hb10⟩
  clear cc7 ff7 ll7 cc8 ff8 ll8
  replace kA := kA.to hb10
  replace kB := kB.to hb10
  replace k3 := k3.to hb10
  replace k4 := k4.to hb10
  replace k5 := k5.to hb10
  replace k6 := k6.to hb10
  replace k7 := k7.to hb10
  replace k8 := k8.to hb10
  replace r1 := r1.below hb10 (Nat.le_refl _)
  replace r2 := r2.below hb10 (Nat.le_refl _)
  replace r3 := r3.below hb10 (Nat.le_refl _)
  replace r4 := r4.below hb10 (Nat.le_refl _)
  replace r5 := r5.below hb10 (Nat.le_refl _)
  replace r6 := r6.below hb10 (Nat.le_refl _)
  replace r7 := r7.below hb10 (Nat.le_refl _)
  replace r8 := r8.below hb10 (Nat.le_refl _)
  have B10 := bnext B9 hb10
  clear hb10 B9
  obtain ⟨cc3, ff3, ll3⟩ := k3.facts
  obtain ⟨cc4, ff4, ll4⟩ := k4.facts
  obtain ⟨cc5, ff5, ll5⟩ := k5.facts
  obtain ⟨cc6, ff6, ll6⟩ := k6.facts
  go_upto_region 13 with fail
  clear cc3 ff3 ll3 cc4 ff4 ll4 cc5 ff5 ll5 cc6 ff6 ll6 k7 k8 kB k3 k4 k5 k6 hl7 r7 r8 r2
  have kL := Bk.new w10 #[.int .i64 N, .slice A3 m3 c3, .int .i64 N, .slice A4 m4 c4, .int .i64 N, .slice A5 m5 c5, .int .i64 N, .slice A6 m6 c6] 24
  replace kA := kA.alloc (.cells #[.int .i64 N, .slice A3 m3 c3, .int .i64 N, .slice A4 m4 c4, .int .i64 N, .slice A5 m5 c5, .int .i64 N, .slice A6 m6 c6] 24)
  replace r1 := r1.alloc (.cells #[.int .i64 N, .slice A3 m3 c3, .int .i64 N, .slice A4 m4 c4, .int .i64 N, .slice A5 m5 c5, .int .i64 N, .slice A6 m6 c6] 24)
  replace r3 := r3.alloc (.cells #[.int .i64 N, .slice A3 m3 c3, .int .i64 N, .slice A4 m4 c4, .int .i64 N, .slice A5 m5 c5, .int .i64 N, .slice A6 m6 c6] 24)
  replace r4 := r4.alloc (.cells #[.int .i64 N, .slice A3 m3 c3, .int .i64 N, .slice A4 m4 c4, .int .i64 N, .slice A5 m5 c5, .int .i64 N, .slice A6 m6 c6] 24)
  replace r5 := r5.alloc (.cells #[.int .i64 N, .slice A3 m3 c3, .int .i64 N, .slice A4 m4 c4, .int .i64 N, .slice A5 m5 c5, .int .i64 N, .slice A6 m6 c6] 24)
  replace r6 := r6.alloc (.cells #[.int .i64 N, .slice A3 m3 c3, .int .i64 N, .slice A4 m4 c4, .int .i64 N, .slice A5 m5 c5, .int .i64 N, .slice A6 m6 c6] 24)
  replace B10 := balloc B10 (.cells #[.int .i64 N, .slice A3 m3 c3, .int .i64 N, .slice A4 m4 c4, .int .i64 N, .slice A5 m5 c5, .int .i64 N, .slice A6 m6 c6] 24)
  generalize w10.alloc (.cells #[.int .i64 N, .slice A3 m3 c3, .int .i64 N, .slice A4 m4 c4, .int .i64 N, .slice A5 m5 c5, .int .i64 N, .slice A6 m6 c6] 24) = wL at *
  generalize w10.heap.size = pl at *
  have kS := Bk.new wL #[.int .i64 0, .int .i64 0, .int .i64 0, .int .i64 0] 57
  have BL := balloc (Below.refl wL.heap.size wL) (.cells #[.int .i64 0, .int .i64 0, .int .i64 0, .int .i64 0] 57)
  have hcnt := cmb_cnt N ws vs N (Nat.le_refl _)
  have u1 := cnt_upto (cmbW N ws vs 1) 0 N
  have u2 := cnt_upto (cmbW N ws vs 2) 0 N
  have u3 := cnt_upto (cmbW N ws vs 3) 0 N
  have u4 := cnt_upto (cmbW N vs ws 3) 0 N
  rw [Nat.zero_add] at u1 u2 u3 u4
  have H3 := Lib.hid (fun w h => Cnt_ok N (cmbW N ws vs 1) A3 m3 c3 w h (cmb_small _ _ _ _) (cmb_chk N ws vs 1 (by omega)))
  have H4 := Lib.hid (fun w h => Cnt_ok N (cmbW N ws vs 2) A4 m4 c4 w h (cmb_small _ _ _ _) (cmb_chk N ws vs 2 (by omega)))
  have H5 := Lib.hid (fun w h => Cnt_ok N (cmbW N ws vs 3) A5 m5 c5 w h (cmb_small _ _ _ _) (cmb_chk N ws vs 3 (by omega)))
  have H6 := Lib.hid (fun w h => Cnt_ok N (cmbW N vs ws 3) A6 m6 c6 w h (cmb_small _ _ _ _) (cmb_chk N vs ws 3 (by omega)))
  generalize cnt (cmbW N ws vs 1) 0 N = x1 at *
  generalize cnt (cmbW N ws vs 2) 0 N = x2 at *
  generalize cnt (cmbW N ws vs 3) 0 N = x3 at *
  generalize cnt (cmbW N vs ws 3) 0 N = x4 at *
  generalize cmbW N ws vs 1 = W1 at *
  generalize cmbW N ws vs 2 = W2 at *
  generalize cmbW N ws vs 3 = W3 at *
  generalize cmbW N vs ws 3 = W4 at *
  generalize w2.heap.size = pa at *
  have eS : ((x1 : Int) == (x2 : Int) + (x3 : Int) + (x4 : Int)) = true := by rw [beq_iff_eq]; omega
  have ES := Lib.hid eS
  clear eS hcnt
  go_wp2_with fail
  go_loopw [26] (SzR wL wL.heap.size x1 x2 x3 x4) (fun i _ => 4 - (intOf i).toNat)
  case atStart => exact ⟨0, by omega, rfl, kS, BL⟩
  case round =>
    clear kS BL
    obtain ⟨k, hk, rfl, kS, hB⟩ := hrel
    have kLr := kL.to hB
    have kAr := kA.to hB
    have hcase : k = 0 ∨ k = 1 ∨ k = 2 ∨ k = 3 ∨ k = 4 := by omega
    rcases hcase with rfl | rfl | rfl | rfl | rfl
    · replace kS : Bk wr wL.heap.size #[.int .i64 0, .int .i64 0, .int .i64 0, .int .i64 0] 57 := kS
      have c0 : wr.cell? ⟨pl, 0, none⟩ = some (.int .i64 N) := kLr.cell 0
      have c1' : wr.cell? ⟨pl, 1, none⟩ = some (.slice A3 m3 c3) := kLr.cell 1
      have c2' : wr.cell? ⟨pa, 0, none⟩ = some (.int .i64 N) := kAr.cell 0
      have rr := r3.below hB (Nat.le_refl _)
      go_wp2_with fail
      go_cut [27, 28] (fun sm so wx => sm = .int .i64 x1 ∧ so = .int .i64 0 ∧ Below wr.heap.size wr wx)
      case first =>
        go_region_held3 (fun w' => w'.cell? ⟨pl, 0, none⟩ = some (.int .i64 N) ∧ w'.cell? ⟨pl, 1, none⟩ = some (.slice A3 m3 c3) ∧ w'.cell? ⟨pa, 0, none⟩ = some (.int .i64 N))
          (refine ⟨?_, ?_, ?_⟩ <;> (repeat (with_reducible first | exact c0 | exact c1' | exact c2' | refine scell_drew ?_ | refine scell_later hbC ?_)))
          (first | (go_at_call 25; refine (H3.out _ (by repeat (with_reducible first | exact rr | refine Rd.drew ?_))).mono ?_; rintro e wC ⟨rfl, hbC⟩))
        all_goals
          go_wp2_with fail
          go_meet
          exact ⟨rfl, rfl, by repeat (with_reducible first | exact Below.refl _ _ | refine bnext ?_ hbC | refine below_drew ?_)⟩
      case rest =>
        obtain ⟨rfl, rfl, hbx⟩ := hcut
        have kSx := kS.to hbx
        have hBx := hB.trans (hbx.mono hB.size)
        clear kS kLr kAr c0 c1' c2' rr hB hbx
        obtain ⟨cS, fS, lS⟩ := kSx.facts
        go_wp2_with fail
        go_roundw
        case rel => exact ⟨1, by omega, by go_num, kSx.put 0 (.int .i64 x1), hBx.setCell (p := ⟨wL.heap.size, 0, none⟩) (Nat.le_refl _) _⟩
        case measure => simp [intOf]
    · replace kS : Bk wr wL.heap.size #[.int .i64 x1, .int .i64 0, .int .i64 0, .int .i64 0] 57 := kS
      have c0 : wr.cell? ⟨pl, 2, none⟩ = some (.int .i64 N) := kLr.cell 2
      have c1' : wr.cell? ⟨pl, 3, none⟩ = some (.slice A4 m4 c4) := kLr.cell 3
      have c2' : wr.cell? ⟨pa, 0, none⟩ = some (.int .i64 N) := kAr.cell 0
      have rr := r4.below hB (Nat.le_refl _)
      go_wp2_with fail
      go_cut [27, 28] (fun sm so wx => sm = .int .i64 x2 ∧ so = .int .i64 0 ∧ Below wr.heap.size wr wx)
      case first =>
        go_region_held3 (fun w' => w'.cell? ⟨pl, 2, none⟩ = some (.int .i64 N) ∧ w'.cell? ⟨pl, 3, none⟩ = some (.slice A4 m4 c4) ∧ w'.cell? ⟨pa, 0, none⟩ = some (.int .i64 N))
          (refine ⟨?_, ?_, ?_⟩ <;> (repeat (with_reducible first | exact c0 | exact c1' | exact c2' | refine scell_drew ?_ | refine scell_later hbC ?_)))
          (first | (go_at_call 25; refine (H4.out _ (by repeat (with_reducible first | exact rr | refine Rd.drew ?_))).mono ?_; rintro e wC ⟨rfl, hbC⟩))
        all_goals
          go_wp2_with fail
          go_meet
          exact ⟨rfl, rfl, by repeat (with_reducible first | exact Below.refl _ _ | refine bnext ?_ hbC | refine below_drew ?_)⟩
      case rest =>
        obtain ⟨rfl, rfl, hbx⟩ := hcut
        have kSx := kS.to hbx
        have hBx := hB.trans (hbx.mono hB.size)
        clear kS kLr kAr c0 c1' c2' rr hB hbx
        obtain ⟨cS, fS, lS⟩ := kSx.facts
        go_wp2_with fail
        go_roundw
        case rel => exact ⟨2, by omega, by go_num, kSx.put 1 (.int .i64 x2), hBx.setCell (p := ⟨wL.heap.size, 1, none⟩) (Nat.le_refl _) _⟩
        case measure => simp [intOf]
    · replace kS : Bk wr wL.heap.size #[.int .i64 x1, .int .i64 x2, .int .i64 0, .int .i64 0] 57 := kS
      have c0 : wr.cell? ⟨pl, 4, none⟩ = some (.int .i64 N) := kLr.cell 4
      have c1' : wr.cell? ⟨pl, 5, none⟩ = some (.slice A5 m5 c5) := kLr.cell 5
      have c2' : wr.cell? ⟨pa, 0, none⟩ = some (.int .i64 N) := kAr.cell 0
      have rr := r5.below hB (Nat.le_refl _)
      go_wp2_with fail
      go_cut [27, 28] (fun sm so wx => sm = .int .i64 x3 ∧ so = .int .i64 0 ∧ Below wr.heap.size wr wx)
      case first =>
        go_region_held3 (fun w' => w'.cell? ⟨pl, 4, none⟩ = some (.int .i64 N) ∧ w'.cell? ⟨pl, 5, none⟩ = some (.slice A5 m5 c5) ∧ w'.cell? ⟨pa, 0, none⟩ = some (.int .i64 N))
          (refine ⟨?_, ?_, ?_⟩ <;> (repeat (with_reducible first | exact c0 | exact c1' | exact c2' | refine scell_drew ?_ | refine scell_later hbC ?_)))
          (first | (go_at_call 25; refine (H5.out _ (by repeat (with_reducible first | exact rr | refine Rd.drew ?_))).mono ?_; rintro e wC ⟨rfl, hbC⟩))
        all_goals
          go_wp2_with fail
          go_meet
          exact ⟨rfl, rfl, by repeat (with_reducible first | exact Below.refl _ _ | refine bnext ?_ hbC | refine below_drew ?_)⟩
      case rest =>
        obtain ⟨rfl, rfl, hbx⟩ := hcut
        have kSx := kS.to hbx
        have hBx := hB.trans (hbx.mono hB.size)
        clear kS kLr kAr c0 c1' c2' rr hB hbx
        obtain ⟨cS, fS, lS⟩ := kSx.facts
        go_wp2_with fail
        go_roundw
        case rel => exact ⟨3, by omega, by go_num, kSx.put 2 (.int .i64 x3), hBx.setCell (p := ⟨wL.heap.size, 2, none⟩) (Nat.le_refl _) _⟩
        case measure => simp [intOf]
    · replace kS : Bk wr wL.heap.size #[.int .i64 x1, .int .i64 x2, .int .i64 x3, .int .i64 0] 57 := kS
      have c0 : wr.cell? ⟨pl, 6, none⟩ = some (.int .i64 N) := kLr.cell 6
      have c1' : wr.cell? ⟨pl, 7, none⟩ = some (.slice A6 m6 c6) := kLr.cell 7
      have c2' : wr.cell? ⟨pa, 0, none⟩ = some (.int .i64 N) := kAr.cell 0
      have rr := r6.below hB (Nat.le_refl _)
      go_wp2_with fail
      go_cut [27, 28] (fun sm so wx => sm = .int .i64 x4 ∧ so = .int .i64 0 ∧ Below wr.heap.size wr wx)
      case first =>
        go_region_held3 (fun w' => w'.cell? ⟨pl, 6, none⟩ = some (.int .i64 N) ∧ w'.cell? ⟨pl, 7, none⟩ = some (.slice A6 m6 c6) ∧ w'.cell? ⟨pa, 0, none⟩ = some (.int .i64 N))
          (refine ⟨?_, ?_, ?_⟩ <;> (repeat (with_reducible first | exact c0 | exact c1' | exact c2' | refine scell_drew ?_ | refine scell_later hbC ?_)))
          (first | (go_at_call 25; refine (H6.out _ (by repeat (with_reducible first | exact rr | refine Rd.drew ?_))).mono ?_; rintro e wC ⟨rfl, hbC⟩))
        all_goals
          go_wp2_with fail
          go_meet
          exact ⟨rfl, rfl, by repeat (with_reducible first | exact Below.refl _ _ | refine bnext ?_ hbC | refine below_drew ?_)⟩
      case rest =>
        obtain ⟨rfl, rfl, hbx⟩ := hcut
        have kSx := kS.to hbx
        have hBx := hB.trans (hbx.mono hB.size)
        clear kS kLr kAr c0 c1' c2' rr hB hbx
        obtain ⟨cS, fS, lS⟩ := kSx.facts
        go_wp2_with fail
        go_roundw
        case rel => exact ⟨4, by omega, by go_num, kSx.put 3 (.int .i64 x4), hBx.setCell (p := ⟨wL.heap.size, 3, none⟩) (Nat.le_refl _) _⟩
        case measure => simp [intOf]
    · replace kS : Bk wr wL.heap.size #[.int .i64 x1, .int .i64 x2, .int .i64 x3, .int .i64 x4] 57 := kS
      have BW := bnext B10 hB
      have ra := r1.below hB (Nat.le_refl _)
      have hm1 : m1 ≤ 1000000 := by have := ra.1; rw [uw_len] at this; have := chk_len hE; omega
      obtain ⟨ht1, ht2⟩ := text_back N ws hN3 hE hs
      have htl := textB_le N ws hN3 hE
      have HTx := Lib.hid (fun w h hp => Text_any N A1 m1 c1 ws w h hs hm1 hp)
      obtain ⟨⟨T, te⟩, hTT⟩ : ∃ x, textB N ws = x := ⟨_, rfl⟩
      rw [hTT] at ht1 ht2 htl HTx
      simp only at ht1 ht2 htl HTx
      subst ht1
      have HPa := Lib.hid (fun w hc => Parse_any T w (by omega) hc)
      rw [ht2] at HPa
      unfold BitsRes at HPa
      simp only at HPa
      clear hTT ht2 H3 H4 H5 H6 r3 r4 r5 r6 kLr kL
      obtain ⟨cA, fA, lA⟩ := kAr.facts
      go_wp2_with fail
      go_at_call 31
      refine (HTx.out _ ra (HP.out.below BW)).mono ?_
      rintro e wT ⟨rfl, hbT⟩
      clear cA fA lA
      have BT := bnext BW hbT
      replace ra := ra.below hbT (Nat.le_refl _)
      replace kAr := kAr.to hbT
      replace kS := kS.to hbT
      go_wp2_with fail
      go_at_call 33
      refine (HPa.out _ (HC.out.below BT)).mono ?_
      rintro e wP ⟨A9, m9, c9, rfl, hown9, hbP⟩
      have r9 := (Rd.own hown9).alloc (.cells #[.int .i64 N, .slice A9 m9 c9] 24)
      have BP := balloc (bnext BT hbP) (.cells #[.int .i64 N, .slice A9 m9 c9] 24)
      replace ra := (ra.below hbP (Nat.le_refl _)).alloc (.cells #[.int .i64 N, .slice A9 m9 c9] 24)
      replace kAr := (kAr.to hbP).alloc (.cells #[.int .i64 N, .slice A9 m9 c9] 24)
      replace kS := (kS.to hbP).alloc (.cells #[.int .i64 N, .slice A9 m9 c9] 24)
      have k9 := Bk.new wP #[.int .i64 N, .slice A9 m9 c9] 24
      have hm9 : m9 = m1 := by have h1 := r9.1; have h2 := ra.1; omega
      subst hm9
      obtain ⟨cA, fA, lA⟩ := kAr.facts
      obtain ⟨cS, fS, lS⟩ := kS.facts
      have es := ES.out
      go_wp2_with fail
      go_at_call 18
      refine (SameBits_eq N A9 A1 m9 c9 c1 ws _ r9 ra hs hm1).mono ?_
      rintro e wE ⟨rfl, hbE⟩
      clear cA fA lA cS fS lS
      go_wp2_with fail
      go_ret
      exact ⟨rfl, bnext BP hbE⟩
end Go.Proofs.YtihbdndigfnhkaaDoor
