/- BitmapPut returns true for all numbers. -/
import Derived.Test.YtihbdndigfnhkaaDoorBitF
namespace Go.Proofs.YtihbdndigfnhkaaDoor
open Go Go.Proofs Go.RowKit
set_option linter.unusedSimpArgs false
set_option linter.unusedVariables false
set_option maxRecDepth 100000

def PtR (w3 : World) (N : Nat) (i : Value) (wr : World) : Prop := ∃ k : Nat, k ≤ N ∧ i = .int .i64 k ∧ Below w3.heap.size w3 wr
theorem mod_nat (x : Int) (M : Nat) : ∃ a : Nat, x % ((M : Int) + 1) = a ∧ a ≤ M := by
  have h1 := Int.emod_nonneg x (show ((M : Int) + 1) ≠ 0 by omega)
  have h2 := Int.emod_lt_of_pos x (show (0 : Int) < (M : Int) + 1 by omega)
  exact ⟨(x % ((M : Int) + 1)).toNat, by omega, by omega⟩
theorem count_ok (N : Nat) (ws : List Nat) (a b : Nat) (hE : chkE N ws = 0) (hab : a ≤ b) (hb : b ≤ N) : countR N ws a b = ((cnt ws a b : Int), 0) := by
  unfold countR
  rw [if_neg (by simp [hE]), if_neg (by omega)]
  simp
theorem has_ok (N : Nat) (ws : List Nat) (k : Nat) (hE : chkE N ws = 0) (hk : k < N) : hasR N ws k = (wbit ws k, 0) := by
  unfold hasR
  rw [if_neg (by simp [hE]), if_neg (by omega), Int.toNat_natCast]

set_option maxHeartbeats 2000000 in
theorem BitmapPut_true (n : Int) (nums : List Int) (fr mo : Int) (A : Option Addr) (c : Nat) (w : World) (hr : Rd w 1 A nums.length (nums.map (Value.int .i64))) (hl : nums.length ≤ 9223372036854775807) (hT : TabOK w) (hC : CutOK w) (hP : PowOK w) :
    Calls Tryd.prog 10 #[.int .i64 n, .slice A nums.length c, .int .i64 fr, .int .i64 mo] w fun e w' => e = .returned (.bool true) ∧ Below w.heap.size w w' := by
  go_enter Tryd.func10, Tryd.ntmps10
  go_wp2_with fail
  refine (BitmapKnown_true _ hT hC hP).mono ?_
  rintro e w1 ⟨rfl, hb1⟩
  go_wp2_with fail
  refine (made_any n nums A c _ (hr.below hb1 (Nat.le_refl _)) hl).mono ?_
  rintro e w2 ⟨N, ws, A2, m, c2, hN, rfl, hE, hs, hown, hb2⟩
  have hml := chk_len hE
  have hm : m ≤ 1000000 := by have := hown.1; rw [uw_len] at this; omega
  obtain ⟨a, ha, ha2⟩ := mod_nat fr N
  have HM1 := Lib.hid (fun W => Mod_any fr ((N : Int) + 1) W (by omega) (by omega))
  rw [ha] at HM1
  obtain ⟨t, ht, ht2⟩ := mod_nat mo (N - a)
  have HM2 := Lib.hid (fun W => Mod_any mo ((N : Int) - (a : Int) + 1) W (by omega) (by omega))
  rw [show ((N : Int) - (a : Int) + 1) = ((N - a : Nat) : Int) + 1 by omega, ht] at HM2
  rw [show ((N - a : Nat) : Int) + 1 = ((N : Int) - (a : Int) + 1) by omega] at HM2
  obtain ⟨vs, hvs⟩ : ∃ vs, vs = wordsOf ((N + 63) / 64) (putF ws N a (a + t) true) := ⟨_, rfl⟩
  obtain ⟨f1, f2, f3⟩ := put_facts N ws a (a + t) hE (by omega) (by omega) vs hvs
  have hEv : chkE N vs = 0 := by rw [hvs]; exact put_chk N ws a (a + t) true (by omega)
  have hsv : wsmall vs := by rw [hvs]; exact wordsOf_small _ _
  have HP1 : Hid (putR N ws a ((a : Int) + (t : Int)) true = ((N : Int), vs, 0)) := Lib.hid (by rw [hvs]; exact put_ok2 N ws a t true hE (by omega))
  have HC1 : Hid (countR N ws 0 a = ((cnt ws 0 a : Int), 0)) := Lib.hid (count_ok N ws 0 a hE (by omega) (by omega))
  have HC2 : Hid (countR N ws ((a : Int) + (t : Int)) N = ((cnt ws (a + t) N : Int), 0)) := Lib.hid (by have := count_ok N ws (a + t) N hE (by omega) (by omega); rwa [Int.natCast_add] at this)
  have HC3 : Hid (countR N vs 0 N = ((cnt ws 0 a : Int) + (t : Int) + (cnt ws (a + t) N : Int), 0)) := Lib.hid (by have := count_ok N vs 0 N hEv (by omega) (by omega); rw [f3] at this; rw [show ((a + t - a : Nat)) = t by omega] at this; rw [Int.natCast_add, Int.natCast_add] at this; exact this)
  have HC4 : Hid (countR N vs a ((a : Int) + (t : Int)) = ((t : Int), 0)) := Lib.hid (by have := count_ok N vs a (a + t) hEv (by omega) (by omega); rw [f2, show a + t - a = t by omega] at this; rwa [Int.natCast_add] at this)
  have hcn1 := cnt_le ws 0 a
  have hcn2 := cnt_le ws (a + t) N
  have HF := Lib.hid f1
  have HH1 := Lib.hid (fun k => has_ok N ws k hE)
  have HH2 := Lib.hid (fun k => has_ok N vs k hEv)
  clear ha ht f1 f2 f3 hvs
  generalize cnt ws 0 a = C1 at *
  generalize cnt ws (a + t) N = C2 at *
  have hr2 := (Rd.own hown).alloc (.cells #[.int .i64 N, .slice A2 m c2] 24)
  have kB := Bk.new w2 #[.int .i64 N, .slice A2 m c2] 24
  have hB := balloc (bnext hb1 hb2) (.cells #[.int .i64 N, .slice A2 m c2] 24)
  clear hown hml
  go_wp2_with fail
  refine (HM1.out _).mono ?_
  rintro e w' ⟨rfl, rfl⟩
  go_wp2_with fail
  refine (HM2.out _).mono ?_
  rintro e w' ⟨rfl, rfl⟩
  go_wp2_with fail
  obtain ⟨B, hBn, hBI, hBS⟩ : ∃ B : Nat, B = a + t ∧ (a : Int) + (t : Int) = (B : Int) ∧ (B : Int) - (a : Int) = (t : Int) := ⟨a + t, rfl, by omega, by omega⟩
  rw [hBI] at HP1 HC2 HC4 ⊢
  rw [← hBn] at HF
  have hBN : B ≤ N := by omega
  have haB : a ≤ B := by omega
  have ht3 : t ≤ 300 := by omega
  clear hBn hBI ht2
  refine (Put_any N A2 m c2 ws a B true _ hr2 hs hm).mono ?_
  rintro e w3 ⟨A3, m3, c3, he, hown3, hb3⟩
  rw [HP1.out] at he hown3
  subst he
  have hm3 : m3 ≤ 1000000 := by have h1 := hown3.1; have h2 := chk_len hEv; rw [uw_len] at h1; simp only at h1; omega
  replace hr2 := hr2.below hb3 (Nat.le_refl _)
  replace kB := kB.to hb3
  replace hB := bnext hB hb3
  have hr3 := (Rd.own hown3).alloc (.cells #[.int .i64 N, .slice A3 m3 c3] 24)
  replace hr2 := hr2.alloc (.cells #[.int .i64 N, .slice A3 m3 c3] 24)
  have kC := Bk.new w3 #[.int .i64 N, .slice A3 m3 c3] 24
  replace kB := kB.alloc (.cells #[.int .i64 N, .slice A3 m3 c3] 24)
  replace hB := balloc hB (.cells #[.int .i64 N, .slice A3 m3 c3] 24)
  simp only at hr3
  clear hown3
  obtain ⟨cB, fB, lB⟩ := kB.facts
  go_wp2_with fail
  generalize w3.alloc (.cells #[.int .i64 N, .slice A3 m3 c3] 24) = wA at *
  clear hb1 hb2 hb3 hT hC hP
  refine (Count_any N A2 m c2 ws 0 a _ hr2 hs hm).mono ?_
  rw [HC1.out]
  rintro e w4 ⟨rfl, hb4⟩
  clear cB fB lB
  replace hr2 := hr2.below hb4 (Nat.le_refl _)
  replace hr3 := hr3.below hb4 (Nat.le_refl _)
  replace kB := kB.to hb4
  replace kC := kC.to hb4
  replace hB := bnext hB hb4
  obtain ⟨cB, fB, lB⟩ := kB.facts
  go_wp2_with fail
  refine (Count_any N A2 m c2 ws B N _ hr2 hs hm).mono ?_
  rw [HC2.out]
  rintro e w5 ⟨rfl, hb5⟩
  clear cB fB lB
  replace hr2 := hr2.below hb5 (Nat.le_refl _)
  replace hr3 := hr3.below hb5 (Nat.le_refl _)
  replace kB := kB.to hb5
  replace kC := kC.to hb5
  replace hB := bnext hB hb5
  obtain ⟨cB, fB, lB⟩ := kB.facts
  obtain ⟨cC, fC, lC⟩ := kC.facts
  go_wp2_with fail
  refine (Count_any N A3 m3 c3 vs 0 N _ hr3 hsv hm3).mono ?_
  rw [HC3.out]
  rintro e w6 ⟨rfl, hb6⟩
  clear cB fB lB cC fC lC
  replace hr2 := hr2.below hb6 (Nat.le_refl _)
  replace hr3 := hr3.below hb6 (Nat.le_refl _)
  replace kB := kB.to hb6
  replace kC := kC.to hb6
  replace hB := bnext hB hb6
  obtain ⟨cC, fC, lC⟩ := kC.facts
  go_wp2_with fail
  refine (Count_any N A3 m3 c3 vs a B _ hr3 hsv hm3).mono ?_
  rw [HC4.out]
  rintro e w7 ⟨rfl, hb7⟩
  clear cC fC lC
  replace hr2 := hr2.below hb7 (Nat.le_refl _)
  replace hr3 := hr3.below hb7 (Nat.le_refl _)
  replace kB := kB.to hb7
  replace kC := kC.to hb7
  replace hB := bnext hB hb7
  clear hb4 hb5 hb6 hb7 HC1 HC2 HC3 HC4
  have hC1 : C1 ≤ 300 := by omega
  have hC2 : C2 ≤ 300 := by omega
  clear hcn1 hcn2
  go_wp2_with fail
  go_loopw [23] (PtR w7 N) (fun i _ => N - (intOf i).toNat)
  case atStart => exact ⟨0, by omega, rfl, Below.refl _ _⟩
  case round =>
    obtain ⟨k, hk, rfl, hBx⟩ := hrel
    have kBr := kB.to hBx
    have kCr := kC.to hBx
    have hrr2 := hr2.below hBx (Nat.le_refl _)
    have hrr3 := hr3.below hBx (Nat.le_refl _)
    obtain ⟨cB, fB, lB⟩ := kBr.facts
    by_cases hlt : k < N
    · have hbk := HF.out k hlt
      have HA := Lib.hid (HH1.out k hlt)
      have HC := Lib.hid (HH2.out k hlt)
      rw [hbk] at HC
      clear hbk
      generalize wbit ws k = x at *
      have hltI : (k : Int) < (N : Int) := by omega
      have hcs : (x = true) ∨ (x = false ∧ a ≤ k ∧ k < B) ∨ (x = false ∧ ¬ a ≤ k) ∨ (x = false ∧ a ≤ k ∧ ¬ k < B) := by
        cases x
        · by_cases h1 : a ≤ k
          · by_cases h2 : k < B
            · exact .inr (.inl ⟨rfl, h1, h2⟩)
            · exact .inr (.inr (.inr ⟨rfl, h1, h2⟩))
          · exact .inr (.inr (.inl ⟨rfl, h1⟩))
        · exact .inl rfl
      rcases hcs with rfl | ⟨rfl, h1, h2⟩ | ⟨rfl, h1⟩ | ⟨rfl, h1, h2⟩
      · rw [Bool.true_or] at HC
        try simp only [Bool.true_or, Bool.or_true, Bool.false_or, Bool.and_true, Bool.and_false, Bool.false_and, Bool.true_and] at HC
        go_wp2_with (first
          | (go_at_call 23; refine (Has_any N A3 m3 c3 vs k _ (hrr3.below hb8 (Nat.le_refl _)) hsv hm3).mono ?_; rw [HC.out]; rintro e w9 ⟨rfl, hb9⟩; clear cC fC lC)
          | (go_at_call 23; refine (Has_any N A2 m c2 ws k _ hrr2 hs hm).mono ?_; rw [HA.out]; rintro e w8 ⟨rfl, hb8⟩; clear cB fB lB; obtain ⟨cC, fC, lC⟩ := (kCr.to hb8).facts))
        go_roundw
        case rel => first | exact ⟨k + 1, by omega, by go_num, bnext (bnext hBx hb8) hb9⟩ | ((repeat apply Exists.intro); exact ⟨⟨k + 1, by omega, by go_num, bnext (bnext hBx hb8) hb9⟩, rfl⟩)
        case measure => simp [intOf]; omega
      · rw [decide_eq_true h1, decide_eq_true h2] at HC
        have h3 : (a : Int) ≤ (k : Int) := by omega
        have h4 : (k : Int) < (B : Int) := by omega
        clear h1 h2
        try simp only [Bool.true_or, Bool.or_true, Bool.false_or, Bool.and_true, Bool.and_false, Bool.false_and, Bool.true_and] at HC
        go_wp2_with (first
          | (go_at_call 23; refine (Has_any N A3 m3 c3 vs k _ (hrr3.below hb8 (Nat.le_refl _)) hsv hm3).mono ?_; rw [HC.out]; rintro e w9 ⟨rfl, hb9⟩; clear cC fC lC)
          | (go_at_call 23; refine (Has_any N A2 m c2 ws k _ hrr2 hs hm).mono ?_; rw [HA.out]; rintro e w8 ⟨rfl, hb8⟩; clear cB fB lB; obtain ⟨cC, fC, lC⟩ := (kCr.to hb8).facts))
        go_roundw
        case rel => first | exact ⟨k + 1, by omega, by go_num, bnext (bnext hBx hb8) hb9⟩ | ((repeat apply Exists.intro); exact ⟨⟨k + 1, by omega, by go_num, bnext (bnext hBx hb8) hb9⟩, rfl⟩)
        case measure => simp [intOf]; omega
      · rw [decide_eq_false h1] at HC
        have h3 : ¬ (a : Int) ≤ (k : Int) := by omega
        clear h1
        try simp only [Bool.true_or, Bool.or_true, Bool.false_or, Bool.and_true, Bool.and_false, Bool.false_and, Bool.true_and] at HC
        go_wp2_with (first
          | (go_at_call 23; refine (Has_any N A3 m3 c3 vs k _ (hrr3.below hb8 (Nat.le_refl _)) hsv hm3).mono ?_; rw [HC.out]; rintro e w9 ⟨rfl, hb9⟩; clear cC fC lC)
          | (go_at_call 23; refine (Has_any N A2 m c2 ws k _ hrr2 hs hm).mono ?_; rw [HA.out]; rintro e w8 ⟨rfl, hb8⟩; clear cB fB lB; obtain ⟨cC, fC, lC⟩ := (kCr.to hb8).facts))
        go_roundw
        case rel => first | exact ⟨k + 1, by omega, by go_num, bnext (bnext hBx hb8) hb9⟩ | ((repeat apply Exists.intro); exact ⟨⟨k + 1, by omega, by go_num, bnext (bnext hBx hb8) hb9⟩, rfl⟩)
        case measure => simp [intOf]; omega
      · rw [decide_eq_true h1, decide_eq_false h2] at HC
        have h3 : (a : Int) ≤ (k : Int) := by omega
        have h4 : ¬ (k : Int) < (B : Int) := by omega
        clear h1 h2
        try simp only [Bool.true_or, Bool.or_true, Bool.false_or, Bool.and_true, Bool.and_false, Bool.false_and, Bool.true_and] at HC
        go_wp2_with (first
          | (go_at_call 23; refine (Has_any N A3 m3 c3 vs k _ (hrr3.below hb8 (Nat.le_refl _)) hsv hm3).mono ?_; rw [HC.out]; rintro e w9 ⟨rfl, hb9⟩; clear cC fC lC)
          | (go_at_call 23; refine (Has_any N A2 m c2 ws k _ hrr2 hs hm).mono ?_; rw [HA.out]; rintro e w8 ⟨rfl, hb8⟩; clear cB fB lB; obtain ⟨cC, fC, lC⟩ := (kCr.to hb8).facts))
        go_roundw
        case rel => first | exact ⟨k + 1, by omega, by go_num, bnext (bnext hBx hb8) hb9⟩ | ((repeat apply Exists.intro); exact ⟨⟨k + 1, by omega, by go_num, bnext (bnext hBx hb8) hb9⟩, rfl⟩)
        case measure => simp [intOf]; omega
    · obtain rfl : k = N := by omega
      go_wp2_with fail
      go_ret
      exact ⟨rfl, bnext hB hBx⟩
end Go.Proofs.YtihbdndigfnhkaaDoor
