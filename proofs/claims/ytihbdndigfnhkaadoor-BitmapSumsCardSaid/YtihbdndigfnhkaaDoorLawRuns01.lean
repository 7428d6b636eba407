/- BitmapRuns returns true for all numbers. -/
import Derived.Test.YtihbdndigfnhkaaDoorLawPut01
namespace Go.Proofs.YtihbdndigfnhkaaDoor
open Go Go.Proofs Go.RowKit
set_option linter.unusedSimpArgs false
set_option linter.unusedVariables false
set_option maxRecDepth 100000

def RnR (w3 : World) (al : Nat) (i : Value) (wr : World) : Prop := ∃ j : Nat, i = .int .i64 ((j * al : Nat) : Int) ∧ j * al ≤ 400 ∧ Below w3.heap.size w3 wr

set_option maxHeartbeats 2000000 in
theorem BitmapRuns_true (n : Int) (nums : List Int) (le al0 : Int) (A : Option Addr) (c : Nat) (w : World) (hr : Rd w 1 A nums.length (nums.map (Value.int .i64))) (hl : nums.length ≤ 9223372036854775807) (hT : TabOK w) (hC : CutOK w) (hP : PowOK w) :
    Calls Tryd.prog 8 #[.int .i64 n, .slice A nums.length c, .int .i64 le, .int .i64 al0] w fun e w' => e = .returned (.bool true) ∧ Below w.heap.size w w' := by
  obtain ⟨m1, hm1, hm1'⟩ := mod_nat le 19
  obtain ⟨m2, hm2, hm2'⟩ := mod_nat al0 15
  have HM1 := Lib.hid (fun W => Mod_any le 20 W (by omega) (by omega))
  have HM2 := Lib.hid (fun W => Mod_any al0 16 W (by omega) (by omega))
  rw [show le % 20 = (m1 : Int) by simpa using hm1] at HM1
  rw [show al0 % 16 = (m2 : Int) by simpa using hm2] at HM2
  clear hm1 hm2
  go_enter Tryd.func8, Tryd.ntmps8
  go_wp2_with fail
  refine (BitmapKnown_true _ hT hC hP).mono ?_
  rintro e w1 ⟨rfl, hb1⟩
  go_wp2_with fail
  refine (made_any n nums A c _ (hr.below hb1 (Nat.le_refl _)) hl).mono ?_
  rintro e w2 ⟨N, ws, A2, m, c2, hN, rfl, hE, hs, hown, hb2⟩
  have hml := chk_len hE
  have hm : m ≤ 1000000 := by have := hown.1; rw [uw_len] at this; omega
  have hr2 := (Rd.own hown).alloc (.cells #[.int .i64 N, .slice A2 m c2] 24)
  have kB := Bk.new w2 #[.int .i64 N, .slice A2 m c2] 24
  have hB := balloc (bnext hb1 hb2) (.cells #[.int .i64 N, .slice A2 m c2] 24)
  clear hown hml
  go_wp2_with fail
  refine (HM1.out _).mono ?_
  rintro e w' ⟨rfl, rfl⟩
  go_wp2_with fail
  refine (HM2.out _).mono ?_
  rintro e w' ⟨rfl, rfl⟩
  go_wp2_with fail
  obtain ⟨L, hL⟩ : ∃ L : Nat, (1 : Int) + (m1 : Int) = (L : Int) := ⟨1 + m1, by omega⟩
  obtain ⟨G, hG⟩ : ∃ G : Nat, (1 : Int) + (m2 : Int) = (G : Int) := ⟨1 + m2, by omega⟩
  rw [hL, hG]
  have hL1 : 1 ≤ L := by omega
  have hL2 : L ≤ 20 := by omega
  have hG1 : 1 ≤ G := by omega
  have hG2 : G ≤ 16 := by omega
  clear hL hG hm1' hm2' HM1 HM2
  generalize w2.alloc (.cells #[.int .i64 N, .slice A2 m c2] 24) = wA at *
  refine (Run_any N A2 m c2 ws L G true _ hr2 hs hm).mono ?_
  have HCN : Hid (∀ a, a + L ≤ N → okB ws true L a = false → ∃ M : Nat, countR N ws a ((a : Int) + (L : Int)) = ((M : Int), 0) ∧ M ≤ 300 ∧ ((M : Int) == (L : Int)) = false) := Lib.hid (fun a h1 h2 => ⟨cnt ws a (a + L), by have := count_ok N ws a (a + L) hE (by omega) h1; rwa [Int.natCast_add] at this, by have := cnt_upto ws a L; omega, by have := cnt_norun ws a L h2; simp; omega⟩)
  have HCY : Hid (∀ a, a + L ≤ N → okB ws true L a = true → countR N ws a ((a : Int) + (L : Int)) = ((L : Int), 0)) := Lib.hid (fun a h1 h2 => by have := count_ok N ws a (a + L) hE (by omega) h1; rw [cnt_run ws a L h2] at this; rwa [Int.natCast_add] at this)
  rcases run_case N ws L G hE hL1 (by omega) hG1 (by omega) with ⟨hR, hno⟩ | ⟨q, hR, hq1, hq2, hno⟩
  · have HR := Lib.hid hR
    have Hno := Lib.hid hno
    clear hR hno
    rw [HR.out]
    rintro e w3 ⟨rfl, hb3⟩
    replace hr2 := hr2.below hb3 (Nat.le_refl _)
    replace kB := kB.to hb3
    replace hB := bnext hB hb3
    clear hb1 hb2 hb3 hT hC hP
    obtain ⟨cB, fB, lB⟩ := kB.facts
    go_wp2_with fail
    clear cB fB lB
    go_loopw [14] (RnR w3 G) (fun i _ => 500 - (intOf i).toNat)
    case atStart => exact ⟨0, by simp, by omega, Below.refl _ _⟩
    case round =>
      obtain ⟨j, rfl, hj, hBx⟩ := hrel
      have kBr := kB.to hBx
      have hrr2 := hr2.below hBx (Nat.le_refl _)
      obtain ⟨cB, fB, lB⟩ := kBr.facts
      by_cases hlt : j * G + L ≤ N
      · obtain ⟨M, hM1, hM2, hM3⟩ := HCN.out _ hlt (Hno.out j hlt)
        have HM := Lib.hid hM1
        clear hM1
        have hjs : (j + 1) * G = j * G + G := Nat.succ_mul _ _
        generalize j * G = J at *
        have h1 : (J : Int) < (N : Int) := by omega
        have h2 : (J : Int) ≤ (N : Int) - (L : Int) := by omega
        go_wp2_with (go_at_call 25; refine (Count_any N A2 m c2 ws J ((J : Int) + (L : Int)) _ hrr2 hs hm).mono ?_; rw [HM.out]; rintro e w4 ⟨rfl, hb4⟩)
        go_roundw
        case rel => first | exact ⟨j + 1, by rw [hjs]; go_num, by omega, bnext hBx hb4⟩ | ((repeat apply Exists.intro); exact ⟨⟨j + 1, by rw [hjs]; go_num, by omega, bnext hBx hb4⟩, rfl⟩)
        case measure => simp [intOf]; omega
      · have h2 : ¬ ((j * G : Nat) : Int) ≤ (N : Int) - (L : Int) := by omega
        generalize j * G = J at *
        by_cases h1 : (J : Int) < (N : Int)
        all_goals
          go_wp2_with fail
          go_ret
          exact ⟨rfl, bnext hB hBx⟩
  · have HR := Lib.hid hR
    have Hno := Lib.hid hno
    have HY := Lib.hid (HCY.out _ hq1 hq2)
    have htm : ((q * G : Nat) : Int).tmod (G : Int) = 0 := by rw [Int.natCast_mul]; exact Int.mul_tmod_left _ _
    have hle : ((q * G : Nat) : Int) ≤ (N : Int) - (L : Int) := by omega
    have hqm : ∀ j, ¬ j < q → ¬ j * G < q * G := fun j hj => by have := Nat.mul_le_mul_right G (show q ≤ j by omega); omega
    have Hqm := Lib.hid hqm
    clear hR hno hq2 hqm
    rw [HR.out]
    obtain ⟨T, hT0⟩ : ∃ T, q * G = T := ⟨_, rfl⟩
    have HT := Lib.hid hT0
    rw [hT0] at htm hle HY hq1 ⊢
    clear hT0
    rintro e w3 ⟨rfl, hb3⟩
    replace hr2 := hr2.below hb3 (Nat.le_refl _)
    replace kB := kB.to hb3
    replace hB := bnext hB hb3
    clear hb1 hb2 hb3 hT hC hP
    obtain ⟨cB, fB, lB⟩ := kB.facts
    have hG0 : ¬ G = 0 := by omega
    go_wp2_with fail
    all_goals try (exfalso; omega)
    clear cB fB lB
    go_loopw [14] (RnR w3 G) (fun i _ => 500 - (intOf i).toNat)
    case atStart => exact ⟨0, by simp, by omega, Below.refl _ _⟩
    case round =>
      obtain ⟨j, rfl, hj, hBx⟩ := hrel
      have kBr := kB.to hBx
      have hrr2 := hr2.below hBx (Nat.le_refl _)
      obtain ⟨cB, fB, lB⟩ := kBr.facts
      have hjT := Hqm.out j
      rw [HT.out] at hjT
      by_cases hlt : j * G < T
      · have hjq : j < q := Classical.byContradiction (fun h => hjT h hlt)
        obtain ⟨M, hM1, hM2, hM3⟩ := HCN.out (j * G) (by omega) (Hno.out j hjq)
        have HM := Lib.hid hM1
        clear hM1 hjT
        have hjs : (j + 1) * G = j * G + G := Nat.succ_mul _ _
        generalize j * G = J at *
        have h1 : (J : Int) < (T : Int) := by omega
        have h2 : (J : Int) ≤ (N : Int) - (L : Int) := by omega
        go_wp2_with (go_at_call 25; refine (Count_any N A2 m c2 ws J ((J : Int) + (L : Int)) _ hrr2 hs hm).mono ?_; rw [HM.out]; rintro e w4 ⟨rfl, hb4⟩)
        go_roundw
        case rel => first | exact ⟨j + 1, by rw [hjs]; go_num, by omega, bnext hBx hb4⟩ | ((repeat apply Exists.intro); exact ⟨⟨j + 1, by rw [hjs]; go_num, by omega, bnext hBx hb4⟩, rfl⟩)
        case measure => simp [intOf]; omega
      · clear hjT
        have h2 : ¬ ((j * G : Nat) : Int) < (T : Int) := by omega
        generalize j * G = J at *
        go_wp2_with (go_at_call 25; refine (Count_any N A2 m c2 ws T ((T : Int) + (L : Int)) _ hrr2 hs hm).mono ?_; rw [HY.out]; rintro e w4 ⟨rfl, hb4⟩)
        go_ret
        exact ⟨rfl, bnext (bnext hB hBx) hb4⟩
end Go.Proofs.YtihbdndigfnhkaaDoor
