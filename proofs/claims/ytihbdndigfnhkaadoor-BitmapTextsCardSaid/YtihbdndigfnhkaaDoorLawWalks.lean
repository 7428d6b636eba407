/- BitmapWalks returns true for all numbers. -/
import Derived.Test.YtihbdndigfnhkaaDoorLawKnown01
namespace Go.Proofs.YtihbdndigfnhkaaDoor
open Go Go.Proofs Go.RowKit
set_option linter.unusedSimpArgs false
set_option linter.unusedVariables false
set_option maxRecDepth 100000

theorem nextF_is (ws : List Nat) (inn : Bool) : ∀ (f i q : Nat), nextF ws inn f i = some q → i ≤ q ∧ q < i + f ∧ wbit ws q = inn ∧ ∀ j, i ≤ j → j < q → wbit ws j ≠ inn
  | 0, i, q, h => by cases h
  | f + 1, i, q, h => by
    unfold nextF at h
    split at h
    · rename_i hw
      injection h with h
      subst h
      exact ⟨Nat.le_refl _, by omega, hw, fun j h1 h2 => by omega⟩
    · rename_i hw
      obtain ⟨h1, h2, h3, h4⟩ := nextF_is ws inn f (i + 1) q h
      refine ⟨by omega, by omega, h3, fun j h5 h6 => ?_⟩
      by_cases hj : j = i
      · rw [hj]; exact hw
      · exact h4 j (by omega) h6
theorem nextF_no (ws : List Nat) (inn : Bool) : ∀ (f i : Nat), nextF ws inn f i = none → ∀ j, i ≤ j → j < i + f → wbit ws j ≠ inn
  | 0, i, _ => fun j h1 h2 => by omega
  | f + 1, i, h => by
    unfold nextF at h
    split at h
    · cases h
    · rename_i hw
      intro j h1 h2
      by_cases hj : j = i
      · rw [hj]; exact hw
      · exact nextF_no ws inn f (i + 1) h j (by omega) (by omega)
theorem cnt_flat (ws : List Nat) (a : Nat) : ∀ b, a ≤ b → (∀ j, a ≤ j → j < b → wbit ws j ≠ true) → cnt ws 0 b = cnt ws 0 a
  | 0, h, _ => by rw [show a = 0 by omega]
  | b + 1, h, hj => by
    by_cases hab : a = b + 1
    · rw [hab]
    · rw [cnt_succ ws 0 b (by omega), if_neg (hj b (by omega) (by omega)), cnt_flat ws a b (by omega) (fun j h1 h2 => hj j h1 (by omega)), Nat.add_zero]
theorem cnt_mono (ws : List Nat) (a : Nat) : ∀ b, a ≤ b → cnt ws 0 a ≤ cnt ws 0 b
  | 0, h => by rw [show a = 0 by omega]; exact Nat.le_refl _
  | b + 1, h => by
    by_cases hab : a = b + 1
    · rw [hab]; exact Nat.le_refl _
    · have := cnt_mono ws a b (by omega)
      rw [cnt_succ ws 0 b (by omega)]
      omega
theorem next_case (N : Nat) (ws : List Nat) (a : Nat) (hE : chkE N ws = 0) (ha : a ≤ N) :
    (nextR N ws a true = (0, 6) ∧ cnt ws 0 a = cnt ws 0 N) ∨ ∃ q : Nat, nextR N ws a true = ((q : Int), 0) ∧ a ≤ q ∧ q < N ∧ hasR N ws q = (true, 0) ∧ cnt ws 0 (q + 1) = cnt ws 0 a + 1 := by
  rcases hF : nextF ws true (N - a) a with _ | q
  · have hno := nextF_no ws true _ _ hF
    refine .inl ⟨nextR_none N ws a true hE (by omega) (fun j h1 h2 => hno j h1 (by omega)), (cnt_flat ws a N ha (fun j h1 h2 => hno j h1 (by omega))).symm⟩
  · obtain ⟨h1, h2, h3, h4⟩ := nextF_is ws true _ _ _ hF
    refine .inr ⟨q, nextR_hit N ws a q true hE (by omega) h1 (by omega) h4 h3, h1, by omega, ?_, ?_⟩
    · unfold hasR
      rw [if_neg (by simp [hE]), if_neg (by omega), Int.toNat_natCast, h3]
    · rw [cnt_succ ws 0 q (by omega), if_pos h3, cnt_flat ws a q h1 h4]
def WkR (w3 : World) (N : Nat) (ws : List Nat) (a m : Value) (wr : World) : Prop :=
  ∃ t : Nat, t ≤ N ∧ a = .int .i64 t ∧ m = .int .i64 (cnt ws 0 t) ∧ Below w3.heap.size w3 wr

set_option maxHeartbeats 2000000 in
theorem BitmapWalks_true (n : Int) (nums : List Int) (A : Option Addr) (c : Nat) (w : World) (hr : Rd w 1 A nums.length (nums.map (Value.int .i64))) (hl : nums.length ≤ 9223372036854775807) (hT : TabOK w) (hC : CutOK w) (hP : PowOK w) :
    Calls Tryd.prog 11 #[.int .i64 n, .slice A nums.length c] w fun e w' => e = .returned (.bool true) ∧ Below w.heap.size w w' := by
  go_enter Tryd.func11, Tryd.ntmps11
  go_wp2_with fail
  refine (BitmapKnown_true _ hT hC hP).mono ?_
  rintro e w1 ⟨rfl, hb1⟩
  go_wp2_with fail
  refine (made_any n nums A c _ (hr.below hb1 (Nat.le_refl _)) hl).mono ?_
  rintro e w2 ⟨N, ws, A2, m, c2, hN, rfl, hE, hs, hown, hb2⟩
  have hml := chk_len hE
  have hm : m ≤ 1000000 := by have := hown.1; rw [uw_len] at this; omega
  have hr2 := (Rd.own hown).alloc (.cells #[.int .i64 N, .slice A2 m c2] 24)
  have kB := Bk.new w2 #[.int .i64 N, .slice A2 m c2] 24
  have hB := balloc (bnext hb1 hb2) (.cells #[.int .i64 N, .slice A2 m c2] 24)
  have hcn := cnt_le ws 0 N
  have HC0 : Hid (countR N ws 0 N = ((cnt ws 0 N : Int), 0)) := Lib.hid (by unfold countR; rw [if_neg (by simp [hE]), if_neg (by omega)]; simp)
  have Hcase := Lib.hid (fun a => next_case N ws a hE)
  have Hmono := Lib.hid (cnt_mono ws)
  have Hle := Lib.hid (cnt_le ws 0)
  clear hown hml
  go_wp2_with fail
  refine (Count_any N A2 m c2 ws 0 N _ hr2 hs hm).mono ?_
  rw [HC0.out]
  rintro e w3 ⟨rfl, hb3⟩
  replace hr2 := hr2.below hb3 (Nat.le_refl _)
  replace kB := kB.to hb3
  replace hB := bnext hB hb3
  replace hT := hT.below hB
  clear hb1 hb2 hb3 hC hP
  have HallN : Hid (∀ b, b ≤ N → cnt ws 0 b ≤ cnt ws 0 N) := Lib.hid (fun b hb => cnt_mono ws b N hb)
  generalize cnt ws 0 N = ALL at *
  go_wp2_with fail
  go_loopw [10, 11] (WkR w3 N ws) (fun a _ _ => N + 1 - (intOf a).toNat)
  case atStart => exact ⟨0, by omega, rfl, by rw [cnt_same ws 0 0 (Nat.le_refl _)]; rfl, Below.refl _ _⟩
  case round =>
    obtain ⟨t, ht, rfl, rfl, hBx⟩ := hrel
    obtain ⟨M, hM⟩ : ∃ M, cnt ws 0 t = M := ⟨_, rfl⟩
    have hcs := Hcase.out t ht
    have hlt := Hle.out t
    have kBr := kB.to hBx
    have hrr := hr2.below hBx (Nat.le_refl _)
    have hTr := hT.below hBx
    obtain ⟨cB, fB, lB⟩ := kBr.facts
    rw [hM] at hcs hlt ⊢
    rcases hcs with ⟨hnx, hMA⟩ | ⟨q, hnx, hq1, hq2, hhas, hcq⟩
    · have HNx := Lib.hid hnx
      subst hMA
      clear hnx hM
      go_wp2_with (first
        | (go_at_call 27; refine (Next_any N A2 m c2 ws t true _ hTr hrr hs hm).mono ?_; rw [HNx.out]; rintro e w4 ⟨rfl, hb4⟩; clear cB fB lB; obtain ⟨cB, fB, lB⟩ := (kBr.to hb4).facts))
      go_ret
      exact ⟨rfl, bnext (bnext hB hBx) hb4⟩
    · have HNx := Lib.hid hnx
      have HH := Lib.hid hhas
      have HQ := Lib.hid hcq
      have hmo : M ≤ ALL := by have h1 := Hmono.out t (q + 1) (by omega); have h2 := HallN.out (q + 1) (by omega); omega
      have hq0 : ¬ q < t := by omega
      clear hnx hhas hcq hM
      go_wp2_with (first
        | (go_at_call 27; refine (Next_any N A2 m c2 ws t true _ hTr hrr hs hm).mono ?_; rw [HNx.out]; rintro e w4 ⟨rfl, hb4⟩; clear cB fB lB; obtain ⟨cB, fB, lB⟩ := (kBr.to hb4).facts)
        | (go_at_call 23; refine (Has_any N A2 m c2 ws q _ (hrr.below hb4 (Nat.le_refl _)) hs hm).mono ?_; rw [HH.out]; rintro e w5 ⟨rfl, hb5⟩; clear cB fB lB; obtain ⟨cB, fB, lB⟩ := ((kBr.to hb4).to hb5).facts))
      go_roundw
      case rel => first | exact ⟨q + 1, by omega, by go_num, by rw [HQ.out]; go_num, bnext (bnext hBx hb4) hb5⟩ | ((repeat apply Exists.intro); exact ⟨⟨q + 1, by omega, by go_num, by rw [HQ.out]; go_num, bnext (bnext hBx hb4) hb5⟩, rfl⟩)
      case measure => simp [intOf]; omega
end Go.Proofs.YtihbdndigfnhkaaDoor
