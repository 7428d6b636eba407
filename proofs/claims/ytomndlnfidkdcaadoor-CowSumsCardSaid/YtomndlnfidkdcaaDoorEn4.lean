/- Entries of a page table: which entry a word is. -/
import Derived.Test.YtomndlnfidkdcaaDoorEn3
import Derived.Test.YtomndlnfidkdcaaDoorPop
namespace Go.Proofs.YtomndlnfidkdcaaDoor
open Go Go.Proofs Go.RowKit
set_option linter.unusedSimpArgs false
set_option linter.unusedVariables false
set_option maxRecDepth 100000

theorem and224 : ((List.range 256).all fun d => decide (d &&& 224 ≠ 0) == decide (d / 32 % 8 ≠ 0)) = true := by decide +kernel
theorem form_iff (x : Nat) (hx : x < 18446744073709551616) : (bits .andNot .u64 (x : Int) 65311 != 0) = decide (x / 32 % 8 ≠ 0 ∨ x / 65536 ≠ 0) := by
  have h := u64_andNot_nat x 65311 hx (by omega)
  rw [show ((65311 : Nat) : Int) = 65311 from rfl] at h
  rw [h]
  have e : x &&& (18446744073709551615 - 65311) = (x % 256 &&& 224) + 256 * (x / 256 % 256 &&& 0) + 256 * (256 * (x / 65536)) := by
    have h1 : x = x % 256 + 256 * (x / 256 % 256 + 256 * (x / 65536)) := by omega
    have h3 := and_cons (x / 256 % 256) (x / 65536) 0 281474976710655 (by omega) (by omega)
    have h2 := and_cons (x % 256) (x / 256 % 256 + 256 * (x / 65536)) 224 (0 + 256 * 281474976710655) (by omega) (by omega)
    rw [h3] at h2
    rw [← h1, show 224 + 256 * (0 + 256 * 281474976710655) = 18446744073709551615 - 65311 by decide] at h2
    rw [h2]
    have h4 : x / 65536 &&& 281474976710655 = x / 65536 := by
      rw [show (281474976710655 : Nat) = 2 ^ 48 - 1 by decide, Nat.and_two_pow_sub_one_eq_mod, Nat.mod_eq_of_lt (by omega)]
    rw [h4]
    omega
  rw [e]
  have h5 := List.all_eq_true.1 and224 (x % 256) (List.mem_range.2 (by omega))
  simp only [beq_iff_eq, decide_eq_decide] at h5
  rw [show x % 256 / 32 % 8 = x / 32 % 8 by omega] at h5
  rw [Nat.and_zero, Bool.eq_iff_iff]
  simp only [bne_iff_ne, ne_eq, decide_eq_true_eq]
  constructor
  · intro h6
    by_cases h7 : x % 256 &&& 224 = 0
    · right; omega
    · left; exact h5.1 h7
  · rintro (h6 | h6)
    · have := h5.2 h6; omega
    · omega
theorem bits_all : ((List.range 8).all fun f => (decide (f &&& 1 ≠ 0) == decide (f % 2 = 1)) && (decide (f &&& 2 ≠ 0) == decide (f / 2 % 2 = 1)) && (decide (f &&& 4 ≠ 0) == decide (f / 4 % 2 = 1))) = true := by decide +kernel
theorem bits_of (x : Nat) : decide (x / 4 % 8 &&& 1 ≠ 0) = decide (x / 4 % 2 = 1) ∧ decide (x / 4 % 8 &&& 2 ≠ 0) = decide (x / 8 % 2 = 1) ∧ decide (x / 4 % 8 &&& 4 ≠ 0) = decide (x / 16 % 2 = 1) := by
  have h := List.all_eq_true.1 bits_all (x / 4 % 8) (List.mem_range.2 (by omega))
  simp only [Bool.and_eq_true, beq_iff_eq] at h
  rw [show x / 4 % 8 % 2 = x / 4 % 2 by omega, show x / 4 % 8 / 2 % 2 = x / 8 % 2 by omega, show x / 4 % 8 / 4 % 2 = x / 16 % 2 by omega] at h
  exact ⟨h.1.1, h.1.2, h.2⟩

theorem has_z (f : Nat) (g : Int) (m : Nat) (w : World) (hf : f < 18446744073709551616) (hg : m < 18446744073709551616) (hm : g = (m : Int)) :
    Calls Tryd.prog 67 #[.int .u64 f, .int .u64 g] w fun e w' => e = .returned (.bool (decide (f &&& m ≠ 0))) ∧ w = w' := by
  subst hm
  exact has_fl f m w hf hg
/-- The error of a word, and the entry that it is. -/
def unpE (x : Nat) : Int :=
  if x % 4 = 3 then 16 else if x / 32 % 8 ≠ 0 ∨ x / 65536 ≠ 0 then 3 else chk (x % 4 : Nat) (x / 256 : Nat) (decide (x / 4 % 2 = 1)) (decide (x / 8 % 2 = 1)) (decide (x / 16 % 2 = 1))
def unpR (x : Nat) : (Int × Int × Bool × Bool × Bool) × Int :=
  if unpE x = 0 then (((x % 4 : Nat), (x / 256 : Nat), decide (x / 4 % 2 = 1), decide (x / 8 % 2 = 1), decide (x / 16 % 2 = 1)), 0) else ((0, 0, false, false, false), unpE x)
/-- An entry and an error that a call returned. -/
def EnRes (w w' : World) (r : (Int × Int × Bool × Bool × Bool) × Int) (e : Ending) : Prop :=
  e = .returned (.tuple #[.agg #[.int .i64 r.1.1, .int .i64 r.1.2.1, .bool r.1.2.2.1, .bool r.1.2.2.2.1, .bool r.1.2.2.2.2], .int .i64 r.2]) ∧ Below w.heap.size w w'

section
variable {w : World} {b : Nat} {t : TypeId}
theorem Bk.put5 {x0 x1 x2 x3 x4 : Value} (h : Bk w b #[x0, x1, x2, x3, x4] t) (y0 y1 y2 y3 y4 : Value) :
    Bk (((((w.setCell ⟨b, 0, none⟩ y0).setCell ⟨b, 1, none⟩ y1).setCell ⟨b, 2, none⟩ y2).setCell ⟨b, 3, none⟩ y3).setCell ⟨b, 4, none⟩ y4) b #[y0, y1, y2, y3, y4] t := ((((h.put 0 y0).put 1 y1).put 2 y2).put 3 y3).put 4 y4
theorem below_put5 {a : World} (h : Below a.heap.size a w) (hp : a.heap.size ≤ b) (y0 y1 y2 y3 y4 : Value) :
    Below a.heap.size a (((((w.setCell ⟨b, 0, none⟩ y0).setCell ⟨b, 1, none⟩ y1).setCell ⟨b, 2, none⟩ y2).setCell ⟨b, 3, none⟩ y3).setCell ⟨b, 4, none⟩ y4) :=
  ((((h.setCell (p := ⟨b, 0, none⟩) hp y0).setCell (p := ⟨b, 1, none⟩) hp y1).setCell (p := ⟨b, 2, none⟩) hp y2).setCell (p := ⟨b, 3, none⟩) hp y3).setCell (p := ⟨b, 4, none⟩) hp y4
end

set_option maxHeartbeats 2000000 in
theorem Unpack_any (x : Nat) (w : World) (hx : x < 18446744073709551616) (hL : LayOK w) :
    Calls Tryd.prog 40 #[.int .u64 x] w fun e w' => EnRes w w' (unpR x) e := by
  by_cases h1 : x % 4 = 3
  · have hv : unpR x = ((0, 0, false, false, false), 16) := by unfold unpR unpE; simp [h1]
    have H1 := Lib.hid h1
    have HV := Lib.hid hv
    clear h1 hv
    go_enter Tryd.func40, Tryd.ntmps40
    go_wp2_with (go_at_call 64; refine (Kind_any x _ hx (hL.alloc _)).mono ?_; rw [if_pos H1.out, if_pos H1.out]; rintro e w1 ⟨rfl, hb1⟩; have kR := (Bk.new w #[.int .i64 0, .int .i64 0, .bool false, .bool false, .bool false] 61).to hb1; obtain ⟨cR, fR, lR⟩ := kR.facts)
    have kF := kR.put5 (.int .i64 0) (.int .i64 0) (.bool false) (.bool false) (.bool false)
    have hBF := below_put5 (b := w.heap.size) (bnext (balloc (Below.refl _ _) _) hb1) (Nat.le_refl _) (.int .i64 0) (.int .i64 0) (.bool false) (.bool false) (.bool false)
    generalize ((((w1.setCell ⟨w.heap.size, 0, none⟩ (.int .i64 0)).setCell ⟨w.heap.size, 1, none⟩ (.int .i64 0)).setCell ⟨w.heap.size, 2, none⟩ (.bool false)).setCell ⟨w.heap.size, 3, none⟩ (.bool false)).setCell ⟨w.heap.size, 4, none⟩ (.bool false) = wF at *
    clear cR fR lR
    obtain ⟨cF, fF, lF⟩ := kF.facts
    exact bodyPost_ret (v := .tuple #[.agg #[.int .i64 0, .int .i64 0, .bool false, .bool false, .bool false], .int .i64 16]) (by simp [results, Tryd.results40, go_sem, cF]) rfl ⟨by rw [HV.out], hBF⟩
  by_cases h2 : x / 32 % 8 ≠ 0 ∨ x / 65536 ≠ 0
  · have hv : unpR x = ((0, 0, false, false, false), 3) := by unfold unpR unpE; simp only [if_neg h1, if_pos h2]; rfl
    have hF : (bits .andNot .u64 (x : Int) 65311 != 0) = true := by rw [form_iff x hx]; exact decide_eq_true h2
    have H1 := Lib.hid h1
    have HV := Lib.hid hv
    clear h1 h2 hv
    go_enter Tryd.func40, Tryd.ntmps40
    go_wp2_with fail
    refine (Kind_any x _ hx (hL.alloc _)).mono ?_
    rw [if_neg H1.out, if_neg H1.out]
    rintro e w1 ⟨rfl, hb1⟩
    have kR := (Bk.new w #[.int .i64 0, .int .i64 0, .bool false, .bool false, .bool false] 61).to hb1
    have hB1 := bnext (balloc (Below.refl _ _) _) hb1
    have hL1 := hL.below hB1
    clear hb1
    obtain ⟨l0, l1, l2, l3, l4, l5⟩ := hL1.cells
    go_wp2_with fail
    clear l0 l1 l2 l3 l4 l5
    refine (word_any 3 7 255 _ _ _ (by omega) (by omega) (by omega) (hL1.alloc _) (Rd.new #[.int .u64 3, .int .u64 7, .int .u64 255] _ rfl)).mono ?_
    rw [show ((wK 3 7 255 3 : Nat) : Int) = 65311 from rfl]
    rintro e w2 ⟨rfl, hb2⟩
    have hc2 := bnext (balloc (Below.refl _ _) _) hb2
    replace kR := kR.to hc2
    replace hB1 := bnext hB1 hc2
    replace hL1 := hL1.below hc2
    clear hb2 hc2
    obtain ⟨cR, fR, lR⟩ := kR.facts
    go_wp2_with fail
    have kF := kR.put5 (.int .i64 0) (.int .i64 0) (.bool false) (.bool false) (.bool false)
    have hBF := below_put5 (b := w.heap.size) (hB1) (Nat.le_refl _) (.int .i64 0) (.int .i64 0) (.bool false) (.bool false) (.bool false)
    generalize ((((w2.setCell ⟨w.heap.size, 0, none⟩ (.int .i64 0)).setCell ⟨w.heap.size, 1, none⟩ (.int .i64 0)).setCell ⟨w.heap.size, 2, none⟩ (.bool false)).setCell ⟨w.heap.size, 3, none⟩ (.bool false)).setCell ⟨w.heap.size, 4, none⟩ (.bool false) = wF at *
    clear cR fR lR
    obtain ⟨cF, fF, lF⟩ := kF.facts
    exact bodyPost_ret (v := .tuple #[.agg #[.int .i64 0, .int .i64 0, .bool false, .bool false, .bool false], .int .i64 (3)]) (by simp [results, Tryd.results40, go_sem, cF]) rfl ⟨by rw [HV.out], hBF⟩
  · have hF : (bits .andNot .u64 (x : Int) 65311 != 0) = false := by rw [form_iff x hx]; exact decide_eq_false h2
    have hE : unpE x = chk (x % 4 : Nat) (x / 256 : Nat) (decide (x / 4 % 2 = 1)) (decide (x / 8 % 2 = 1)) (decide (x / 16 % 2 = 1)) := by unfold unpE; rw [if_neg h1, if_neg h2]
    have hv1 : unpE x ≠ 0 → unpR x = ((0, 0, false, false, false), unpE x) := fun h => by unfold unpR; rw [if_neg h]
    have hv2 : unpE x = 0 → unpR x = ((((x % 4 : Nat) : Int), ((x / 256 : Nat) : Int), decide (x / 4 % 2 = 1), decide (x / 8 % 2 = 1), decide (x / 16 % 2 = 1)), 0) := fun h => by unfold unpR; rw [if_pos h]
    rw [hE] at hv1 hv2
    have hn : x / 256 % 256 = x / 256 := by omega
    have hn2 : x / 256 < 256 := by omega
    obtain ⟨f1, f2, f3⟩ := bits_of x
    have hp1 := part1_any x
    have hp2 := part2_any x
    rw [hn] at hp2
    have hf8 : x / 4 % 8 < 8 := by omega
    have hk3 : x % 4 < 4 := by omega
    generalize decide (x / 4 % 2 = 1) = a at *
    generalize decide (x / 8 % 2 = 1) = b at *
    generalize decide (x / 16 % 2 = 1) = c at *
    generalize x / 4 % 8 = f at *
    generalize x / 256 = n at *
    have F1 := Lib.hid f1
    have F2 := Lib.hid f2
    have F3 := Lib.hid f3
    have HP1 := Lib.hid hp1
    have HP2 := Lib.hid hp2
    have HV1 := Lib.hid hv1
    have HV2 := Lib.hid hv2
    have H1 := Lib.hid h1
    generalize hk : x % 4 = k at hk3 HV1 HV2
    have HK := Lib.hid hk
    clear f1 f2 f3 hp1 hp2 hv1 hv2 hE h1 h2 hn hk
    go_enter Tryd.func40, Tryd.ntmps40
    go_wp2_with fail
    refine (Kind_any x _ hx (hL.alloc _)).mono ?_
    rw [if_neg H1.out, if_neg H1.out, HK.out]
    rintro e w1 ⟨rfl, hb1⟩
    have kR := (Bk.new w #[.int .i64 0, .int .i64 0, .bool false, .bool false, .bool false] 61).to hb1
    have hB1 := bnext (balloc (Below.refl _ _) _) hb1
    have hL1 := hL.below hB1
    clear hb1
    obtain ⟨l0, l1, l2, l3, l4, l5⟩ := hL1.cells
    go_wp2_with fail
    clear l0 l1 l2 l3 l4 l5
    refine (word_any 3 7 255 _ _ _ (by omega) (by omega) (by omega) (hL1.alloc _) (Rd.new #[.int .u64 3, .int .u64 7, .int .u64 255] _ rfl)).mono ?_
    rw [show ((wK 3 7 255 3 : Nat) : Int) = 65311 from rfl]
    rintro e w2 ⟨rfl, hb2⟩
    have hc2 := bnext (balloc (Below.refl _ _) _) hb2
    replace kR := kR.to hc2
    replace hB1 := bnext hB1 hc2
    replace hL1 := hL1.below hc2
    clear hb2 hc2
    obtain ⟨cR, fR, lR⟩ := kR.facts
    go_wp2_with fail
    refine (HP1.out _ hx hL1).mono ?_
    rintro e w3 ⟨rfl, hb3⟩
    go_wp2_with fail
    refine (HP2.out _ hx (hL1.below hb3)).mono ?_
    rintro e w4 ⟨rfl, hb4⟩
    have hc4 := bnext hb3 hb4
    replace kR := kR.to hc4
    replace hB1 := bnext hB1 hc4
    replace hL1 := hL1.below hc4
    clear hb3 hb4 hc4 cR fR lR
    go_wp2_with fail
    refine (has_z f 1 1 _ (by omega) (by omega) rfl).mono ?_
    rw [F1.out]
    rintro e w' ⟨rfl, rfl⟩
    go_wp2_with fail
    refine (has_z f 2 2 _ (by omega) (by omega) rfl).mono ?_
    rw [F2.out]
    rintro e w' ⟨rfl, rfl⟩
    go_wp2_with fail
    refine (has_z f 4 4 _ (by omega) (by omega) rfl).mono ?_
    rw [F3.out]
    rintro e w' ⟨rfl, rfl⟩
    go_wp2_with fail
    refine (Check_any _ _ _ _ _ _ (hL1.alloc _)).mono ?_
    rintro e w5 ⟨rfl, hb5⟩
    have hc5 := bnext (balloc (Below.refl _ _) _) hb5
    have kE := (Bk.new w4 #[.int .i64 k, .int .i64 n, .bool a, .bool b, .bool c] 61).to hb5
    replace kR := kR.to hc5
    replace hB1 := bnext hB1 hc5
    clear hb5 hc5
    obtain ⟨cR, fR, lR⟩ := kR.facts
    obtain ⟨cE, fE, lE⟩ := kE.facts
    by_cases hz : chk k n a b c = 0
    · have HV := Lib.hid (HV2.out hz)
      have hzb : (chk k n a b c != 0) = false := by simpa using hz
      clear hz
      go_wp2_with fail
      clear cE fE lE kE
      have kF := kR.put5 (.int .i64 k) (.int .i64 n) (.bool a) (.bool b) (.bool c)
      have hBF := below_put5 (b := w.heap.size) (hB1) (Nat.le_refl _) (.int .i64 k) (.int .i64 n) (.bool a) (.bool b) (.bool c)
      generalize ((((w5.setCell ⟨w.heap.size, 0, none⟩ (.int .i64 k)).setCell ⟨w.heap.size, 1, none⟩ (.int .i64 n)).setCell ⟨w.heap.size, 2, none⟩ (.bool a)).setCell ⟨w.heap.size, 3, none⟩ (.bool b)).setCell ⟨w.heap.size, 4, none⟩ (.bool c) = wF at *
      clear cR fR lR
      obtain ⟨cF, fF, lF⟩ := kF.facts
      exact bodyPost_ret (v := .tuple #[.agg #[.int .i64 k, .int .i64 n, .bool a, .bool b, .bool c], .int .i64 (0)]) (by simp [results, Tryd.results40, go_sem, cF]) rfl ⟨by rw [HV.out], hBF⟩
    · have HV := Lib.hid (HV1.out hz)
      have hzb : (chk k n a b c != 0) = true := by simpa using hz
      clear hz
      go_wp2_with fail
      clear cE fE lE kE
      have kF := kR.put5 (.int .i64 0) (.int .i64 0) (.bool false) (.bool false) (.bool false)
      have hBF := below_put5 (b := w.heap.size) (hB1) (Nat.le_refl _) (.int .i64 0) (.int .i64 0) (.bool false) (.bool false) (.bool false)
      generalize ((((w5.setCell ⟨w.heap.size, 0, none⟩ (.int .i64 0)).setCell ⟨w.heap.size, 1, none⟩ (.int .i64 0)).setCell ⟨w.heap.size, 2, none⟩ (.bool false)).setCell ⟨w.heap.size, 3, none⟩ (.bool false)).setCell ⟨w.heap.size, 4, none⟩ (.bool false) = wF at *
      clear cR fR lR
      obtain ⟨cF, fF, lF⟩ := kF.facts
      exact bodyPost_ret (v := .tuple #[.agg #[.int .i64 0, .int .i64 0, .bool false, .bool false, .bool false], .int .i64 (chk k n a b c)]) (by simp [results, Tryd.results40, go_sem, cF]) rfl ⟨by rw [HV.out], hBF⟩
end Go.Proofs.YtomndlnfidkdcaaDoor
