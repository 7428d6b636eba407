/- The statements' small functions of chapter 28: few, word, bare. -/
import Derived.Test.YtmjahjdnfijpkaaDoorFkD
import Derived.Test.YtmjahjdnfijpkaaDoorHF
import Derived.Test.YtmjahjdnfijpkaaDoorGZ
import Derived.Test.YtmjahjdnfijpkaaDoorHK
namespace Go.Proofs.YtmjahjdnfijpkaaDoor
open Go Go.Proofs Go.RowKit
set_option linter.unusedSimpArgs false
set_option linter.unusedVariables false
set_option maxRecDepth 100000

set_option maxHeartbeats 1000000 in
theorem few28_any (rs : List (Int × Int)) (r : Int) (ls : List Int) (es : List Nat) (v : Value) (w : World) (hv : SpV w v (rs, r, ls, es)) :
    Calls Tryd.prog 10 #[v] w fun e w' => e = .returned (.bool (decide (rs.length ≤ 40 ∧ ls.length ≤ 10 ∧ es.length ≤ 70))) ∧ Below w.heap.size w w' := by
  obtain ⟨A, c, L, cl, B, d, rfl, hA, hLs, hB, hcc⟩ := hv
  unfold spcV
  simp only
  have kS := Bk.new w #[.slice A rs.length c, .int .i64 r, .slice L ls.length cl, .slice B es.length d] 28
  have hB1 := balloc (Below.refl _ w) (.cells #[.slice A rs.length c, .int .i64 r, .slice L ls.length cl, .slice B es.length d] 28)
  generalize hw1 : w.alloc (.cells #[.slice A rs.length c, .int .i64 r, .slice L ls.length cl, .slice B es.length d] 28) = w1 at *
  obtain ⟨cS, fS, lS⟩ := kS.facts
  obtain ⟨z, hz⟩ : ∃ z, z = decide (rs.length ≤ 40 ∧ ls.length ≤ 10 ∧ es.length ≤ 70) := ⟨_, rfl⟩
  rw [← hz]
  have HZ := Lib.hid hz
  clear hz hA hLs hB hcc
  have hcs : (¬ rs.length ≤ 40) ∨ (rs.length ≤ 40 ∧ ¬ ls.length ≤ 10) ∨ (rs.length ≤ 40 ∧ ls.length ≤ 10 ∧ ¬ es.length ≤ 70) ∨ (rs.length ≤ 40 ∧ ls.length ≤ 10 ∧ es.length ≤ 70) := by omega
  rcases hcs with h1 | ⟨h1, h2⟩ | ⟨h1, h2, h3⟩ | ⟨h1, h2, h3⟩
  · have HZ2 := Lib.hid (show z = false by rw [HZ.out]; simp; omega)
    have d1 : decide ((rs.length : Int) ≤ 40) = false := by simp; omega
    clear HZ h1
    go_enter Tryd.func10, Tryd.ntmps10
    go_wp2_with fail
    go_ret
    exact ⟨by rw [HZ2.out]; rfl, hB1⟩
  · have HZ2 := Lib.hid (show z = false by rw [HZ.out]; simp; omega)
    have d1 : decide ((rs.length : Int) ≤ 40) = true := by simp; omega
    have d2 : decide ((ls.length : Int) ≤ 10) = false := by simp; omega
    clear HZ h1 h2
    go_enter Tryd.func10, Tryd.ntmps10
    go_wp2_with fail
    go_ret
    exact ⟨by rw [HZ2.out]; rfl, hB1⟩
  · have HZ2 := Lib.hid (show z = false by rw [HZ.out]; simp; omega)
    have d1 : decide ((rs.length : Int) ≤ 40) = true := by simp; omega
    have d2 : decide ((ls.length : Int) ≤ 10) = true := by simp; omega
    have d3 : decide ((es.length : Int) ≤ 70) = false := by simp; omega
    clear HZ h1 h2 h3
    go_enter Tryd.func10, Tryd.ntmps10
    go_wp2_with fail
    go_ret
    exact ⟨by rw [HZ2.out]; rfl, hB1⟩
  · have HZ2 := Lib.hid (show z = true by rw [HZ.out]; simp; omega)
    have d1 : decide ((rs.length : Int) ≤ 40) = true := by simp; omega
    have d2 : decide ((ls.length : Int) ≤ 10) = true := by simp; omega
    have d3 : decide ((es.length : Int) ≤ 70) = true := by simp; omega
    clear HZ h1 h2 h3
    go_enter Tryd.func10, Tryd.ntmps10
    go_wp2_with fail
    go_ret
    exact ⟨by rw [HZ2.out]; rfl, hB1⟩
theorem word28_any (k n : Int) (a b c : Bool) (x : Nat) (w : World) (h : packR k n a b c = ((x : Int), 0)) :
    Calls Tryd.prog 35 #[.agg #[.int .i64 k, .int .i64 n, .bool a, .bool b, .bool c]] w fun e w' => e = .returned (.int .u64 x) ∧ Below w.heap.size w w' := by
  have kS := Bk.new w #[.int .i64 k, .int .i64 n, .bool a, .bool b, .bool c] 52
  have hB1 := balloc (Below.refl _ w) (.cells #[.int .i64 k, .int .i64 n, .bool a, .bool b, .bool c] 52)
  have HU := Lib.hid (fun W => rPack_any k n a b c W)
  rw [h] at HU
  clear h
  obtain ⟨cS, fS, lS⟩ := kS.facts
  go_enter Tryd.func35, Tryd.ntmps35
  go_wp2_with fail
  refine (HU.out _).mono ?_
  rintro e w2 ⟨rfl, hb2⟩
  clear cS fS lS
  go_wp2_with fail
  go_ret
  exact ⟨rfl, bnext hB1 hb2⟩


/-- The words of an empty table. -/
def wz : List Nat := List.replicate 64 0
theorem wz_len : wz.length = 64 := by decide
theorem uw_made : madeCells #[.int .u64 0] 64 = (uw wz).toArray := by kernel_rfl
theorem make_wd : ∀ W : World, (Instr.makeSlice 24 (.int .i64 64) (.int .i64 64)).run Tryd.prog W = .ok (.slice (some ⟨W.heap.size, 0, none⟩) 64 64) (W.alloc (.cells (uw wz).toArray 55)) := fun W => by
  have h := run_make_row' (P := Tryd.prog) 24 55 (.int .u64 0) 8 Tryd.underlying24 infoU64 rfl .i64 .i64 64 (by omega) (by omega) W
  rw [uw_made] at h
  exact h
theorem own_of_bk {w : World} {g n base : Nat} {t : TypeId} {xs : List Value} (h : Bk w g xs.toArray t) (hb : base ≤ g) (hn : xs.length = n) (hm : n ≤ 1000000) : w.ownsRow base t 1 (.slice (some ⟨g, 0, none⟩) n n) n xs := by
  refine ⟨by omega, .inr ⟨g, n, xs.toArray, rfl, hb, h, Nat.le_refl _, by simp only [maxLen]; omega, ?_, ?_⟩⟩
  · simp [hn]
  · rw [Nat.mul_one, ← hn]
    exact List.take_length
/-- Between two leaves of bare. -/
def BarI (r : Int) (P g : Nat) (w2 : World) (i : Value) (wr : World) : Prop := ∃ (k : Nat) (v : Value), k ≤ 8 ∧ i = .int .i64 k ∧ Bk wr P #[.slice none 0 0, .int .i64 r, v, .slice (some ⟨g, 0, none⟩) 64 64] 28 ∧ wr.ownsRow w2.heap.size 3 1 v k (iw (List.replicate k (-1))) ∧ Bk wr g (uw wz).toArray 55 ∧ Below P w2 wr ∧ w2.heap.size ≤ wr.heap.size

set_option maxHeartbeats 4000000 in
theorem bare28_any (r : Int) (w : World) :
    Calls Tryd.prog 38 #[.int .i64 r] w fun e w' => ∃ gA cA gB cB, e = .returned (.agg #[.slice none 0 0, .int .i64 r, .slice (some ⟨gA, 0, none⟩) 8 cA, .slice (some ⟨gB, 0, none⟩) 64 cB]) ∧ Own2 w' w.heap.size gA cA gB cB (List.replicate 8 (-1)) wz ∧ Below w.heap.size w w' := by
  have hmk := make_wd
  obtain ⟨i0, hi, hz0, hz1, hz2⟩ := info_parts infoInt
  go_enter Tryd.func38, Tryd.ntmps38
  go_upto_region 2 with fail
  clear hmk
  have kE := (Bk.new (w.alloc (.cells #[.slice none 0 0, .int .i64 0, .slice none 0 0, .slice none 0 0] 28)) (uw wz).toArray 55).alloc (.cells #[.slice none 0 0, .int .i64 r, .slice none 0 0, .slice (some ⟨w.heap.size + 1, 0, none⟩) 64 64] 28)
  have kR := ((Bk.new w #[.slice none 0 0, .int .i64 0, .slice none 0 0, .slice none 0 0] 28).alloc (.cells (uw wz).toArray 55)).alloc (.cells #[.slice none 0 0, .int .i64 r, .slice none 0 0, .slice (some ⟨w.heap.size + 1, 0, none⟩) 64 64] 28)
  have kP := Bk.new ((w.alloc (.cells #[.slice none 0 0, .int .i64 0, .slice none 0 0, .slice none 0 0] 28)).alloc (.cells (uw wz).toArray 55)) #[.slice none 0 0, .int .i64 r, .slice none 0 0, .slice (some ⟨w.heap.size + 1, 0, none⟩) 64 64] 28
  simp only [World.size_alloc] at kE kP
  have hB1 := balloc (balloc (balloc (Below.refl _ w) (.cells #[.slice none 0 0, .int .i64 0, .slice none 0 0, .slice none 0 0] 28)) (.cells (uw wz).toArray 55)) (.cells #[.slice none 0 0, .int .i64 r, .slice none 0 0, .slice (some ⟨w.heap.size + 1, 0, none⟩) 64 64] 28)
  have hsz : (((w.alloc (.cells #[.slice none 0 0, .int .i64 0, .slice none 0 0, .slice none 0 0] 28)).alloc (.cells (uw wz).toArray 55)).alloc (.cells #[.slice none 0 0, .int .i64 r, .slice none 0 0, .slice (some ⟨w.heap.size + 1, 0, none⟩) 64 64] 28)).heap.size = w.heap.size + 3 := by simp
  generalize ((w.alloc (.cells #[.slice none 0 0, .int .i64 0, .slice none 0 0, .slice none 0 0] 28)).alloc (.cells (uw wz).toArray 55)).alloc (.cells #[.slice none 0 0, .int .i64 r, .slice none 0 0, .slice (some ⟨w.heap.size + 1, 0, none⟩) 64 64] 28) = w2 at *
  obtain ⟨g, hg⟩ : ∃ g, g = w.heap.size + 1 := ⟨_, rfl⟩
  obtain ⟨P, hP⟩ : ∃ P, P = w.heap.size + 1 + 1 := ⟨_, rfl⟩
  rw [← hP] at kP ⊢
  rw [← hg] at kE kP ⊢
  have hHP := Lib.hid hP
  have hHg := Lib.hid hg
  have hw2 : P < w2.heap.size := kP.lt
  have hgP : g ≠ P := by omega
  have hPg : P ≠ g := by omega
  have hwP : w.heap.size < P := by omega
  have hwg : w.heap.size < g := by omega
  have hg2 : g < w2.heap.size := kE.lt
  clear hg hP hsz
  go_wp2_with fail
  go_loopw [4] (fun i wr => BarI r P g w2 i wr) (fun i _ => 8 - (intOf i).toNat)
  case atStart => exact ⟨0, _, by omega, rfl, kP, World.ownsRow_nil _ _ _ _, kE, Below.refl _ _, Nat.le_refl _⟩
  case round =>
    obtain ⟨k, v, hk, rfl, kPr, hrow, kEr, hBx, hsz⟩ := hrel
    obtain ⟨cP, fP, lP⟩ := kPr.facts
    by_cases hlt : k < 8
    · have hkI : (k : Int) < 8 := by omega
      go_wp2_with (at_builtin; refine wpList_append_own _ rfl _ _ 23 rfl w2.heap.size 3 i0 (.int .i64 0) 1 8 Tryd.underlying23 hi hz0 hz1 hz2 rfl (by decide) _ _ (iw (List.replicate k (-1))) rfl (hrow.alloc _) ⟨wr.heap.size, 0, none⟩ 1 1 [.int .i64 (-1)] rfl rfl (cell_one_new _ _ _) (by simp [Value.oneCell']) (by simp only [maxLen]; omega) (by omega) (by simp; omega) ?_; intro v' w9 hown' hgrow _; obtain ⟨g', cap', rfl⟩ := ownsRow_succ hown'; have hno : ∀ b, b < w2.heap.size → v.ownBlock ≠ some b := (fun b hb e => by have := (hrow.lt b e).1; omega); have kP9 : Bk w9 P _ _ := (hgrow.block P (by simp; omega) (fun e => hno P hw2 e.symm)).trans (kPr.alloc _); have kE9 : Bk w9 g _ _ := (hgrow.block g (by simp; omega) (fun e => hno g hg2 e.symm)).trans (kEr.alloc _); have hB9 : Below P w2 w9 := ((hBx.alloc (by omega) _).grown hgrow (by simp; omega) (fun q e => by have := (hrow.lt q e).1; omega)); have hs9 := hgrow.size; clear cP fP lP; obtain ⟨cP, fP, lP⟩ := kP9.facts)
      have hro := own_far (p := ⟨P, 2, none⟩) hown' (by show P < w2.heap.size; omega) (.slice (some ⟨g', 0, none⟩) (k + 1) cap')
      have kPn := kP9.put 2 (.slice (some ⟨g', 0, none⟩) (k + 1) cap')
      have kEn := kE9.far (p := ⟨P, 2, none⟩) hgP (.slice (some ⟨g', 0, none⟩) (k + 1) cap')
      have hBn := hB9.setCell (p := ⟨P, 2, none⟩) (Nat.le_refl _) (.slice (some ⟨g', 0, none⟩) (k + 1) cap')
      have hrep : iw (List.replicate k (-1)) ++ [.int .i64 (-1)] = iw (List.replicate (k + 1) (-1)) := by rw [List.replicate_succ']; simp [iw]
      rw [hrep] at hro
      have HRo := Lib.hid hro
      clear hown' hro hrep hgrow
      go_roundw
      case rel => exact ⟨k + 1, _, by omega, by go_num, kPn, HRo.out, kEn, hBn, by simp at hs9 ⊢; omega⟩
      case measure => simp [intOf]; omega
    · obtain rfl : k = 8 := by omega
      obtain ⟨gA, cA, rfl⟩ := ownsRow_succ hrow
      have kRr := kR.below hBx (by omega)
      clear cP fP lP
      obtain ⟨cP, fP, lP⟩ := kPr.facts
      have hgA := (hrow.lt gA rfl).1
      obtain ⟨cR, fR, lR⟩ := kRr.facts
      go_wp2_with fail
      have kF := kRr.put4 (.slice none 0 0) (.int .i64 r) (.slice (some ⟨gA, 0, none⟩) 8 cA) (.slice (some ⟨g, 0, none⟩) 64 64)
      have hBF := below_put4 (hB1.trans (hBx.mono (by omega))) (g := w.heap.size) (Nat.le_refl _) (.slice none 0 0) (.int .i64 r) (.slice (some ⟨gA, 0, none⟩) 8 cA) (.slice (some ⟨g, 0, none⟩) 64 64)
      have hO : Own2 wr (w.heap.size + 1) gA cA g 64 (List.replicate 8 (-1)) wz := ⟨own_less hrow (by omega), own_of_bk kEr (by omega) (by rw [uw_len]; exact wz_len) (by omega), by omega⟩
      have hO4 := hO.ne4 (g := w.heap.size) (by omega) (by omega) (.slice none 0 0) (.int .i64 r) (.slice (some ⟨gA, 0, none⟩) 8 cA) (.slice (some ⟨g, 0, none⟩) 64 64)
      exact bodyPost_ret (kF.res1 (P := Tryd.prog) rfl _ rfl (by kernel_rfl) (by kernel_rfl)) rfl ⟨_, _, _, _, rfl, hO4.less (by omega), hBF⟩
end Go.Proofs.YtmjahjdnfijpkaaDoor
