/- Page tables: the reference's New. -/
import Derived.Test.YtnmknbnidfmmoaaDoorTR4
import Derived.Deep.OwnRows
namespace Go.Proofs.YtnmknbnidfmmoaaDoor
open Go Go.Proofs Go.RowKit
set_option linter.unusedSimpArgs false
set_option linter.unusedVariables false
set_option maxRecDepth 100000

set_option maxHeartbeats 1000000 in
theorem rNew_bad (root : Int) (w : World) (h : badF root ≠ 0) :
    Calls Tryd.prog 13 #[.int .i64 root] w fun e w' => TbRes w w' tb0 2 e := by
  have hr : root < -1 ∨ 256 ≤ root := by unfold badF at h; split at h <;> simp_all
  clear h
  have kR := Bk.new w #[.int .i64 0, .slice none 0 0, .slice none 0 0] 25
  have hB1 := balloc (Below.refl _ w) (.cells #[.int .i64 0, .slice none 0 0, .slice none 0 0] 25)
  generalize hw1 : w.alloc (.cells #[.int .i64 0, .slice none 0 0, .slice none 0 0] 25) = w1 at *
  obtain ⟨cR, fR, lR⟩ := kR.facts
  rcases hr with hr | hr
  all_goals
    go_enter Tryd.func13, Tryd.ntmps13
    go_wp2_with fail
    have kF := kR.put3 (.int .i64 0) (.slice none 0 0) (.slice none 0 0)
    have hBF := below_put3 hB1 (g := w.heap.size) (Nat.le_refl _) (.int .i64 0) (.slice none 0 0) (.slice none 0 0)
    exact bodyPost_ret (kF.res2 (P := Tryd.prog) rfl _ rfl (by kernel_rfl) (by kernel_rfl)) rfl ⟨_, rfl, TbV.zero _, TLoc.zero _ _, hBF⟩

set_option maxHeartbeats 2000000 in
theorem rNew_ok (r : Int) (w : World) (h : badF r = 0) :
    Calls Tryd.prog 13 #[.int .i64 r] w fun e w' => TbRes w w' (r, List.replicate 8 (-1), List.replicate 64 0) 0 e := by
  obtain ⟨hr1, hr2⟩ := badF_zero h
  clear h
  have kR := Bk.new w #[.int .i64 0, .slice none 0 0, .slice none 0 0] 25
  have hB1 := balloc (Below.refl _ w) (.cells #[.int .i64 0, .slice none 0 0, .slice none 0 0] 25)
  generalize hw1 : w.alloc (.cells #[.int .i64 0, .slice none 0 0, .slice none 0 0] 25) = w1 at *
  obtain ⟨cR, fR, lR⟩ := kR.facts
  have hme : madeCells #[.int .u64 0] 64 = (uw (List.replicate 64 0)).toArray := by kernel_rfl
  have hmk := run_make_row' (P := Tryd.prog) 23 66 (.int .u64 0) 8 Tryd.underlying23 infoU64 rfl .i64 .i64 64 (by omega) (by omega)
  have h64 : ((64 : Nat) : Int) = 64 := rfl
  rw [h64, hme] at hmk
  have hl64 : (List.replicate 64 (0 : Nat)).length = 64 := by decide
  obtain ⟨z64, hz64⟩ : ∃ z, z = List.replicate 64 (0 : Nat) := ⟨_, rfl⟩
  rw [← hz64] at hmk hl64 ⊢
  clear hme hz64 h64
  obtain ⟨i0, hi, hz0, hz1, hz2⟩ := info_parts infoInt
  go_enter Tryd.func13, Tryd.ntmps13
  go_upto_region 4 with fail
  have hE := (Rd.new (w := w1) (sz := 1) (n := 64) (uw z64).toArray 66 (by simp [uw_len, hl64])).alloc (.cells #[.int .i64 r, .slice none 0 0, .slice (some ⟨w1.heap.size, 0, none⟩) 64 64] 25)
  simp only at hE
  have kX := Bk.new (w1.alloc (.cells (uw z64).toArray 66)) #[.int .i64 r, .slice none 0 0, .slice (some ⟨w1.heap.size, 0, none⟩) 64 64] 25
  rw [World.size_alloc] at kX
  have hB4 := balloc (balloc hB1 (.cells (uw z64).toArray 66)) (.cells #[.int .i64 r, .slice none 0 0, .slice (some ⟨w1.heap.size, 0, none⟩) 64 64] 25)
  have hs4 : ((w1.alloc (.cells (uw z64).toArray 66)).alloc (.cells #[.int .i64 r, .slice none 0 0, .slice (some ⟨w1.heap.size, 0, none⟩) 64 64] 25)).heap.size = w1.heap.size + 1 + 1 := by simp
  replace kR := (kR.alloc (.cells (uw z64).toArray 66)).alloc (.cells #[.int .i64 r, .slice none 0 0, .slice (some ⟨w1.heap.size, 0, none⟩) 64 64] 25)
  generalize hw4 : (w1.alloc (.cells (uw z64).toArray 66)).alloc (.cells #[.int .i64 r, .slice none 0 0, .slice (some ⟨w1.heap.size, 0, none⟩) 64 64] 25) = w4 at *
  clear hmk hw1 hw4 cR fR
  go_wp2_with fail
  go_loopw [5] (fun i wr => ∃ (k : Nat) (v : Value), k ≤ 8 ∧ i = .int .i64 k ∧ Bk wr (w1.heap.size + 1) #[.int .i64 r, v, .slice (some ⟨w1.heap.size, 0, none⟩) 64 64] 25 ∧ wr.ownsRow w4.heap.size 3 1 v k (iw (List.replicate k (-1))) ∧ Below (w1.heap.size + 1) w4 wr) (fun i _ => 8 - (intOf i).toNat)
  case atStart => exact ⟨0, _, by omega, rfl, kX, World.ownsRow_nil _ _ _ _, Below.refl _ _⟩
  case round =>
    obtain ⟨k, v, hk, rfl, kXr, hown, hBx⟩ := hrel
    have hsx := hBx.size
    have lX := kXr.lt
    by_cases hlt : k < 8
    · have x0 := kXr.cell 0
      have x1 := kXr.cell 1
      have x2 := kXr.cell 2
      simp at x0 x1 x2
      have fX := kXr.frozen 1
      go_wp2_with (first
        | (at_builtin; refine wpList_append_own _ rfl _ _ 22 rfl w4.heap.size 3 i0 (.int .i64 0) 1 8 Tryd.underlying22 hi hz0 hz1 hz2 rfl (by decide) _ _ _ rfl (hown.alloc _) ⟨wr.heap.size, 0, none⟩ 1 1 [.int .i64 (-1)] rfl rfl (cell_one_new _ _ _) (by simp [Value.oneCell']) (by simp only [maxLen]; omega) (by omega) (by simp; omega) ?_; intro v' w9 hown' hgrow _
           have hne : ∀ j, j < w4.heap.size → some j ≠ v.ownBlock := fun j hj e' => by have := (hown.lt j e'.symm).1; omega
           have kX9 : Bk w9 (w1.heap.size + 1) #[.int .i64 r, v, .slice (some ⟨w1.heap.size, 0, none⟩) 64 64] 25 :=
             (hgrow.block (w1.heap.size + 1) (by simp; omega) (hne _ (by omega))).trans (kXr.alloc _)
           have hB9 : Below (w1.heap.size + 1) w4 w9 := (hBx.alloc (by omega) _).grown hgrow (by simp; omega) (fun q e => by have := (hown.lt q e).1; omega)
           have hown9 : w9.ownsRow w4.heap.size 3 1 v' (k + 1) (iw (List.replicate (k + 1) (-1))) := by
             have e1 : iw (List.replicate (k + 1) (-1)) = iw (List.replicate k (-1)) ++ [.int .i64 (-1)] := by rw [List.replicate_succ']; simp [iw]
             rw [e1]; exact hown'
           obtain ⟨A9, c9, rfl, _⟩ := own_slice hown9
           clear hown' hgrow hne
           have y1 := kX9.cell 1
           simp at y1
           have fX9 := kX9.frozen 1
           have lX9 := kX9.lt))
      have kX10 := kX9.put 1 (.slice A9 (k + 1) c9)
      have hB10 := hB9.setCell (p := ⟨w1.heap.size + 1, 1, none⟩) (Nat.le_refl _) (.slice A9 (k + 1) c9)
      have hown10 := own_far (p := ⟨w1.heap.size + 1, 1, none⟩) hown9 (by show w1.heap.size + 1 < w4.heap.size; omega) (.slice A9 (k + 1) c9)
      go_roundw
      case rel => exact ⟨k + 1, _, by omega, by go_num, kX10, hown10, hB10⟩
      case measure => simp [intOf]; omega
    · obtain rfl : k = 8 := by omega
      obtain ⟨AI, cI, rfl, _⟩ := own_slice hown
      have hcI : 8 ≤ cI := by
        rcases hown.2 with ⟨h, h0⟩ | ⟨g, cap, cur, h, _, _, hnc, _⟩
        · omega
        · injection h with _ _ h; omega
      have kR2 : Bk wr w.heap.size _ _ := kR.below hBx (by omega)
      obtain ⟨cX, fX, _⟩ := kXr.facts
      obtain ⟨cR, fR, _⟩ := kR2.facts
      have hB2 : Below w.heap.size w wr := hB4.trans (hBx.mono (by omega))
      have hE2 : RdIn wr (w.heap.size + 1) (w1.heap.size + 1) 1 (some ⟨w1.heap.size, 0, none⟩) 64 (uw z64) := by
        refine ⟨?_, fun b off _ e => by injection e with e; injection e with e; omega⟩
        obtain ⟨b, off, e, hb, hc⟩ := hE.2 (by omega)
        injection e with e
        injection e with e1 e2
        subst e1 e2
        exact ⟨hE.1, fun _ => ⟨w1.heap.size, 0, rfl, by omega, fun j u hu => (hBx.cell (p := ⟨w1.heap.size, 0 + j, none⟩) (Nat.lt_succ_self _)).trans (hc j u hu)⟩⟩
      have hA2 : RdIn wr w4.heap.size wr.heap.size 1 AI 8 (iw (List.replicate 8 (-1))) := RdIn.of hown
      go_wp2_with fail
      have kF := kR2.put3 (.int .i64 r) (.slice AI 8 cI) (.slice (some ⟨w1.heap.size, 0, none⟩) 64 64)
      have hBF := below_put3 hB2 (g := w.heap.size) (Nat.le_refl _) (.int .i64 r) (.slice AI 8 cI) (.slice (some ⟨w1.heap.size, 0, none⟩) 64 64)
      have hEF := rdin_put3 hE2 (g := w.heap.size) (by omega) (.int .i64 r) (.slice AI 8 cI) (.slice (some ⟨w1.heap.size, 0, none⟩) 64 64)
      have hAF := rdin_put3 hA2 (g := w.heap.size) (by omega) (.int .i64 r) (.slice AI 8 cI) (.slice (some ⟨w1.heap.size, 0, none⟩) 64 64)
      refine bodyPost_ret (kF.res2 (P := Tryd.prog) rfl _ rfl (by kernel_rfl) (by kernel_rfl)) rfl ⟨_, rfl, ⟨AI, cI, some ⟨w1.heap.size, 0, none⟩, 64, ?_, hAF.1, ?_, hcI⟩, ?_, hBF⟩
      · simp [tabV, hl64]
      · simpa [hl64] using hEF.1
      · intro r' A' n' c' B' m' d' h
        simp only [tabV, Value.agg.injEq, Array.mk.injEq, List.cons.injEq, Value.slice.injEq] at h
        obtain ⟨_, ⟨rfl, rfl, rfl⟩, ⟨rfl, rfl, rfl⟩, _⟩ := h
        exact ⟨fun b off hb e => by have := (hA2.2 b off hb e).1; omega, fun b off hb e => by have := (hE2.2 b off hb e).1; omega⟩
theorem rNew_any (root : Int) (w : World) :
    Calls Tryd.prog 13 #[.int .i64 root] w fun e w' => TbRes w w' (newR root).1 (newR root).2 e := by
  unfold newR
  by_cases h : badF root = 0
  · rw [if_neg (by simp [h])]
    exact rNew_ok root w h
  · rw [if_pos h]
    exact rNew_bad root w h
end Go.Proofs.YtnmknbnidfmmoaaDoor
