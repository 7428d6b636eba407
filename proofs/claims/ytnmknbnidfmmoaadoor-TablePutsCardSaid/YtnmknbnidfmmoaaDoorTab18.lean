/- Page tables: New. -/
import Derived.Test.YtnmknbnidfmmoaaDoorTab17
namespace Go.Proofs.YtnmknbnidfmmoaaDoor
open Go Go.Proofs Go.RowKit
set_option linter.unusedSimpArgs false
set_option linter.unusedVariables false
set_option maxRecDepth 100000

theorem arr_built1 (r : Int) : Tryd.prog.built 69 [(0, .int .i64 r)] = some (arrL r (List.replicate 8 0) (List.replicate 64 0)).toArray := by
  rw [arr_fill, arr_zero]
  have e1 := fill_one ((#[(0, 1), (1, 8), (9, 64)] : Array (Nat × Nat))[·]?) 0 0 (.int .i64 r) [.int .i64 r] [] [.int .i64 0] (iw (List.replicate 8 0) ++ uw (List.replicate 64 0)) [] rfl rfl rfl rfl
  simp only [List.append_nil, List.nil_append, List.append_assoc, List.singleton_append, List.cons_append] at e1
  simp only [arrL]
  rw [e1]
  simp [Instr.fill]
/-- The leaves of a new table after k rounds. -/
def newL (k : Nat) : List Int := (List.range 8).map fun j => if j < k then -1 else 0
theorem newL_succ : ∀ k, k < 8 → (newL k).set k (-1) = newL (k + 1) := by decide
theorem newL_len (k : Nat) : (newL k).length = 8 := by simp [newL]
theorem newL_8 : newL 8 = List.replicate 8 (-1) := by decide
theorem newL_0 : newL 0 = List.replicate 8 0 := by decide

set_option maxHeartbeats 1000000 in
theorem TNew_bad (root : Int) (w : World) (h : badF root ≠ 0) :
    Calls Tryd.prog 12 #[.int .i64 root] w fun e w' => TbRes w w' tb0 2 e := by
  have hr : root < -1 ∨ 256 ≤ root := by unfold badF at h; split at h <;> simp_all
  have d1 : (root != -1) = true := by simp; omega
  have kR := Bk.new w #[.int .i64 0, .slice none 0 0, .slice none 0 0] 25
  have hB1 := balloc (Below.refl _ w) (.cells #[.int .i64 0, .slice none 0 0, .slice none 0 0] 25)
  generalize hw1 : w.alloc (.cells #[.int .i64 0, .slice none 0 0, .slice none 0 0] 25) = w1 at *
  obtain ⟨cR, fR, lR⟩ := kR.facts
  go_enter Tryd.func12, Tryd.ntmps12
  go_wp2_with (go_at_call 43; refine (isFrame_f root _ (by omega)).mono ?_; rintro e w' ⟨rfl, rfl⟩)
  have kF := kR.put3 (.int .i64 0) (.slice none 0 0) (.slice none 0 0)
  have hBF := below_put3 hB1 (g := w.heap.size) (Nat.le_refl _) (.int .i64 0) (.slice none 0 0) (.slice none 0 0)
  exact bodyPost_ret (kF.res2 (P := Tryd.prog) rfl _ rfl (by kernel_rfl) (by kernel_rfl)) rfl ⟨_, rfl, TbV.zero _, TLoc.zero _ _, hBF⟩

set_option maxHeartbeats 1000000 in
theorem TNew_ok (r : Int) (w : World) (h : badF r = 0) :
    Calls Tryd.prog 12 #[.int .i64 r] w fun e w' => TbRes w w' (r, List.replicate 8 (-1), List.replicate 64 0) 0 e := by
  have hr := badF_zero h
  have hr2 : (r != -1) = false ∨ (r != -1) = true ∧ 0 ≤ r ∧ r < 256 := by
    by_cases h : r = -1
    · left; simp [h]
    · right; exact ⟨by simpa using h, by omega, by omega⟩
  clear h hr
  have kR := Bk.new w #[.int .i64 0, .slice none 0 0, .slice none 0 0] 25
  have hB1 := balloc (Below.refl _ w) (.cells #[.int .i64 0, .slice none 0 0, .slice none 0 0] 25)
  generalize hw1 : w.alloc (.cells #[.int .i64 0, .slice none 0 0, .slice none 0 0] 25) = w1 at *
  have h64 : (List.replicate 64 (0 : Nat)).length = 64 := by decide
  have h80 : (List.replicate 8 (0 : Int)).length = 8 := by decide
  have hsw : w.heap.size < w1.heap.size := kR.lt
  have he : Tryd.zeroCells69.toList.set 0 (.int .i64 r) = arrL r (List.replicate 8 0) (List.replicate 64 0) := by rw [arr_zero]; rfl
  have hst : ∀ W : World, (storeCells ⟨W.heap.size, 0, none⟩ (Tryd.zeroCells69.toList.set 0 (.int .i64 r)) 0).run Tryd.prog (W.alloc (.cells Tryd.zeroCells69 69)) = .ok () (W.alloc (.cells (arrL r (newL 0) (List.replicate 64 0)).toArray 69)) := fun W => by
    rw [he, newL_0]
    exact arr_store0 (arr_73 r _ _ h80 h64) (arrL_one r _ _) W
  have hz : Tryd.zeroCells69.size = 73 := arr_z73
  have H8 := Lib.hid newL_8
  obtain ⟨z64, hz64⟩ : ∃ z, z = List.replicate 64 (0 : Nat) := ⟨_, rfl⟩
  obtain ⟨l8, hl8⟩ : ∃ z, z = List.replicate 8 (-1 : Int) := ⟨_, rfl⟩
  rw [← hz64] at hst h64 ⊢
  rw [← hl8] at H8 ⊢
  clear hz64 he hl8
  rcases hr2 with hr2 | ⟨hr2, hr3, hr4⟩
  all_goals
    go_enter Tryd.func12, Tryd.ntmps12
    go_upto_region 4 with (go_at_call 43; refine (isFrame_t r _ hr3 hr4).mono ?_; rintro e w' ⟨rfl, rfl⟩)
    have kA := Bk.new w1 (arrL r (newL 0) z64).toArray 69
    have hB2 := balloc hB1 (.cells (arrL r (newL 0) z64).toArray 69)
    replace kR := kR.alloc (.cells (arrL r (newL 0) z64).toArray 69)
    generalize hw2 : w1.alloc (.cells (arrL r (newL 0) z64).toArray 69) = w2 at *
    clear hst hw1
    go_wp2_with fail
    go_loopw [16] (fun i wr => ∃ k : Nat, k ≤ 8 ∧ i = .int .i64 k ∧ Bk wr w1.heap.size (arrL r (newL k) z64).toArray 69 ∧ Below w1.heap.size w2 wr) (fun i _ => 8 - (intOf i).toNat)
    case atStart => exact ⟨0, by omega, rfl, kA, Below.refl _ _⟩
    case round =>
      obtain ⟨k, hk, rfl, kAk, hBx⟩ := hrel
      by_cases hlt : k < 8
      · have cl := arr_leaf (newL_len k) kAk hlt
        have fl := kAk.frozen (1 + k)
        have lA := kAk.lt
        have hqI : (k : Int) < 8 := by omega
        have kA2 := kAk.put (1 + k) (.int .i64 (-1))
        rw [arr_setleaf (newL_len k) k hlt (-1), newL_succ k hlt] at kA2
        have hB3 := hBx.setCell (p := ⟨w1.heap.size, 1 + k, none⟩) (Nat.le_refl _) (.int .i64 (-1))
        go_wp2_with fail
        go_roundw
        case rel => exact ⟨k + 1, by omega, by go_num, kA2, hB3⟩
        case measure => simp [intOf]; omega
      · obtain rfl : k = 8 := by omega
        have kR2 : Bk wr w.heap.size _ _ := kR.below hBx hsw
        have hB3 : Below w.heap.size w wr := hB2.trans (hBx.mono (by omega))
        have h1' : l8.length = 8 := by rw [← H8.out]; exact newL_len 8
        rw [H8.out] at kAk
        go_upto_region 9 with fail
        apply wp_region_lit
        refine wpList_load_arr h1' h64 kAk rfl _ rfl rfl ?_
        go_frame
        go_wp2_with fail
        refine (table_any r l8 z64 _ h1' h64).mono ?_
        rintro e w6 ⟨rfl, kB, hb6⟩
        have hw5 : w.heap.size < wr.heap.size := kR2.lt
        replace kR2 := kR2.to hb6
        replace hB3 := hB3.trans (hb6.mono hB3.size)
        obtain ⟨cR, fR, lR⟩ := kR2.facts
        go_wp2_with fail
        have kF := kR2.put3 (.int .i64 r) (.slice (some ⟨wr.heap.size, 1, none⟩) 8 8) (.slice (some ⟨wr.heap.size, 9, none⟩) 64 64)
        have kB2 := kB.far3 (g := w.heap.size) (by omega) (.int .i64 r) (.slice (some ⟨wr.heap.size, 1, none⟩) 8 8) (.slice (some ⟨wr.heap.size, 9, none⟩) 64 64)
        have hBF := below_put3 hB3 (g := w.heap.size) (Nat.le_refl _) (.int .i64 r) (.slice (some ⟨wr.heap.size, 1, none⟩) 8 8) (.slice (some ⟨wr.heap.size, 9, none⟩) 64 64)
        exact bodyPost_ret (kF.res2 (P := Tryd.prog) rfl _ rfl (by kernel_rfl) (by kernel_rfl)) rfl ⟨_, rfl, arr_tbv h1' h64 kB2, TLoc.arr (by omega) _, hBF⟩
theorem TNew_any (root : Int) (w : World) :
    Calls Tryd.prog 12 #[.int .i64 root] w fun e w' => TbRes w w' (newR root).1 (newR root).2 e := by
  unfold newR
  by_cases h : badF root = 0
  · rw [if_neg (by simp [h])]
    exact TNew_ok root w h
  · rw [if_pos h]
    exact TNew_bad root w h
end Go.Proofs.YtnmknbnidfmmoaaDoor
