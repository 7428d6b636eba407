/- Page tables: Counts. -/
import Derived.Test.YtnmknbnidfmmoaaDoorTab12
import Derived.Deep.RegionHeld3
namespace Go.Proofs.YtnmknbnidfmmoaaDoor
open Go Go.Proofs Go.RowKit
set_option linter.unusedSimpArgs false
set_option linter.unusedVariables false
set_option maxRecDepth 100000

set_option maxHeartbeats 1000000 in
theorem TCounts_bad (r : Int) (ls : List Int) (es : List Nat) (v : Value) (w : World) (hv : TbV w v (r, ls, es)) (hs : wsmall es) (hL : LayOK w) (hE : tabE r ls es ≠ 0) :
    Calls Tryd.prog 26 #[v] w fun e w' => e = .returned (.tuple #[.int .i64 0, .int .i64 0, .int .i64 (tabE r ls es)]) ∧ Below w.heap.size w w' := by
  obtain ⟨A, c, B, d, rfl, hA, hB, hcc⟩ := id hv
  simp only at hA hB hcc
  unfold tabV at hv ⊢
  simp only at hv ⊢
  have kT := (Bk.new (w) #[.int .i64 r, .slice A ls.length c, .slice B es.length d] 25)
  have hB1 := balloc (Below.refl _ w) (.cells #[.int .i64 r, .slice A ls.length c, .slice B es.length d] 25)
  generalize hw_w1 : w.alloc (.cells #[.int .i64 r, .slice A ls.length c, .slice B es.length d] 25) = w1 at *
  have hd : (tabE r ls es != 0) = true := by simpa using hE
  obtain ⟨cT, fT, lT⟩ := kT.facts
  go_enter Tryd.func26, Tryd.ntmps26
  go_wp2_with fail
  refine (TCheck_any r ls es _ _ (hv.to hB1) hs (hL.below hB1)).mono ?_
  rintro e w2 ⟨rfl, hb2⟩
  go_wp2_with fail
  go_ret3
  exact ⟨rfl, bnext hB1 hb2⟩

set_option maxHeartbeats 8000000 in
theorem TCounts_ok (r : Int) (ls : List Int) (es : List Nat) (v : Value) (z1 z2 : List Int) (w : World) (hv : TbV w v (r, ls, es)) (hs : wsmall es) (hL : LayOK w) (hE : tabE r ls es = 0) (hz1 : kinL es 1 64 = z1) (hz2 : kinL es 2 64 = z2) :
    Calls Tryd.prog 26 #[v] w fun e w' => e = .returned (.tuple #[.int .i64 z1.length, .int .i64 z2.length, .int .i64 0]) ∧ Below w.heap.size w w' := by
  have HF1 := Lib.hid (fun W hv hL => TFind_ok r ls es v 1 W hv hs hL hE)
  have HF2 := Lib.hid (fun W hv hL => TFind_ok r ls es v 2 W hv hs hL hE)
  rw [hz1] at HF1
  rw [hz2] at HF2
  clear hz1 hz2
  obtain ⟨h1, h2, hR, hLs, hDu, hSt, hUn, hMi⟩ := tab_zero hE
  obtain ⟨A, c, B, d, rfl, hA, hB, hcc⟩ := id hv
  simp only at hA hB hcc
  unfold tabV at hv HF1 HF2 ⊢
  simp only at hv HF1 HF2 ⊢
  rw [h1, h2] at hv HF1 HF2 ⊢
  rw [h1] at hA hcc
  rw [h2] at hB
  have kT := (Bk.new (w) #[.int .i64 r, .slice A 8 c, .slice B 64 d] 25)
  have hB1 := balloc (Below.refl _ w) (.cells #[.int .i64 r, .slice A 8 c, .slice B 64 d] 25)
  generalize hw_w1 : w.alloc (.cells #[.int .i64 r, .slice A 8 c, .slice B 64 d] 25) = w1 at *
  obtain ⟨cT, fT, lT⟩ := kT.facts
  go_enter Tryd.func26, Tryd.ntmps26
  go_wp2_with fail
  refine (TCheck_any r ls es _ _ (hv.to hB1) hs (hL.below hB1)).mono ?_
  rw [hE]
  rintro e w2 ⟨rfl, hb2⟩
  replace kT := kT.to hb2
  replace hB1 := bnext hB1 hb2
  clear cT fT lT
  obtain ⟨cT, fT, lT⟩ := kT.facts
  go_wp2_with fail
  have c0 := cT 0
  have c1 := cT 1
  have c2 := cT 2
  simp at c0 c1 c2
  clear cT
  go_region_held3 (fun w' => w'.cell? ⟨w.heap.size, 0, none⟩ = some (.int .i64 r) ∧ w'.cell? ⟨w.heap.size, 1, none⟩ = some (.slice A 8 c) ∧ w'.cell? ⟨w.heap.size, 2, none⟩ = some (.slice B 64 d))
    (refine ⟨?_, ?_, ?_⟩ <;> (repeat (with_reducible first | exact c0 | exact c1 | exact c2 | refine cell_drew ?_ | refine cell_later hb4 ?_ | refine cell_later hb3 ?_)))
    (first
      | (go_at_call 53; refine (HF2.out _ (hv.to (bnext (below_drew hB1) hb3)) (hL.below (bnext (below_drew hB1) hb3))).mono ?_; rintro e w4 ⟨v4, rfl, ⟨A4, c4, rfl, hr4⟩, hb4⟩)
      | (go_at_call 53; refine (HF1.out _ (hv.to (below_drew hB1)) (hL.below (below_drew hB1))).mono ?_; rintro e w3 ⟨v3, rfl, ⟨A3, c3, rfl, hr3⟩, hb3⟩))
  go_wp2
  go_ret3
  exact ⟨rfl, bnext (bnext (below_drew hB1) hb3) hb4⟩

theorem TCounts_any (r : Int) (ls : List Int) (es : List Nat) (v : Value) (w : World) (hv : TbV w v (r, ls, es)) (hs : wsmall es) (hL : LayOK w) :
    Calls Tryd.prog 26 #[v] w fun e w' => e = .returned (.tuple #[.int .i64 (cntR r ls es).1, .int .i64 (cntR r ls es).2.1, .int .i64 (cntR r ls es).2.2]) ∧ Below w.heap.size w w' := by
  unfold cntR
  by_cases h : tabE r ls es = 0
  · rw [if_neg (by simp [h])]
    exact TCounts_ok r ls es v _ _ w hv hs hL h rfl rfl
  · rw [if_pos h]
    exact TCounts_bad r ls es v w hv hs hL h
end Go.Proofs.YtnmknbnidfmmoaaDoor
