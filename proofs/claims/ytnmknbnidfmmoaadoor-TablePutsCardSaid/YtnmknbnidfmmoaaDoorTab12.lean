/- Page tables: Pages, Counts. -/
import Derived.Test.YtnmknbnidfmmoaaDoorTab11
import Derived.Deep.RegionHeld3
namespace Go.Proofs.YtnmknbnidfmmoaaDoor
open Go Go.Proofs Go.RowKit
set_option linter.unusedSimpArgs false
set_option linter.unusedVariables false
set_option maxRecDepth 100000

set_option maxHeartbeats 1000000 in
theorem TPages_bad1 (r : Int) (ls : List Int) (es : List Nat) (v : Value) (kd : Int) (w : World) (hv : TbV w v (r, ls, es)) (hs : wsmall es) (hL : LayOK w) (hE : tabE r ls es ≠ 0) :
    Calls Tryd.prog 23 #[v, .int .i64 kd] w fun e w' => IsRes w w' [] (tabE r ls es) e := by
  obtain ⟨A, c, B, d, rfl, hA, hB, hcc⟩ := id hv
  simp only at hA hB hcc
  unfold tabV at hv ⊢
  simp only at hv ⊢
  have kT := (Bk.new (w) #[.int .i64 r, .slice A ls.length c, .slice B es.length d] 25)
  have hB1 := balloc (Below.refl _ w) (.cells #[.int .i64 r, .slice A ls.length c, .slice B es.length d] 25)
  generalize hw_w1 : w.alloc (.cells #[.int .i64 r, .slice A ls.length c, .slice B es.length d] 25) = w1 at *
  have hd : (tabE r ls es != 0) = true := by simpa using hE
  obtain ⟨cT, fT, lT⟩ := kT.facts
  go_enter Tryd.func23, Tryd.ntmps23
  go_wp2_with fail
  refine (TCheck_any r ls es _ _ (hv.to hB1) hs (hL.below hB1)).mono ?_
  rintro e w2 ⟨rfl, hb2⟩
  go_wp2_with fail
  go_ret2
  exact ⟨_, rfl, IsV.nil _, bnext hB1 hb2⟩

set_option maxHeartbeats 1000000 in
theorem TPages_bad2 (r : Int) (ls : List Int) (es : List Nat) (v : Value) (kd : Int) (w : World) (hv : TbV w v (r, ls, es)) (hs : wsmall es) (hL : LayOK w) (hE : tabE r ls es = 0) (hk : kd < 0 ∨ 2 < kd) :
    Calls Tryd.prog 23 #[v, .int .i64 kd] w fun e w' => IsRes w w' [] 2 e := by
  obtain ⟨h1, h2, hR, hLs, hDu, hSt, hUn, hMi⟩ := tab_zero hE
  obtain ⟨A, c, B, d, rfl, hA, hB, hcc⟩ := id hv
  simp only at hA hB hcc
  unfold tabV at hv ⊢
  simp only at hv ⊢
  rw [h1, h2] at hv ⊢
  rw [h1] at hA hcc
  rw [h2] at hB
  have kT := (Bk.new (w) #[.int .i64 r, .slice A 8 c, .slice B 64 d] 25)
  have hB1 := balloc (Below.refl _ w) (.cells #[.int .i64 r, .slice A 8 c, .slice B 64 d] 25)
  generalize hw_w1 : w.alloc (.cells #[.int .i64 r, .slice A 8 c, .slice B 64 d] 25) = w1 at *
  have d0 : (kd != 0) = true := by simp; omega
  have d1 : (kd != 1) = true := by simp; omega
  have d2 : (kd != 2) = true := by simp; omega
  obtain ⟨cT, fT, lT⟩ := kT.facts
  go_enter Tryd.func23, Tryd.ntmps23
  go_wp2_with fail
  refine (TCheck_any r ls es _ _ (hv.to hB1) hs (hL.below hB1)).mono ?_
  rw [hE]
  rintro e w2 ⟨rfl, hb2⟩
  replace kT := kT.to hb2
  replace hB1 := bnext hB1 hb2
  clear cT fT lT
  obtain ⟨cT, fT, lT⟩ := kT.facts
  go_wp2_with fail
  go_ret2
  exact ⟨_, rfl, IsV.nil _, hB1⟩

set_option maxHeartbeats 1000000 in
theorem TPages_ok (r : Int) (ls : List Int) (es : List Nat) (v : Value) (kd : Int) (w : World) (hv : TbV w v (r, ls, es)) (hs : wsmall es) (hL : LayOK w) (hE : tabE r ls es = 0) (hk : kd = 0 ∨ kd = 1 ∨ kd = 2) :
    Calls Tryd.prog 23 #[v, .int .i64 kd] w fun e w' => IsRes w w' (kinL es kd 64) 0 e := by
  obtain ⟨h1, h2, hR, hLs, hDu, hSt, hUn, hMi⟩ := tab_zero hE
  obtain ⟨A, c, B, d, rfl, hA, hB, hcc⟩ := id hv
  simp only at hA hB hcc
  unfold tabV at hv ⊢
  simp only at hv ⊢
  rw [h1, h2] at hv ⊢
  rw [h1] at hA hcc
  rw [h2] at hB
  have kT := (Bk.new (w) #[.int .i64 r, .slice A 8 c, .slice B 64 d] 25)
  have hB1 := balloc (Below.refl _ w) (.cells #[.int .i64 r, .slice A 8 c, .slice B 64 d] 25)
  generalize hw_w1 : w.alloc (.cells #[.int .i64 r, .slice A 8 c, .slice B 64 d] 25) = w1 at *
  obtain ⟨cT, fT, lT⟩ := kT.facts
  rcases hk with rfl | rfl | rfl
  all_goals
    go_enter Tryd.func23, Tryd.ntmps23
    go_wp2_with fail
    refine (TCheck_any r ls es _ _ (hv.to hB1) hs (hL.below hB1)).mono ?_
    rw [hE]
    rintro e w2 ⟨rfl, hb2⟩
    replace kT := kT.to hb2
    replace hB1 := bnext hB1 hb2
    clear cT fT lT
    obtain ⟨cT, fT, lT⟩ := kT.facts
    go_wp2_with fail
    refine (TFind_ok r ls es _ _ _ (hv.to hB1) hs (hL.below hB1) hE).mono ?_
    rintro e w3 ⟨v3, rfl, hi3, hb3⟩
    go_wp2_with fail
    go_ret2
    exact ⟨_, rfl, hi3, bnext hB1 hb3⟩

theorem TPages_any (r : Int) (ls : List Int) (es : List Nat) (v : Value) (kd : Int) (w : World) (hv : TbV w v (r, ls, es)) (hs : wsmall es) (hL : LayOK w) :
    Calls Tryd.prog 23 #[v, .int .i64 kd] w fun e w' => IsRes w w' (pagR r ls es kd).1 (pagR r ls es kd).2 e := by
  unfold pagR
  by_cases h : tabE r ls es = 0
  · rw [if_neg (by simp [h])]
    by_cases hk : kd < 0 ∨ 2 < kd
    · rw [if_pos hk]
      exact TPages_bad2 r ls es v kd w hv hs hL h hk
    · rw [if_neg hk]
      exact TPages_ok r ls es v kd w hv hs hL h (by omega)
  · rw [if_pos h]
    exact TPages_bad1 r ls es v kd w hv hs hL h

end Go.Proofs.YtnmknbnidfmmoaaDoor
