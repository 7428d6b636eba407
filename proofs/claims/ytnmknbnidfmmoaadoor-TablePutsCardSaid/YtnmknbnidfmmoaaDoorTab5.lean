/- Page tables: open. -/
import Derived.Test.YtnmknbnidfmmoaaDoorTab4
namespace Go.Proofs.YtnmknbnidfmmoaaDoor
open Go Go.Proofs Go.RowKit
set_option linter.unusedSimpArgs false
set_option linter.unusedVariables false
set_option maxRecDepth 100000

set_option maxHeartbeats 1000000 in
theorem open_bad1 (r : Int) (ls : List Int) (es : List Nat) (v : Value) (page : Int) (w : World) (hv : TbV w v (r, ls, es)) (hs : wsmall es) (hL : LayOK w) (hE : tabE r ls es ≠ 0) :
    Calls Tryd.prog 51 #[v, .int .i64 page] w fun e w' => e = .returned (.tuple #[.agg Tryd.zeroCells69, .int .i64 0, .int .i64 (tabE r ls es)]) ∧ Below w.heap.size w w' := by
  have hd : (tabE r ls es != 0) = true := by simpa using hE
  obtain ⟨A, c, B, d, rfl, hA, hB, hcc⟩ := id hv
  simp only at hA hB hcc
  unfold tabV at hv ⊢
  have kT := (Bk.new w #[.int .i64 r, .slice A ls.length c, .slice B es.length d] 25).alloc (.cells Tryd.zeroCells69 69)
  have kR := Bk.new (w.alloc (.cells #[.int .i64 r, .slice A ls.length c, .slice B es.length d] 25)) Tryd.zeroCells69 69
  have hB2 := balloc (balloc (Below.refl _ w) (.cells #[.int .i64 r, .slice A ls.length c, .slice B es.length d] 25)) (.cells Tryd.zeroCells69 69)
  rw [World.size_alloc] at kR
  generalize hw1 : ((w.alloc (.cells #[.int .i64 r, .slice A ls.length c, .slice B es.length d] 25)).alloc (.cells Tryd.zeroCells69 69)) = w1 at *
  obtain ⟨cT, fT, lT⟩ := kT.facts
  go_enter Tryd.func51, Tryd.ntmps51
  go_wp2_with fail
  refine (TCheck_any r ls es _ _ (hv.to hB2) hs (hL.below hB2)).mono ?_
  rintro e w2 ⟨rfl, hb2⟩
  replace kR := kR.to hb2
  have hst := arr_store kR arr_z73 arr_z73 arr_z1
  have kR2 := kR.row Tryd.zeroCells69
  have hB3 := below_row (bnext hB2 hb2) (Nat.le_succ _) Tryd.zeroCells69
  go_wp2_with fail
  exact bodyPost_ret (kR2.res3 (P := Tryd.prog) rfl _ rfl (by kernel_rfl) (by kernel_rfl)) rfl ⟨rfl, hB3⟩

set_option maxHeartbeats 1000000 in
theorem open_bad2 (r : Int) (ls : List Int) (es : List Nat) (v : Value) (page : Int) (w : World) (hv : TbV w v (r, ls, es)) (hs : wsmall es) (hL : LayOK w) (hE : tabE r ls es = 0) (hp : page < 0 ∨ 64 ≤ page) :
    Calls Tryd.prog 51 #[v, .int .i64 page] w fun e w' => e = .returned (.tuple #[.agg Tryd.zeroCells69, .int .i64 0, .int .i64 2]) ∧ Below w.heap.size w w' := by
  obtain ⟨A, c, B, d, rfl, hA, hB, hcc⟩ := id hv
  simp only at hA hB hcc
  unfold tabV at hv ⊢
  have kT := (Bk.new w #[.int .i64 r, .slice A ls.length c, .slice B es.length d] 25).alloc (.cells Tryd.zeroCells69 69)
  have kR := Bk.new (w.alloc (.cells #[.int .i64 r, .slice A ls.length c, .slice B es.length d] 25)) Tryd.zeroCells69 69
  have hB2 := balloc (balloc (Below.refl _ w) (.cells #[.int .i64 r, .slice A ls.length c, .slice B es.length d] 25)) (.cells Tryd.zeroCells69 69)
  rw [World.size_alloc] at kR
  generalize hw1 : ((w.alloc (.cells #[.int .i64 r, .slice A ls.length c, .slice B es.length d] 25)).alloc (.cells Tryd.zeroCells69 69)) = w1 at *
  obtain ⟨cT, fT, lT⟩ := kT.facts
  go_enter Tryd.func51, Tryd.ntmps51
  go_wp2_with fail
  refine (TCheck_any r ls es _ _ (hv.to hB2) hs (hL.below hB2)).mono ?_
  rw [hE]
  rintro e w2 ⟨rfl, hb2⟩
  replace kR := kR.to hb2
  have hst := arr_store kR arr_z73 arr_z73 arr_z1
  have kR2 := kR.row Tryd.zeroCells69
  have hB3 := below_row (bnext hB2 hb2) (Nat.le_succ _) Tryd.zeroCells69
  go_wp2_with (go_at_call 48; refine (Leaf_bad page _ hp).mono ?_; rintro e w4 ⟨rfl, rfl⟩)
  exact bodyPost_ret (kR2.res3 (P := Tryd.prog) rfl _ rfl (by kernel_rfl) (by kernel_rfl)) rfl ⟨rfl, hB3⟩

set_option maxHeartbeats 1000000 in
theorem open_ok (r : Int) (ls : List Int) (es : List Nat) (v : Value) (p : Nat) (w : World) (hv : TbV w v (r, ls, es)) (hs : wsmall es) (hL : LayOK w) (hE : tabE r ls es = 0) (hp : p < 64) :
    Calls Tryd.prog 51 #[v, .int .i64 p] w fun e w' => e = .returned (.tuple #[.agg (arrL r ls es).toArray, .int .i64 ((p / 8 : Nat) : Int), .int .i64 0]) ∧ Below w.heap.size w w' := by
  obtain ⟨h1, h2, _⟩ := tab_zero hE
  obtain ⟨A, c, B, d, rfl, hA, hB, hcc⟩ := id hv
  simp only at hA hB hcc
  unfold tabV at hv ⊢
  simp only at hv ⊢
  rw [h1, h2] at hv ⊢
  rw [h1] at hA hcc
  rw [h2] at hB
  have kT := (Bk.new w #[.int .i64 r, .slice A 8 c, .slice B 64 d] 25).alloc (.cells Tryd.zeroCells69 69)
  have kR := Bk.new (w.alloc (.cells #[.int .i64 r, .slice A 8 c, .slice B 64 d] 25)) Tryd.zeroCells69 69
  have hB2 := balloc (balloc (Below.refl _ w) (.cells #[.int .i64 r, .slice A 8 c, .slice B 64 d] 25)) (.cells Tryd.zeroCells69 69)
  rw [World.size_alloc] at kR
  generalize hw1 : ((w.alloc (.cells #[.int .i64 r, .slice A 8 c, .slice B 64 d] 25)).alloc (.cells Tryd.zeroCells69 69)) = w1 at *
  obtain ⟨cT, fT, lT⟩ := kT.facts
  go_enter Tryd.func51, Tryd.ntmps51
  go_wp2_with fail
  refine (TCheck_any r ls es _ _ (hv.to hB2) hs (hL.below hB2)).mono ?_
  rw [hE]
  rintro e w2 ⟨rfl, hb2⟩
  replace kR := kR.to hb2
  replace kT := kT.to hb2
  clear cT fT lT hw1
  obtain ⟨cT, fT, lT⟩ := kT.facts
  replace hB2 := bnext hB2 hb2
  clear hb2
  go_upto_region 7 with (go_at_call 48; refine (Leaf_nat p _ hp).mono ?_; rintro e w4 ⟨rfl, rfl⟩)
  go_wp2_with fail
  refine (load_any r A B c d ls es _ h1 h2 (hA.below hB2 (Nat.le_refl _)) (hB.below hB2 (Nat.le_refl _))).mono ?_
  rintro e w3 ⟨rfl, hb3⟩
  replace kR := kR.to hb3
  have hln := arrL_len r ls es h1 h2
  have hst := arr_store kR arr_z73 (arr_73 r ls es h1 h2) (arrL_one r ls es)
  have kR2 := kR.row (arrL r ls es).toArray
  have hB3 := below_row (bnext hB2 hb3) (Nat.le_succ _) (arrL r ls es).toArray
  go_wp2_with fail
  exact bodyPost_ret (kR2.res3 (P := Tryd.prog) rfl _ rfl (by kernel_rfl) (by rw [arr_73 r ls es h1 h2]; kernel_rfl)) rfl ⟨rfl, hB3⟩
end Go.Proofs.YtnmknbnidfmmoaaDoor
