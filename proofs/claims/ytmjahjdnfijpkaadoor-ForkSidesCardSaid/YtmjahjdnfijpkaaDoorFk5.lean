/- fork.entries returns the entries of an address space. -/
import Derived.Test.YtmjahjdnfijpkaaDoorHA
import Derived.Test.YtmjahjdnfijpkaaDoorSpO
import Derived.Test.YtmjahjdnfijpkaaDoorHK
import Derived.Sort.CutIn
namespace Go.Proofs.YtmjahjdnfijpkaaDoor
open Go Go.Proofs Go.RowKit Go.Shelf
set_option linter.unusedSimpArgs false
set_option linter.unusedVariables false
set_option maxRecDepth 100000
attribute [local go_sem] Oper.semAt_some

/-- Between two pages of entries. -/
def EnI (es : List Nat) (P lo : Nat) (w4 : World) (pre : List Pg) (W : World) : Prop := Bk W P (enW (entF es pre)).toArray 86 ∧ Below lo w4 W ∧ w4.heap.size ≤ W.heap.size

set_option maxHeartbeats 4000000 in
theorem fEntries_any (rs : List (Int × Int)) (r : Int) (ls : List Int) (es : List Nat) (v : Value) (w : World) (hv : SpV w v (rs, r, ls, es)) (hs : wsmall es) (hL : LayOK w) (hT : tabE r ls es = 0) :
    Calls Tryd.prog 60 #[v] w fun e w' => e = .returned (.agg (enW (entL es)).toArray) ∧ Below w.heap.size w w' := by
  obtain ⟨A, c, L, cl, B, d, hve, hA, hLs, hB, hcc⟩ := id hv
  subst hve
  unfold spcV at hv ⊢
  simp only at hv ⊢ hA hLs hB hcc
  obtain ⟨h8, h64, _⟩ := tab_zero hT
  rw [h8] at hv hLs hcc ⊢
  rw [h64] at hv hB ⊢
  have hlay : 0 < w.heap.size := hL.lt
  obtain ⟨bB, oB, rfl, hBl, _⟩ := id (hB.2 (by omega))
  have kS := ((Bk.new w #[.slice A rs.length c, .int .i64 r, .slice L 8 cl, .slice (some ⟨bB, oB, none⟩) 64 d] 28).alloc (.cells Tryd.zeroCells86 86)).alloc (.cells Tryd.zeroCells86 86)
  have kR := (Bk.new (w.alloc (.cells #[.slice A rs.length c, .int .i64 r, .slice L 8 cl, .slice (some ⟨bB, oB, none⟩) 64 d] 28)) Tryd.zeroCells86 86).alloc (.cells Tryd.zeroCells86 86)
  have kE := Bk.new ((w.alloc (.cells #[.slice A rs.length c, .int .i64 r, .slice L 8 cl, .slice (some ⟨bB, oB, none⟩) 64 d] 28)).alloc (.cells Tryd.zeroCells86 86)) Tryd.zeroCells86 86
  simp only [World.size_alloc] at kR kE
  have hB1 := balloc (balloc (balloc (Below.refl _ w) (.cells #[.slice A rs.length c, .int .i64 r, .slice L 8 cl, .slice (some ⟨bB, oB, none⟩) 64 d] 28)) (.cells Tryd.zeroCells86 86)) (.cells Tryd.zeroCells86 86)
  generalize hw1 : ((w.alloc (.cells #[.slice A rs.length c, .int .i64 r, .slice L 8 cl, .slice (some ⟨bB, oB, none⟩) 64 d] 28)).alloc (.cells Tryd.zeroCells86 86)).alloc (.cells Tryd.zeroCells86 86) = w1 at *
  obtain ⟨cS, fS, lS⟩ := kS.facts
  have hF : ∀ f, Fence.wide.fn f := fun _ => trivial
  refine (callsIn_wide (n := 4)).1 ?_
  refine callsIn_of_wp_marks Tryd.func60 rfl trivial ?_ rfl
  simp only [Tryd.ntmps60, List.size_toArray, List.length_cons, List.length_nil, Nat.reduceAdd, Nat.reduceSub, Array.replicate_succ, Array.replicate_zero, List.push_toArray, List.append_toArray, List.nil_append, List.cons_append]
  gi_wp2_with fail
  refine (both_in Fence.wide 3 trivial rfl w1 _ _ _ _ _ _ _ _).mono ?_
  rintro e w' ⟨rfl, rfl⟩
  have kA := (Bk.new w1 #[.slice A rs.length c, .int .i64 r, .slice L 8 cl, .slice (some ⟨bB, oB, none⟩) 64 d] 28).alloc (.cells #[.slice A rs.length c, .int .i64 r, .slice L 8 cl, .slice (some ⟨bB, oB, none⟩) 64 d] 28)
  have kB := Bk.new (w1.alloc (.cells #[.slice A rs.length c, .int .i64 r, .slice L 8 cl, .slice (some ⟨bB, oB, none⟩) 64 d] 28)) #[.slice A rs.length c, .int .i64 r, .slice L 8 cl, .slice (some ⟨bB, oB, none⟩) 64 d] 28
  simp only [World.size_alloc] at kB
  have hB4 := balloc (balloc (Below.refl _ w1) (.cells #[.slice A rs.length c, .int .i64 r, .slice L 8 cl, .slice (some ⟨bB, oB, none⟩) 64 d] 28)) (.cells #[.slice A rs.length c, .int .i64 r, .slice L 8 cl, .slice (some ⟨bB, oB, none⟩) 64 d] 28)
  have hs4 : ((w1.alloc (.cells #[.slice A rs.length c, .int .i64 r, .slice L 8 cl, .slice (some ⟨bB, oB, none⟩) 64 d] 28)).alloc (.cells #[.slice A rs.length c, .int .i64 r, .slice L 8 cl, .slice (some ⟨bB, oB, none⟩) 64 d] 28)).heap.size = w1.heap.size + 2 := by simp
  generalize (w1.alloc (.cells #[.slice A rs.length c, .int .i64 r, .slice L 8 cl, .slice (some ⟨bB, oB, none⟩) 64 d] 28)).alloc (.cells #[.slice A rs.length c, .int .i64 r, .slice L 8 cl, .slice (some ⟨bB, oB, none⟩) 64 d] 28) = w4 at *
  have hE1 : w.heap.size + 1 + 1 < w1.heap.size := kE.lt
  have hB14 := bnext hB1 hB4
  have kE4 := kE.to hB4
  have kR4 := kR.to hB4
  rw [en_zero] at kE4
  have hL4 := hL.below hB14
  have hB4' := hB.below hB14 (Nat.le_refl _)
  clear cS fS lS hw1 kS kR kE
  gi_wp2_with fail
  refine wpIn_rangeFunc_ownH rfl (by omega) (gf := 81) (lb := #[.pointer (some ⟨w1.heap.size, 0, none⟩), .pointer (some ⟨w1.heap.size + 1, 0, none⟩)]) rfl trivial (enters_of Tryd.func81 (by kernel_rfl) rfl)
    (both_stops w1.heap.size (w1.heap.size + 1) (some ⟨bB, oB, none⟩) (some ⟨bB, oB, none⟩) d d r r ls ls es es hT hs hT hs _ hL4 hB4' hB4' (kA.cell 3) (kB.cell 3)) keepF_t (keepF_b (w := w4) (by omega) (by omega) (fun b o p e => by injection e with e; injection e with e; omega) (by omega) (fun b o p e => by injection e with e; injection e with e; omega)) (Below.refl _ _) (fun _ => rfl)
    (EnI es (w.heap.size + 1 + 1) (w.heap.size + 1 + 1) w4) (fun _ _ _ => False) ?hI ?hIx ?h0
    (fun x a' W => ∃ q, Bk W q (pairA x.1 (entP es x.1.toNat) (entP es x.1.toNat)) 92 ∧ w4.heap.size ≤ q ∧ a' = { tmps := #[.agg #[.slice A rs.length c, .int .i64 r, .slice L 8 cl, .slice (some ⟨bB, oB, none⟩) 64 d], .pointer (some ⟨w.heap.size, 0, none⟩), .pointer (some ⟨w.heap.size + 1, 0, none⟩), .pointer (some ⟨w.heap.size + 1 + 1, 0, none⟩), .pointer (some ⟨q, 0, none⟩), .agg #[.slice A rs.length c, .int .i64 r, .slice L 8 cl, .slice (some ⟨bB, oB, none⟩) 64 d], .agg #[.slice A rs.length c, .int .i64 r, .slice L 8 cl, .slice (some ⟨bB, oB, none⟩) 64 d], .func (.func 81) #[] #[.pointer (some ⟨w1.heap.size, 0, none⟩), .pointer (some ⟨w1.heap.size + 1, 0, none⟩)], pairV x.1 (entP es x.1.toNat) (entP es x.1.toNat), undef, undef, undef, undef, undef, undef], defers := [] }) ?hAx ?assign ?body ?done ?stop
  case hI => exact OwnFrom.and (bk_ownF (f := fun pre => (enW (entF es pre)).toArray)) (OwnFrom.and (ownFrom_below (by omega) (by omega)) (fun _ _ _ _ hs hg _ => Nat.le_trans hs hg.size))
  case hIx => exact fun _ _ _ _ _ hs _ _ => hs
  case h0 => exact ⟨kE4, Below.refl _ _, Nat.le_refl _⟩
  case hAx => exact fun x a' _ W W' row ⟨q, h1, h2⟩ hg hr => ⟨q, bk_own () W W' row h1 hg hr, h2⟩
  case assign =>
    intro l pre x W K hi hK
    unfold pairV pairA at hK ⊢
    gi_wp2
    exact hK _ _ (keepsFrom_below (balloc (Below.refl _ _) _)) (keepF_of (balloc (Below.refl _ _) _) (by have := hi.2.2; omega) (by have := hi.2.2; omega) (by have := hi.2.2; omega) (by have := hi.2.2; omega) (by have := hi.2.2; omega)) ⟨hi.1.alloc _, hi.2.1.alloc (by have := hi.2.2; omega) _, by rw [World.size_alloc]; have := hi.2.2; omega⟩ ⟨_, Bk.new _ _ _, hi.2.2, rfl⟩
  case body =>
    rintro l pre ⟨x, hx0, hx1⟩ a' W hl _ ⟨kEW, hbW, hsW⟩ ⟨q, kq, hq, rfl⟩ hlen
    obtain ⟨p, rfl⟩ : ∃ p : Nat, x = p := ⟨x.toNat, by omega⟩
    simp only [Int.toNat_natCast] at kq ⊢
    have hsn := entF_snoc es pre ⟨(p : Int), hx0, hx1⟩
    simp only [Int.toNat_natCast] at hsn
    have hm := entF_len es pre
    generalize entP es p = ee at *
    obtain ⟨k1, n1, a1, b1, c1⟩ := ee
    unfold pairV pairA
    unfold pairA at kq
    simp only at kq ⊢
    have hp64 : (p : Int) < 64 := hx1
    have Hsn := Lib.hid hsn
    clear hsn
    have hcs : ∀ j, j < 5 → ∃ u, W.cell? ⟨w.heap.size + 1 + 1, p * 5 + j, none⟩ = some u := fun j hj => ⟨_, by
      rw [kEW.cell, List.getElem?_toArray]
      exact List.getElem?_eq_getElem (by rw [enW_len, hm]; omega)⟩
    obtain ⟨v0, e0⟩ := hcs 0 (by omega)
    obtain ⟨v1, e1⟩ := hcs 1 (by omega)
    obtain ⟨v2, e2⟩ := hcs 2 (by omega)
    obtain ⟨v3, e3⟩ := hcs 3 (by omega)
    obtain ⟨v4, e4⟩ := hcs 4 (by omega)
    replace e0 : W.cell? ⟨w.heap.size + 1 + 1, p * 5, none⟩ = some v0 := e0
    have fP := kEW.frozen
    clear hcs
    obtain ⟨cQ, fQ, lQ⟩ := kq.facts
    gi_wp2
    have kF := ((((kEW.put (p * 5) (.int .i64 k1)).put (p * 5 + 1) (.int .i64 n1)).put (p * 5 + 2) (.bool a1)).put (p * 5 + 3) (.bool b1)).put (p * 5 + 4) (.bool c1)
    have hp5 := put5_en (entF es pre) p (k1, n1, a1, b1, c1) (by omega)
    unfold put5A at hp5
    simp only at hp5
    rw [hp5, ← Hsn.out] at kF
    exact ⟨(keeps_put5 _ _ _ _ _ _ _ _ _ _ _ _).from _, keepF_ne (heap_put5 _ _ _ _ _ _ _ _ _ _ _ _) (by omega) (by omega) (by omega) (by omega) (by omega), kF, below_put5o hbW (Nat.le_refl _) _ _ _ _ _ _ _ _ _ _, by simpa using hsW⟩
  case done =>
    rintro D ys W hD rfl ⟨kEW, hbW, hsW⟩ hK
    rw [entF_entL] at kEW
    have kRW : Bk W (w.heap.size + 1) Tryd.zeroCells86 86 := (hbW.block (w.heap.size + 1) (by omega)).trans kR4
    have hln := entL_len es
    generalize hgl : entL es = l at *
    have Hgl := Lib.hid hgl
    clear hgl
    gi_upto_region 5 with fail
    refine wpIn_wide.2 ?_
    have hsz := en_320 l hln
    apply wp_region_lit
    refine wpList_load_en hln kEW rfl _ rfl rfl ?_
    go_frame
    refine wpList_store_row rfl 86 _ _ rfl (w.heap.size + 1) (enW l).toArray rfl rfl 86 Tryd.zeroCells86 kRW (by rw [hsz]; kernel_rfl) (by rw [hsz]; kernel_rfl) (en_one l) ?_
    have kF := kRW.row (enW l).toArray
    have hlt1 := kRW.lt
    have hDW : D < W.heap.size := (Array.getElem?_eq_some_iff.1 hK).1
    have hK2 : (W.setRow (w.heap.size + 1) (enW l).toArray).heap[D]? = some (.deferred (some [])) := (setRow_other W (w.heap.size + 1) D _ (by omega)).trans hK
    have hBF : Below w.heap.size w (W.setRow (w.heap.size + 1) (enW l).toArray) := below_row (hB14.trans (hbW.mono (by omega))) (Nat.le_succ _) _
    generalize W.setRow (w.heap.size + 1) (enW l).toArray = W2 at *
    go_frame
    refine wpList_nil ?_
    simp only [Exit.then]
    go_at_K
    gi_wp2
    refine ⟨by simp, .inl ⟨_, _, rfl, run_takeDeferred hK2, ?_⟩⟩
    have kF2 := bk_own (B := w.heap.size + 2) () _ _ (some D) kF (grownBy_putObj' _ D (.deferred none)) (fun q e => by cases e; exact ⟨by omega, _, hK2, rfl⟩)
    exact ⟨_, kF2.res1 (P := Tryd.prog) rfl _ rfl (by kernel_rfl) (by rw [hsz]; kernel_rfl), by rw [Hgl.out], hBF.trans (belowK_b (w := w) (Nat.le_refl _) _ D _ _ (by omega) hK2 rfl rfl)⟩
  case stop => exact fun D c pre W _ _ h _ => h.elim
end Go.Proofs.YtmjahjdnfijpkaaDoor
