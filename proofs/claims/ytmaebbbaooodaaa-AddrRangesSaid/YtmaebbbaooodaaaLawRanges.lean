/- AddrRanges returns true for every two ranges and every list. -/
import Derived.Test.YtmaebbbaooodaaaAwake03
import Derived.Test.YtmaebbbaooodaaaRef03
import Derived.Deep.RegionHeld3
namespace Go.Proofs.Ytmaebbbaooodaaa
open Go Go.Proofs Go.RowKit

set_option maxRecDepth 100000 in
set_option maxHeartbeats 2000000 in
theorem AddrRanges_true (a b c d : Int) (A : Option Addr) (n k : Nat) (rs : List (Int × Int)) (w : World) (hn : n ≤ 9223372036854775807) (hr : Rd w 2 A n (flat2 .i64 rs)) :
    Calls Try.prog 7 #[.agg #[.int .i64 a, .int .i64 b], .agg #[.int .i64 c, .int .i64 d], .slice A n k] w fun e w' => e = .returned (.bool true) ∧ Below w.heap.size w w' := by
  by_cases hbig : 70 < n
  · go_enter Try.func7, Try.ntmps7
    clear hr
    go_wp2_with (go_at_call 11; refine (awake_true _).mono ?_; rintro e w5 ⟨rfl, hb5⟩)
    go_ret
    exact ⟨rfl, by (repeat' (first | exact Below.refl _ _ | assumption | refine balloc ?_ _ | refine below_drawn ?_ _ | refine below_drew ?_ | refine bnext ?_ hb24 | refine bnext ?_ hb23 | refine bnext ?_ hb22 | refine bnext ?_ hb21 | refine bnext ?_ hb20 | refine bnext ?_ hb19 | refine bnext ?_ hb18 | refine bnext ?_ hb17 | refine bnext ?_ hb16 | refine bnext ?_ hb15 | refine bnext ?_ hb14 | refine bnext ?_ hb13 | refine bnext ?_ hb12 | refine bnext ?_ hb11 | refine bnext ?_ hb10 | refine bnext ?_ hb9 | refine bnext ?_ hb8 | refine bnext ?_ hb7 | refine bnext ?_ hb6 | refine bnext ?_ hb5 | refine bnext ?_ hb4 | refine bnext ?_ hb3 | refine bnext ?_ hb2 | refine bnext ?_ hb1))⟩
  · have hd : decide ((70 : Int) < (n : Int)) = false := by simp; omega
    have hpl := piecesV_len a b
    go_enter Try.func7, Try.ntmps7
    go_wp2_with fail
    refine (Pieces_any _ _ _).mono ?_
    rintro e w1 ⟨A1, c1, rfl, hr1, hb1⟩
    have kA := ((Bk.new w #[.int .i64 a, .int .i64 b] 23).alloc (.cells #[.int .i64 c, .int .i64 d] 23)).to hb1
    have kB := (Bk.new (w.alloc (.cells #[.int .i64 a, .int .i64 b] 23)) #[.int .i64 c, .int .i64 d] 23).to hb1
    rw [World.size_alloc] at kB
    obtain ⟨cA, fA, lA⟩ := kA.facts
    go_wp2_with fail
    refine (rPieces_any _ _ _).mono ?_
    rintro e w2 ⟨A2, c2, rfl, hr2, hb2⟩
    clear cA fA lA
    replace kA := kA.to hb2
    replace kB := kB.to hb2
    replace hr1 := hr1.below hb2 (Nat.le_refl _)
    have cA0 := kA.cell 0
    have cA1 := kA.cell 1
    simp at cA0 cA1
    go_wp2_with fail
    go_region_held3 (fun w' => w'.cell? ⟨w.heap.size, 0, none⟩ = some (.int .i64 a) ∧ w'.cell? ⟨w.heap.size, 1, none⟩ = some (.int .i64 b) ∧ Below w2.heap.size w2 w')
      (first
        | exact ⟨cA0, cA1, below_drew (Below.refl _ _)⟩
        | exact ⟨cell_later hb3 cA0, cell_later hb3 cA1, bnext (below_drew (Below.refl _ _)) hb3⟩
        | exact ⟨cell_later hb4 (cell_later hb3 cA0), cell_later hb4 (cell_later hb3 cA1), bnext (bnext (below_drew (Below.refl _ _)) hb3) hb4⟩
        | exact ⟨cell_later hb5 (cell_later hb4 (cell_later hb3 cA0)), cell_later hb5 (cell_later hb4 (cell_later hb3 cA1)), bnext (bnext (bnext (below_drew (Below.refl _ _)) hb3) hb4) hb5⟩)
      (first
        | (go_at_call 23; refine (Check_any _ _ _).mono ?_; rintro e w3 ⟨rfl, hb3⟩)
        | (go_at_call 24; refine (rCheck_any _ _ _).mono ?_; rintro e w4 ⟨rfl, hb4⟩)
        | (go_at_call 25; refine (SameRanges_eq _ _ _ _ _ (piecesV a b) _ (hr1.below (bnext (bnext (below_drew (Below.refl _ _)) hb3) hb4) (Nat.le_refl _)) (hr2.below (bnext (bnext (below_drew (Below.refl _ _)) hb3) hb4) (Nat.le_refl _)) (by omega)).mono ?_; rintro e w5 ⟨rfl, hb5⟩))
    have hb6 : Below w2.heap.size w2 w5 := bnext (bnext (bnext (below_drew (Below.refl _ _)) hb3) hb4) hb5
    clear hb3 hb4 hb5 hr1 hr2 cA0 cA1
    rename_i hheld
    clear hheld
    have hb7 : Below w.heap.size w w5 := by (repeat' (first | exact Below.refl _ _ | assumption | refine balloc ?_ _ | refine below_drawn ?_ _ | refine below_drew ?_ | refine bnext ?_ hb24 | refine bnext ?_ hb23 | refine bnext ?_ hb22 | refine bnext ?_ hb21 | refine bnext ?_ hb20 | refine bnext ?_ hb19 | refine bnext ?_ hb18 | refine bnext ?_ hb17 | refine bnext ?_ hb16 | refine bnext ?_ hb15 | refine bnext ?_ hb14 | refine bnext ?_ hb13 | refine bnext ?_ hb12 | refine bnext ?_ hb11 | refine bnext ?_ hb10 | refine bnext ?_ hb9 | refine bnext ?_ hb8 | refine bnext ?_ hb7 | refine bnext ?_ hb6 | refine bnext ?_ hb5 | refine bnext ?_ hb4 | refine bnext ?_ hb3 | refine bnext ?_ hb2 | refine bnext ?_ hb1))
    clear hb1 hb2
    replace kA := kA.to hb6
    replace kB := kB.to hb6
    clear hb6
    have hrl := hr.below hb7 (Nat.le_refl _)
    clear hr
    obtain ⟨cA, fA, lA⟩ := kA.facts
    obtain ⟨cB, fB, lB⟩ := kB.facts
    go_wp2_with fail
    refine (OwnRanges_any A n k rs _ (by omega) hrl).mono ?_
    rintro e w8 ⟨A3, c3, rfl, hr3, hb8⟩
    clear cA fA lA cB fB lB
    replace kA := kA.to hb8
    replace kB := kB.to hb8
    replace hrl := hrl.below hb8 (Nat.le_refl _)
    obtain ⟨cA, fA, lA⟩ := kA.facts
    obtain ⟨cB, fB, lB⟩ := kB.facts
    go_wp2_with fail
    refine (Cover_any A3 n c3 rs _ (by omega) hr3).mono ?_
    rintro e w9 ⟨A4, c4, rfl, hr4, hb9⟩
    clear cA fA lA cB fB lB
    replace kA := kA.to hb9
    replace kB := kB.to hb9
    replace hrl := hrl.below hb9 (Nat.le_refl _)
    replace hr3 := hr3.below hb9 (Nat.le_refl _)
    obtain ⟨cA, fA, lA⟩ := kA.facts
    obtain ⟨cB, fB, lB⟩ := kB.facts
    go_wp2_with fail
    refine (rCover_any A n k rs _ (by omega) hrl).mono ?_
    rintro e w10 ⟨A5, c5, rfl, hr5, hb10⟩
    clear cA fA lA cB fB lB
    replace kA := kA.to hb10
    replace kB := kB.to hb10
    replace hrl := hrl.below hb10 (Nat.le_refl _)
    replace hr3 := hr3.below hb10 (Nat.le_refl _)
    replace hr4 := hr4.below hb10 (Nat.le_refl _)
    have hb11 : Below w.heap.size w w10 := by (repeat' (first | exact Below.refl _ _ | assumption | refine balloc ?_ _ | refine below_drawn ?_ _ | refine below_drew ?_ | refine bnext ?_ hb24 | refine bnext ?_ hb23 | refine bnext ?_ hb22 | refine bnext ?_ hb21 | refine bnext ?_ hb20 | refine bnext ?_ hb19 | refine bnext ?_ hb18 | refine bnext ?_ hb17 | refine bnext ?_ hb16 | refine bnext ?_ hb15 | refine bnext ?_ hb14 | refine bnext ?_ hb13 | refine bnext ?_ hb12 | refine bnext ?_ hb11 | refine bnext ?_ hb10 | refine bnext ?_ hb9 | refine bnext ?_ hb8 | refine bnext ?_ hb7 | refine bnext ?_ hb6 | refine bnext ?_ hb5 | refine bnext ?_ hb4 | refine bnext ?_ hb3 | refine bnext ?_ hb2 | refine bnext ?_ hb1))
    clear hb7 hb8 hb9 hb10
    obtain ⟨cA, fA, lA⟩ := kA.facts
    obtain ⟨cB, fB, lB⟩ := kB.facts
    have hcl : (coverL rs).length ≤ 8 := by
      unfold coverL
      split
      · simp
      · split
        · have := coverK_len (marked rs) 8
          simpa [cover, coverK] using this
        · simp
    go_wp2_with fail
    refine (Overlap_any _ _ _ _ _).mono ?_
    rintro e w12 ⟨rfl, hb12⟩
    clear cA fA lA cB fB lB
    replace kA := kA.to hb12
    replace kB := kB.to hb12
    replace hrl := hrl.below hb12 (Nat.le_refl _)
    replace hr3 := hr3.below hb12 (Nat.le_refl _)
    replace hr4 := hr4.below hb12 (Nat.le_refl _)
    replace hr5 := hr5.below hb12 (Nat.le_refl _)
    obtain ⟨cA, fA, lA⟩ := kA.facts
    obtain ⟨cB, fB, lB⟩ := kB.facts
    generalize hov : over a b c d = o at *
    have Hov := Lib.hid hov
    clear hov
    obtain ⟨o1, o2, o3, o4⟩ := o
    simp only
    go_wp2_with fail
    refine (rOverlap_any _ _ _ _ _).mono ?_
    rw [Hov.out]
    rintro e w13 ⟨rfl, hb13⟩
    clear cA fA lA cB fB lB
    have kX := (Bk.new w12 #[.int .i64 o1, .int .i64 o2] 23).to hb13
    replace hrl := (hrl.alloc _).below hb13 (Nat.le_refl _)
    replace hr3 := (hr3.alloc _).below hb13 (Nat.le_refl _)
    replace hr4 := (hr4.alloc _).below hb13 (Nat.le_refl _)
    replace hr5 := (hr5.alloc _).below hb13 (Nat.le_refl _)
    obtain ⟨cX, fX, lX⟩ := kX.facts
    go_wp2_with fail
    refine (SameInts_eq _ _ _ _ _ (coverL rs) _ (hr4.alloc _) (hr5.alloc _) (by omega)).mono ?_
    rintro e w14 ⟨rfl, hb14⟩
    clear cX fX lX
    have kY := (Bk.new w13 #[.int .i64 o1, .int .i64 o2] 23).to hb14
    replace kX := (kX.alloc _).to hb14
    replace hrl := (hrl.alloc _).below hb14 (Nat.le_refl _)
    replace hr3 := (hr3.alloc _).below hb14 (Nat.le_refl _)
    obtain ⟨cX, fX, lX⟩ := kX.facts
    obtain ⟨cY, fY, lY⟩ := kY.facts
    go_wp2_with fail
    refine (SameRanges_eq _ _ _ _ _ rs _ hr3 hrl (by omega)).mono ?_
    rintro e w15 ⟨rfl, hb15⟩
    go_wp2_with fail
    refine (awake_true _).mono ?_
    rintro e w16 ⟨rfl, hb16⟩
    go_wp2_with fail
    go_ret
    exact ⟨rfl, by (repeat' (first | exact Below.refl _ _ | assumption | refine balloc ?_ _ | refine below_drawn ?_ _ | refine below_drew ?_ | refine bnext ?_ hb24 | refine bnext ?_ hb23 | refine bnext ?_ hb22 | refine bnext ?_ hb21 | refine bnext ?_ hb20 | refine bnext ?_ hb19 | refine bnext ?_ hb18 | refine bnext ?_ hb17 | refine bnext ?_ hb16 | refine bnext ?_ hb15 | refine bnext ?_ hb14 | refine bnext ?_ hb13 | refine bnext ?_ hb12 | refine bnext ?_ hb11 | refine bnext ?_ hb10 | refine bnext ?_ hb9 | refine bnext ?_ hb8 | refine bnext ?_ hb7 | refine bnext ?_ hb6 | refine bnext ?_ hb5 | refine bnext ?_ hb4 | refine bnext ?_ hb3 | refine bnext ?_ hb2 | refine bnext ?_ hb1))⟩

end Go.Proofs.Ytmaebbbaooodaaa
