/- TablePuts returns true for every table, entry and all numbers. -/
import Derived.Test.YtnmknbnidfmmoaaDoorLawLooks23
import Derived.Test.YtnmknbnidfmmoaaDoorTR7
import Derived.Deep.RegionHeld3
import Derived.Deep.DeepCutAuto
namespace Go.Proofs.YtnmknbnidfmmoaaDoor
open Go Go.Proofs Go.RowKit
set_option linter.unusedSimpArgs false
set_option linter.unusedVariables false
set_option maxRecDepth 100000

theorem isv_put3 {w : World} {v : Value} {zs : List Int} {lo g : Nat} (h : IsV w v zs) (hl : ILoc lo v) (hg : g < lo) (x y z : Value) : IsV (((w.setCell ⟨g, 0, none⟩ x).setCell ⟨g, 1, none⟩ y).setCell ⟨g, 2, none⟩ z) v zs := by
  obtain ⟨A, c, rfl, h1⟩ := h
  have k1 : ∀ b off, 0 < zs.length → A = some ⟨b, off, none⟩ → b ≠ g := fun b off hn e => by have := hl A _ c rfl b off hn e; omega
  exact ⟨A, c, rfl, ((h1.far (p := ⟨g, 0, none⟩) k1 x).far (p := ⟨g, 1, none⟩) k1 y).far (p := ⟨g, 2, none⟩) k1 z⟩
def Fit (t : Tb) : Prop := wsmall t.2.2 ∧ t.2.1.length ≤ 1000 ∧ t.2.2.length ≤ 1000
theorem fit0 : Fit tb0 := ⟨fun x hx => by simp [tb0] at hx, by simp [tb0], by simp [tb0]⟩
theorem put_fit (r : Int) (ls : List Int) (es : List Nat) (page k n : Int) (a b c : Bool) (hs : wsmall es) (hn : ls.length ≤ 10) (hm : es.length ≤ 70) : Fit (putR r ls es page k n a b c).1 := by
  unfold putR
  split
  · exact fit0
  · rename_i h
    have h0 : putE r ls es page k n a b c = 0 := by omega
    unfold putE at h0
    obtain ⟨x, hx, hx2⟩ := packR_nat k n a b c (orE_zero (orE_zero h0).2).1
    refine ⟨?_, ?_, ?_⟩
    · simp only
      rw [hx, Int.toNat_natCast]
      exact wsmall_set hs _ (by omega)
    · simp only; omega
    · simp only [List.length_set]; omega
theorem leaf_fit (r : Int) (ls : List Int) (es : List Nat) (leaf frame : Int) (hs : wsmall es) (hn : ls.length ≤ 10) (hm : es.length ≤ 70) : Fit (leafR r ls es leaf frame).1 := by
  unfold leafR
  split
  · exact fit0
  · exact ⟨hs, by simp only [List.length_set]; omega, by simp only; omega⟩
theorem clear_fit (r : Int) (ls : List Int) (es : List Nat) (page : Int) (hs : wsmall es) (hn : ls.length ≤ 10) (hm : es.length ≤ 70) : Fit (clearR r ls es page).1 := by
  unfold clearR
  split
  · exact fit0
  · split
    · exact ⟨wsmall_set hs _ (by decide), by simp only [List.length_set]; omega, by simp only [List.length_set]; omega⟩
    · exact ⟨wsmall_set hs _ (by decide), by simp only; omega, by simp only [List.length_set]; omega⟩
theorem trim_fit (r : Int) (ls : List Int) (es : List Nat) (hs : wsmall es) (hn : ls.length ≤ 10) (hm : es.length ≤ 70) : Fit (trimR r ls es).1 ∧ (trimR r ls es).2.1.length ≤ 1000 := by
  unfold trimR
  split
  · exact ⟨fit0, by simp⟩
  · refine ⟨⟨hs, by simp only [trimL_len]; omega, by simp only; omega⟩, ?_⟩
    have := trimG_len ls es 8
    simp only
    omega
set_option maxHeartbeats 8000000 in
theorem TablePuts_true (r : Int) (ls : List Int) (es : List Nat) (A B : Option Addr) (c d : Nat) (page k n : Int) (a b f : Bool) (leaf frame : Int) (w : World) (hA : Rd w 1 A ls.length (iw ls)) (hB : Rd w 1 B es.length (uw es)) (hcc : ls.length ≤ c) (hs : wsmall es) (hL : LayOK w) :
    Calls Tryd.prog 5 #[.agg #[.int .i64 r, .slice A ls.length c, .slice B es.length d], .int .i64 page, .agg #[.int .i64 k, .int .i64 n, .bool a, .bool b, .bool f], .int .i64 leaf, .int .i64 frame] w fun e w' => e = .returned (.bool true) ∧ Below w.heap.size w w' := by
  have hv0 : TbV w (.agg #[.int .i64 r, .slice A ls.length c, .slice B es.length d]) (r, ls, es) := ⟨A, c, B, d, rfl, hA, hB, hcc⟩
  by_cases hli : ls.length ≤ 10 ∧ es.length ≤ 70
  case neg =>
    have hd : (decide (ls.length ≤ 10) && decide (es.length ≤ 70)) = false := by
      rw [Bool.and_eq_false_iff]
      simp only [decide_eq_false_iff_not]
      omega
    have HL := Lib.hid (light_any r ls.length es.length A B c d)
    rw [hd] at HL
    clear hd
    go_enter Tryd.func5, Tryd.ntmps5
    go_wp2_with fail
    refine (HL.out _).mono ?_
    rintro e w1 ⟨rfl, hb1⟩
    go_wp2_with fail
    refine (awake_true _ (((hL.alloc _).alloc _).below hb1)).mono ?_
    rintro e w2 ⟨rfl, hb2⟩
    go_wp2_with fail
    go_ret
    exact ⟨rfl, by (repeat' (first | exact Below.refl _ _ | assumption | refine balloc ?_ _ | refine below_drawn ?_ _ | refine below_drew ?_ | refine bnext ?_ hb24 | refine bnext ?_ hb23 | refine bnext ?_ hb22 | refine bnext ?_ hb21 | refine bnext ?_ hb20 | refine bnext ?_ hb19 | refine bnext ?_ hb18 | refine bnext ?_ hb17 | refine bnext ?_ hb16 | refine bnext ?_ hb15 | refine bnext ?_ hb14 | refine bnext ?_ hb13 | refine bnext ?_ hb12 | refine bnext ?_ hb11 | refine bnext ?_ hb10 | refine bnext ?_ hb9 | refine bnext ?_ hb8 | refine bnext ?_ hb7 | refine bnext ?_ hb6 | refine bnext ?_ hb5 | refine bnext ?_ hb4 | refine bnext ?_ hb3 | refine bnext ?_ hb2 | refine bnext ?_ hb1))⟩
  obtain ⟨hn, hm⟩ := hli
  have hd : (decide (ls.length ≤ 10) && decide (es.length ≤ 70)) = true := by simp [hn, hm]
  have HL := Lib.hid (light_any r ls.length es.length A B c d)
  rw [hd] at HL
  clear hd
  have fp := put_fit r ls es page k n a b f hs hn hm
  have fl := leaf_fit r ls es leaf frame hs hn hm
  have fc := clear_fit r ls es page hs hn hm
  have ft := trim_fit r ls es hs hn hm
  rcases hput : putR r ls es page k n a b f with ⟨⟨pr, pl, pe⟩, pE⟩
  rcases hleaf : leafR r ls es leaf frame with ⟨⟨lr, ll, le⟩, lE⟩
  rcases hclear : clearR r ls es page with ⟨⟨cr, cl, ce⟩, cF, cE⟩
  rcases htrim : trimR r ls es with ⟨⟨tr, tl, te⟩, tz, tE⟩
  rw [hput] at fp
  rw [hleaf] at fl
  rw [hclear] at fc
  rw [htrim] at ft
  obtain ⟨fp1, fp2, fp3⟩ := fp
  obtain ⟨fl1, fl2, fl3⟩ := fl
  obtain ⟨fc1, fc2, fc3⟩ := fc
  obtain ⟨⟨ft1, ft2, ft3⟩, ft4⟩ := ft
  simp only at fp1 fp2 fp3 fl1 fl2 fl3 fc1 fc2 fc3 ft1 ft2 ft3 ft4
  have HP := Lib.hid hput
  have HF := Lib.hid hleaf
  have HC := Lib.hid hclear
  have HT := Lib.hid htrim
  clear hput hleaf hclear htrim
  have hv0b := hv0
  have hLb := hL
  go_enter Tryd.func5, Tryd.ntmps5
  go_wp2_with fail
  refine (HL.out _).mono ?_
  rintro e w1 ⟨rfl, hb1⟩
  have hc1 : Below w.heap.size w w1 := bnext (balloc (balloc (Below.refl _ _) _) _) hb1
  replace hA := hA.below hc1 (Nat.le_refl _)
  replace hB := hB.below hc1 (Nat.le_refl _)
  replace hL := hL.below hc1
  replace hv0 := hv0.below hc1
  have kT0 := ((Bk.new w #[.int .i64 r, .slice A ls.length c, .slice B es.length d] 25).alloc (.cells #[.int .i64 k, .int .i64 n, .bool a, .bool b, .bool f] 35)).to hb1
  have kV := (Bk.new (w.alloc (.cells #[.int .i64 r, .slice A ls.length c, .slice B es.length d] 25)) #[.int .i64 k, .int .i64 n, .bool a, .bool b, .bool f] 35).to hb1
  simp only [World.size_alloc] at kV
  obtain ⟨cT0, fT0, lT0⟩ := kT0.facts
  obtain ⟨cV, fV, lV⟩ := kV.facts
  go_wp2_with fail
  refine (OwnTable_any r ls es A B c d _ hA hB (by omega) (by omega)).mono ?_
  rintro e w2 ⟨v2, rfl, hv2, hb2⟩
  clear cT0 fT0 lT0 cV fV lV
  have hc2 : Below w1.heap.size w1 w2 := bnext (Below.refl _ _) hb2
  replace kT0 := kT0.to hc2
  replace kV := kV.to hc2
  replace hA := hA.below hc2 (Nat.le_refl _)
  replace hB := hB.below hc2 (Nat.le_refl _)
  replace hL := hL.below hc2
  replace hv0 := hv0.below hc2
  obtain ⟨cT0, fT0, lT0⟩ := kT0.facts
  obtain ⟨cV, fV, lV⟩ := kV.facts
  have hv2b := hv2
  obtain ⟨A2, c2, B2, d2, rfl, _, _, _⟩ := id hv2
  simp only [tabV] at hv2 hv2b ⊢
  go_wp2_with fail
  refine (TPut_any r ls es _ page k n a b f _ (hv2.alloc _) hs (hL.alloc _)).mono ?_
  rw [HP.out]
  rintro e w3 ⟨v3, rfl, hv3, hl3, hb3⟩
  clear cT0 fT0 lT0 cV fV lV
  have hc3 : Below w2.heap.size w2 w3 := bnext (balloc (Below.refl _ _) _) hb3
  replace kT0 := kT0.to hc3
  replace kV := kV.to hc3
  replace hL := hL.below hc3
  replace hv0 := hv0.below hc3
  replace hv2 := hv2.below hc3
  have kT2 := (Bk.new w2 #[.int .i64 r, .slice A2 ls.length c2, .slice B2 es.length d2] 25).to hb3
  obtain ⟨cT0, fT0, lT0⟩ := kT0.facts
  obtain ⟨cV, fV, lV⟩ := kV.facts
  obtain ⟨cT2, fT2, lT2⟩ := kT2.facts
  obtain ⟨A3, c3, B3, d3, rfl, _, _, _⟩ := id hv3
  simp only [tabV] at hv3 hl3 ⊢
  go_wp2_with fail
  refine (rPut_any r ls es _ page k n a b f _ (hv0.alloc _) hs).mono ?_
  rw [HP.out]
  rintro e w4 ⟨v4, rfl, hv4, hl4, hb4⟩
  clear cT0 fT0 lT0 cV fV lV cT2 fT2 lT2
  have hc4 : Below w3.heap.size w3 w4 := bnext (balloc (Below.refl _ _) _) hb4
  replace kT0 := kT0.to hc4
  replace kV := kV.to hc4
  replace kT2 := kT2.to hc4
  replace hL := hL.below hc4
  replace hv0 := hv0.below hc4
  replace hv2 := hv2.below hc4
  replace hv3 := hv3.below hc4
  have kT3 := (Bk.new w3 #[.int .i64 pr, .slice A3 pl.length c3, .slice B3 pe.length d3] 25).to hb4
  obtain ⟨cT0, fT0, lT0⟩ := kT0.facts
  obtain ⟨cV, fV, lV⟩ := kV.facts
  obtain ⟨cT2, fT2, lT2⟩ := kT2.facts
  obtain ⟨cT3, fT3, lT3⟩ := kT3.facts
  obtain ⟨A4, c4, B4, d4, rfl, _, _, _⟩ := id hv4
  simp only [tabV] at hv4 hl4 ⊢
  go_wp2_with fail
  refine (TSetLeaf_any r ls es _ leaf frame _ (hv2.alloc _) hs (hL.alloc _)).mono ?_
  rw [HF.out]
  rintro e w5 ⟨v5, rfl, hv5, hl5, hb5⟩
  clear cT0 fT0 lT0 cV fV lV cT2 fT2 lT2 cT3 fT3 lT3
  have hc5 : Below w4.heap.size w4 w5 := bnext (balloc (Below.refl _ _) _) hb5
  replace kT0 := kT0.to hc5
  replace kV := kV.to hc5
  replace kT2 := kT2.to hc5
  replace kT3 := kT3.to hc5
  replace hL := hL.below hc5
  replace hv0 := hv0.below hc5
  replace hv2 := hv2.below hc5
  replace hv3 := hv3.below hc5
  replace hv4 := hv4.below hc5
  have kT4 := (Bk.new w4 #[.int .i64 pr, .slice A4 pl.length c4, .slice B4 pe.length d4] 25).to hb5
  obtain ⟨cT0, fT0, lT0⟩ := kT0.facts
  obtain ⟨cV, fV, lV⟩ := kV.facts
  obtain ⟨cT2, fT2, lT2⟩ := kT2.facts
  obtain ⟨cT3, fT3, lT3⟩ := kT3.facts
  obtain ⟨cT4, fT4, lT4⟩ := kT4.facts
  obtain ⟨A5, c5, B5, d5, rfl, _, _, _⟩ := id hv5
  simp only [tabV] at hv5 hl5 ⊢
  go_wp2_with fail
  refine (rSetLeaf_any r ls es _ leaf frame _ (hv0.alloc _) hs).mono ?_
  rw [HF.out]
  rintro e w6 ⟨v6, rfl, hv6, hl6, hb6⟩
  clear cT0 fT0 lT0 cV fV lV cT2 fT2 lT2 cT3 fT3 lT3 cT4 fT4 lT4
  have hc6 : Below w5.heap.size w5 w6 := bnext (balloc (Below.refl _ _) _) hb6
  replace kT0 := kT0.to hc6
  replace kV := kV.to hc6
  replace kT2 := kT2.to hc6
  replace kT3 := kT3.to hc6
  replace kT4 := kT4.to hc6
  replace hL := hL.below hc6
  replace hv0 := hv0.below hc6
  replace hv2 := hv2.below hc6
  replace hv3 := hv3.below hc6
  replace hv4 := hv4.below hc6
  replace hv5 := hv5.below hc6
  have kT5 := (Bk.new w5 #[.int .i64 lr, .slice A5 ll.length c5, .slice B5 le.length d5] 25).to hb6
  obtain ⟨cT0, fT0, lT0⟩ := kT0.facts
  obtain ⟨cV, fV, lV⟩ := kV.facts
  obtain ⟨cT2, fT2, lT2⟩ := kT2.facts
  obtain ⟨cT3, fT3, lT3⟩ := kT3.facts
  obtain ⟨cT4, fT4, lT4⟩ := kT4.facts
  obtain ⟨cT5, fT5, lT5⟩ := kT5.facts
  obtain ⟨A6, c6, B6, d6, rfl, _, _, _⟩ := id hv6
  simp only [tabV] at hv6 hl6 ⊢
  go_wp2_with fail
  refine (SameTable_eq pr pl pe _ _ _ (hv3.alloc _) (hv4.alloc _) fp1 fp2 fp3).mono ?_
  rintro e w7 ⟨rfl, hb7⟩
  clear cT0 fT0 lT0 cV fV lV cT2 fT2 lT2 cT3 fT3 lT3 cT4 fT4 lT4 cT5 fT5 lT5
  have hc7 : Below w6.heap.size w6 w7 := bnext (balloc (Below.refl _ _) _) hb7
  replace kT0 := kT0.to hc7
  replace kV := kV.to hc7
  replace kT2 := kT2.to hc7
  replace kT3 := kT3.to hc7
  replace kT4 := kT4.to hc7
  replace kT5 := kT5.to hc7
  replace hL := hL.below hc7
  replace hv0 := hv0.below hc7
  replace hv2 := hv2.below hc7
  replace hv3 := hv3.below hc7
  replace hv4 := hv4.below hc7
  replace hv5 := hv5.below hc7
  replace hv6 := hv6.below hc7
  have kT6 := (Bk.new w6 #[.int .i64 lr, .slice A6 ll.length c6, .slice B6 le.length d6] 25).to hb7
  obtain ⟨cT0, fT0, lT0⟩ := kT0.facts
  obtain ⟨cV, fV, lV⟩ := kV.facts
  obtain ⟨cT2, fT2, lT2⟩ := kT2.facts
  obtain ⟨cT3, fT3, lT3⟩ := kT3.facts
  obtain ⟨cT4, fT4, lT4⟩ := kT4.facts
  obtain ⟨cT5, fT5, lT5⟩ := kT5.facts
  obtain ⟨cT6, fT6, lT6⟩ := kT6.facts
  go_wp2_with fail
  refine (SameTable_eq lr ll le _ _ _ hv5 hv6 fl1 fl2 fl3).mono ?_
  rintro e w8 ⟨rfl, hb8⟩
  clear cT0 fT0 lT0 cV fV lV cT2 fT2 lT2 cT3 fT3 lT3 cT4 fT4 lT4 cT5 fT5 lT5 cT6 fT6 lT6
  have hc8 : Below w7.heap.size w7 w8 := bnext (Below.refl _ _) hb8
  replace kT0 := kT0.to hc8
  replace kV := kV.to hc8
  replace kT2 := kT2.to hc8
  replace kT3 := kT3.to hc8
  replace kT4 := kT4.to hc8
  replace kT5 := kT5.to hc8
  replace kT6 := kT6.to hc8
  replace hL := hL.below hc8
  replace hv0 := hv0.below hc8
  replace hv2 := hv2.below hc8
  replace hv3 := hv3.below hc8
  replace hv4 := hv4.below hc8
  replace hv5 := hv5.below hc8
  replace hv6 := hv6.below hc8
  obtain ⟨cT0, fT0, lT0⟩ := kT0.facts
  obtain ⟨cV, fV, lV⟩ := kV.facts
  obtain ⟨cT2, fT2, lT2⟩ := kT2.facts
  obtain ⟨cT3, fT3, lT3⟩ := kT3.facts
  obtain ⟨cT4, fT4, lT4⟩ := kT4.facts
  obtain ⟨cT5, fT5, lT5⟩ := kT5.facts
  obtain ⟨cT6, fT6, lT6⟩ := kT6.facts
  clear cT0 fT0 lT0 cV fV lV cT2 fT2 lT2 cT3 fT3 lT3 cT4 fT4 lT4 cT5 fT5 lT5 cT6 fT6 lT6
  clear hv3 hv4 hv5 hv6 hl3 hl4 hl5 hl6 kV kT5 kT6
  obtain ⟨cT0, fT0, lT0⟩ := kT0.facts
  obtain ⟨cT2, fT2, lT2⟩ := kT2.facts
  obtain ⟨cT3, fT3, lT3⟩ := kT3.facts
  obtain ⟨cT4, fT4, lT4⟩ := kT4.facts
  have z2 := hb2.size
  have z3 := hb3.size
  have z4 := hb4.size
  have z5 := hb5.size
  have z6 := hb6.size
  have z7 := hb7.size
  have z8 := hb8.size
  have z1 := hb1.size
  simp only [World.size_alloc] at z1 z2 z3 z4 z5 z6 z7 z8
  go_wp2_with fail
  refine (TClearL_any r ls es _ page _ hv2 hs hL).mono ?_
  rw [HC.out]
  rintro e w9 ⟨v9, rfl, hv9, hl9, hb9⟩
  clear cT0 fT0 lT0 cT2 fT2 lT2 cT3 fT3 lT3 cT4 fT4 lT4
  have hc9 : Below w8.heap.size w8 w9 := bnext (Below.refl _ _) hb9
  replace kT0 := kT0.to hc9
  replace kT2 := kT2.to hc9
  replace kT3 := kT3.to hc9
  replace kT4 := kT4.to hc9
  replace hL := hL.below hc9
  replace hv0 := hv0.below hc9
  replace hv2 := hv2.below hc9
  obtain ⟨cT0, fT0, lT0⟩ := kT0.facts
  obtain ⟨cT2, fT2, lT2⟩ := kT2.facts
  obtain ⟨cT3, fT3, lT3⟩ := kT3.facts
  obtain ⟨cT4, fT4, lT4⟩ := kT4.facts
  obtain ⟨A9, c9, B9, d9, rfl, _, _, _⟩ := id hv9
  simp only [tabV] at hv9 hl9 ⊢
  have hB0 : Below w.heap.size w w9 := bnext (bnext (bnext (bnext (bnext (bnext (bnext (bnext hc1 hc2) hc3) hc4) hc5) hc6) hc7) hc8) hc9
  have hB2 : Below w2.heap.size w2 w9 := bnext (bnext (bnext (bnext (bnext (bnext hc3 hc4) hc5) hc6) hc7) hc8) hc9
  have z9 := hb9.size
  clear hb1 hc1 hb2 hc2 hb3 hc3 hb4 hc4 hb5 hc5 hb6 hc6 hb7 hc7 hb8 hc8 hb9 hc9
  go_upto_region 11 with fail
  clear cT0 fT0 lT0 cT2 fT2 lT2 cT3 fT3 lT3 cT4 fT4 lT4
  replace kT0 := kT0.far3 (g := w3.heap.size) (by omega) (.int .i64 cr) (.slice A9 cl.length c9) (.slice B9 ce.length d9)
  replace kT2 := kT2.far3 (g := w3.heap.size) (by omega) (.int .i64 cr) (.slice A9 cl.length c9) (.slice B9 ce.length d9)
  replace kT3 := kT3.put3 (.int .i64 cr) (.slice A9 cl.length c9) (.slice B9 ce.length d9)
  replace kT4 := kT4.far3 (g := w3.heap.size) (by omega) (.int .i64 cr) (.slice A9 cl.length c9) (.slice B9 ce.length d9)
  replace hB0 := below_put3 hB0 (g := w3.heap.size) (by omega) (.int .i64 cr) (.slice A9 cl.length c9) (.slice B9 ce.length d9)
  replace hB2 := below_put3 hB2 (g := w3.heap.size) (by omega) (.int .i64 cr) (.slice A9 cl.length c9) (.slice B9 ce.length d9)
  replace hv9 := tbv_put3 hv9 hl9 (g := w3.heap.size) (by omega) (.int .i64 cr) (.slice A9 cl.length c9) (.slice B9 ce.length d9)
  generalize (((w9.setCell ⟨w3.heap.size, 0, none⟩ (.int .i64 cr)).setCell ⟨w3.heap.size, 1, none⟩ (.slice A9 cl.length c9)).setCell ⟨w3.heap.size, 2, none⟩ (.slice B9 ce.length d9)) = wA at *
  replace hv0 := hv0b.to hB0
  replace hv2 := hv2b.to hB2
  replace hL := hLb.below hB0
  have y_wA : w4.heap.size < wA.heap.size := kT4.lt
  obtain ⟨cT0, fT0, lT0⟩ := kT0.facts
  obtain ⟨cT2, fT2, lT2⟩ := kT2.facts
  obtain ⟨cT3, fT3, lT3⟩ := kT3.facts
  obtain ⟨cT4, fT4, lT4⟩ := kT4.facts
  go_wp2_with fail
  refine (rClear_any r ls es _ page _ hv0 hs).mono ?_
  rw [HC.out]
  rintro e w10 ⟨v10, rfl, hv10, hl10, hb10⟩
  clear cT0 fT0 lT0 cT2 fT2 lT2 cT3 fT3 lT3 cT4 fT4 lT4
  have hc10 : Below wA.heap.size wA w10 := bnext (Below.refl _ _) hb10
  replace kT0 := kT0.to hc10
  replace kT2 := kT2.to hc10
  replace kT3 := kT3.to hc10
  replace kT4 := kT4.to hc10
  replace hL := hL.below hc10
  replace hv0 := hv0.below hc10
  replace hv2 := hv2.below hc10
  replace hv9 := hv9.below hc10
  obtain ⟨cT0, fT0, lT0⟩ := kT0.facts
  obtain ⟨cT2, fT2, lT2⟩ := kT2.facts
  obtain ⟨cT3, fT3, lT3⟩ := kT3.facts
  obtain ⟨cT4, fT4, lT4⟩ := kT4.facts
  obtain ⟨A10, c10, B10, d10, rfl, _, _, _⟩ := id hv10
  simp only [tabV] at hv10 hl10 ⊢
  replace hB0 := bnext hB0 hc10
  replace hB2 := bnext hB2 hc10
  have zA := kT4.lt
  go_upto_region 12 with fail
  clear cT0 fT0 lT0 cT2 fT2 lT2 cT3 fT3 lT3 cT4 fT4 lT4
  replace kT0 := kT0.far3 (g := w4.heap.size) (by omega) (.int .i64 cr) (.slice A10 cl.length c10) (.slice B10 ce.length d10)
  replace kT2 := kT2.far3 (g := w4.heap.size) (by omega) (.int .i64 cr) (.slice A10 cl.length c10) (.slice B10 ce.length d10)
  replace kT3 := kT3.far3 (g := w4.heap.size) (by omega) (.int .i64 cr) (.slice A10 cl.length c10) (.slice B10 ce.length d10)
  replace kT4 := kT4.put3 (.int .i64 cr) (.slice A10 cl.length c10) (.slice B10 ce.length d10)
  replace hB0 := below_put3 hB0 (g := w4.heap.size) (by omega) (.int .i64 cr) (.slice A10 cl.length c10) (.slice B10 ce.length d10)
  replace hB2 := below_put3 hB2 (g := w4.heap.size) (by omega) (.int .i64 cr) (.slice A10 cl.length c10) (.slice B10 ce.length d10)
  replace hv9 := tbv_put3 hv9 hl9 (g := w4.heap.size) (by omega) (.int .i64 cr) (.slice A10 cl.length c10) (.slice B10 ce.length d10)
  replace hv10 := tbv_put3 hv10 hl10 (g := w4.heap.size) (by omega) (.int .i64 cr) (.slice A10 cl.length c10) (.slice B10 ce.length d10)
  generalize (((w10.setCell ⟨w4.heap.size, 0, none⟩ (.int .i64 cr)).setCell ⟨w4.heap.size, 1, none⟩ (.slice A10 cl.length c10)).setCell ⟨w4.heap.size, 2, none⟩ (.slice B10 ce.length d10)) = wB at *
  replace hv0 := hv0b.to hB0
  replace hv2 := hv2b.to hB2
  replace hL := hLb.below hB0
  have y_wB : w4.heap.size < wB.heap.size := kT4.lt
  obtain ⟨cT0, fT0, lT0⟩ := kT0.facts
  obtain ⟨cT2, fT2, lT2⟩ := kT2.facts
  obtain ⟨cT3, fT3, lT3⟩ := kT3.facts
  obtain ⟨cT4, fT4, lT4⟩ := kT4.facts
  go_wp2_with fail
  refine (SameTable_eq cr cl ce _ _ _ hv9 hv10 fc1 fc2 fc3).mono ?_
  rintro e w11 ⟨rfl, hb11⟩
  clear cT0 fT0 lT0 cT2 fT2 lT2 cT3 fT3 lT3 cT4 fT4 lT4
  have hc11 : Below wB.heap.size wB w11 := bnext (Below.refl _ _) hb11
  replace kT0 := kT0.to hc11
  replace kT2 := kT2.to hc11
  replace kT3 := kT3.to hc11
  replace kT4 := kT4.to hc11
  replace hL := hL.below hc11
  replace hv0 := hv0.below hc11
  replace hv2 := hv2.below hc11
  replace hv9 := hv9.below hc11
  replace hv10 := hv10.below hc11
  obtain ⟨cT0, fT0, lT0⟩ := kT0.facts
  obtain ⟨cT2, fT2, lT2⟩ := kT2.facts
  obtain ⟨cT3, fT3, lT3⟩ := kT3.facts
  obtain ⟨cT4, fT4, lT4⟩ := kT4.facts
  clear cT0 fT0 lT0 cT2 fT2 lT2 cT3 fT3 lT3 cT4 fT4 lT4
  clear hv9 hv10 hl9 hl10
  replace hB0 := bnext hB0 hc11
  replace hB2 := bnext hB2 hc11
  have y11 : w4.heap.size < w11.heap.size := kT4.lt
  obtain ⟨cT0, fT0, lT0⟩ := kT0.facts
  obtain ⟨cT2, fT2, lT2⟩ := kT2.facts
  obtain ⟨cT3, fT3, lT3⟩ := kT3.facts
  obtain ⟨cT4, fT4, lT4⟩ := kT4.facts
  go_wp2_with fail
  refine (TTrimL_any r ls es _ _ hv2 hs hL).mono ?_
  rw [HT.out]
  rintro e w12 ⟨v12, u12, rfl, hv12, hi12, hl12, hI12, hb12⟩
  clear cT0 fT0 lT0 cT2 fT2 lT2 cT3 fT3 lT3 cT4 fT4 lT4
  have hc12 : Below w11.heap.size w11 w12 := bnext (Below.refl _ _) hb12
  replace kT0 := kT0.to hc12
  replace kT2 := kT2.to hc12
  replace kT3 := kT3.to hc12
  replace kT4 := kT4.to hc12
  replace hL := hL.below hc12
  replace hv0 := hv0.below hc12
  replace hv2 := hv2.below hc12
  obtain ⟨cT0, fT0, lT0⟩ := kT0.facts
  obtain ⟨cT2, fT2, lT2⟩ := kT2.facts
  obtain ⟨cT3, fT3, lT3⟩ := kT3.facts
  obtain ⟨cT4, fT4, lT4⟩ := kT4.facts
  obtain ⟨A12, c12, B12, d12, rfl, _, _, _⟩ := id hv12
  simp only [tabV] at hv12 hl12 ⊢
  replace hB0 := bnext hB0 hc12
  replace hB2 := bnext hB2 hc12
  go_upto_region 15 with fail
  clear cT0 fT0 lT0 cT2 fT2 lT2 cT3 fT3 lT3 cT4 fT4 lT4
  replace kT0 := kT0.far3 (g := w3.heap.size) (by omega) (.int .i64 tr) (.slice A12 tl.length c12) (.slice B12 te.length d12)
  replace kT2 := kT2.far3 (g := w3.heap.size) (by omega) (.int .i64 tr) (.slice A12 tl.length c12) (.slice B12 te.length d12)
  replace kT3 := kT3.put3 (.int .i64 tr) (.slice A12 tl.length c12) (.slice B12 te.length d12)
  replace kT4 := kT4.far3 (g := w3.heap.size) (by omega) (.int .i64 tr) (.slice A12 tl.length c12) (.slice B12 te.length d12)
  replace hB0 := below_put3 hB0 (g := w3.heap.size) (by omega) (.int .i64 tr) (.slice A12 tl.length c12) (.slice B12 te.length d12)
  replace hB2 := below_put3 hB2 (g := w3.heap.size) (by omega) (.int .i64 tr) (.slice A12 tl.length c12) (.slice B12 te.length d12)
  replace hv12 := tbv_put3 hv12 hl12 (g := w3.heap.size) (by omega) (.int .i64 tr) (.slice A12 tl.length c12) (.slice B12 te.length d12)
  replace hi12 := isv_put3 hi12 hI12 (g := w3.heap.size) (by omega) (.int .i64 tr) (.slice A12 tl.length c12) (.slice B12 te.length d12)
  generalize (((w12.setCell ⟨w3.heap.size, 0, none⟩ (.int .i64 tr)).setCell ⟨w3.heap.size, 1, none⟩ (.slice A12 tl.length c12)).setCell ⟨w3.heap.size, 2, none⟩ (.slice B12 te.length d12)) = wC at *
  replace hv0 := hv0b.to hB0
  replace hv2 := hv2b.to hB2
  replace hL := hLb.below hB0
  have y_wC : w4.heap.size < wC.heap.size := kT4.lt
  obtain ⟨cT0, fT0, lT0⟩ := kT0.facts
  obtain ⟨cT2, fT2, lT2⟩ := kT2.facts
  obtain ⟨cT3, fT3, lT3⟩ := kT3.facts
  obtain ⟨cT4, fT4, lT4⟩ := kT4.facts
  go_wp2_with fail
  refine (rTrim_any r ls es _ _ hv0 hs).mono ?_
  rw [HT.out]
  rintro e w13 ⟨v13, u13, rfl, hv13, hi13, hl13, hI13, hb13⟩
  clear cT0 fT0 lT0 cT2 fT2 lT2 cT3 fT3 lT3 cT4 fT4 lT4
  have hc13 : Below wC.heap.size wC w13 := bnext (Below.refl _ _) hb13
  replace kT0 := kT0.to hc13
  replace kT2 := kT2.to hc13
  replace kT3 := kT3.to hc13
  replace kT4 := kT4.to hc13
  replace hL := hL.below hc13
  replace hv0 := hv0.below hc13
  replace hv2 := hv2.below hc13
  replace hv12 := hv12.below hc13
  replace hi12 := hi12.below hc13
  obtain ⟨cT0, fT0, lT0⟩ := kT0.facts
  obtain ⟨cT2, fT2, lT2⟩ := kT2.facts
  obtain ⟨cT3, fT3, lT3⟩ := kT3.facts
  obtain ⟨cT4, fT4, lT4⟩ := kT4.facts
  obtain ⟨A13, c13, B13, d13, rfl, _, _, _⟩ := id hv13
  simp only [tabV] at hv13 hl13 ⊢
  replace hB0 := bnext hB0 hc13
  replace hB2 := bnext hB2 hc13
  go_upto_region 16 with fail
  clear cT0 fT0 lT0 cT2 fT2 lT2 cT3 fT3 lT3 cT4 fT4 lT4
  replace kT0 := kT0.far3 (g := w4.heap.size) (by omega) (.int .i64 tr) (.slice A13 tl.length c13) (.slice B13 te.length d13)
  replace kT2 := kT2.far3 (g := w4.heap.size) (by omega) (.int .i64 tr) (.slice A13 tl.length c13) (.slice B13 te.length d13)
  replace kT3 := kT3.far3 (g := w4.heap.size) (by omega) (.int .i64 tr) (.slice A13 tl.length c13) (.slice B13 te.length d13)
  replace kT4 := kT4.put3 (.int .i64 tr) (.slice A13 tl.length c13) (.slice B13 te.length d13)
  replace hB0 := below_put3 hB0 (g := w4.heap.size) (by omega) (.int .i64 tr) (.slice A13 tl.length c13) (.slice B13 te.length d13)
  replace hB2 := below_put3 hB2 (g := w4.heap.size) (by omega) (.int .i64 tr) (.slice A13 tl.length c13) (.slice B13 te.length d13)
  replace hv12 := tbv_put3 hv12 hl12 (g := w4.heap.size) (by omega) (.int .i64 tr) (.slice A13 tl.length c13) (.slice B13 te.length d13)
  replace hi12 := isv_put3 hi12 hI12 (g := w4.heap.size) (by omega) (.int .i64 tr) (.slice A13 tl.length c13) (.slice B13 te.length d13)
  replace hv13 := tbv_put3 hv13 hl13 (g := w4.heap.size) (by omega) (.int .i64 tr) (.slice A13 tl.length c13) (.slice B13 te.length d13)
  replace hi13 := isv_put3 hi13 hI13 (g := w4.heap.size) (by omega) (.int .i64 tr) (.slice A13 tl.length c13) (.slice B13 te.length d13)
  generalize (((w13.setCell ⟨w4.heap.size, 0, none⟩ (.int .i64 tr)).setCell ⟨w4.heap.size, 1, none⟩ (.slice A13 tl.length c13)).setCell ⟨w4.heap.size, 2, none⟩ (.slice B13 te.length d13)) = wD at *
  replace hv0 := hv0b.to hB0
  replace hv2 := hv2b.to hB2
  replace hL := hLb.below hB0
  have y_wD : w4.heap.size < wD.heap.size := kT4.lt
  obtain ⟨cT0, fT0, lT0⟩ := kT0.facts
  obtain ⟨cT2, fT2, lT2⟩ := kT2.facts
  obtain ⟨cT3, fT3, lT3⟩ := kT3.facts
  obtain ⟨cT4, fT4, lT4⟩ := kT4.facts
  go_wp2_with fail
  refine (SameTable_eq tr tl te _ _ _ hv12 hv13 ft1 ft2 ft3).mono ?_
  rintro e w14 ⟨rfl, hb14⟩
  clear cT0 fT0 lT0 cT2 fT2 lT2 cT3 fT3 lT3 cT4 fT4 lT4
  have hc14 : Below wD.heap.size wD w14 := bnext (Below.refl _ _) hb14
  replace kT0 := kT0.to hc14
  replace kT2 := kT2.to hc14
  replace kT3 := kT3.to hc14
  replace kT4 := kT4.to hc14
  replace hL := hL.below hc14
  replace hv0 := hv0.below hc14
  replace hv2 := hv2.below hc14
  replace hv12 := hv12.below hc14
  replace hi12 := hi12.below hc14
  replace hv13 := hv13.below hc14
  replace hi13 := hi13.below hc14
  obtain ⟨cT0, fT0, lT0⟩ := kT0.facts
  obtain ⟨cT2, fT2, lT2⟩ := kT2.facts
  obtain ⟨cT3, fT3, lT3⟩ := kT3.facts
  obtain ⟨cT4, fT4, lT4⟩ := kT4.facts
  go_wp2_with fail
  refine (SameInts_v tz _ _ _ hi12 hi13 ft4).mono ?_
  rintro e w15 ⟨rfl, hb15⟩
  clear cT0 fT0 lT0 cT2 fT2 lT2 cT3 fT3 lT3 cT4 fT4 lT4
  have hc15 : Below w14.heap.size w14 w15 := bnext (Below.refl _ _) hb15
  replace kT0 := kT0.to hc15
  replace kT2 := kT2.to hc15
  replace kT3 := kT3.to hc15
  replace kT4 := kT4.to hc15
  replace hL := hL.below hc15
  replace hv0 := hv0.below hc15
  replace hv2 := hv2.below hc15
  replace hv12 := hv12.below hc15
  replace hi12 := hi12.below hc15
  replace hv13 := hv13.below hc15
  replace hi13 := hi13.below hc15
  obtain ⟨cT0, fT0, lT0⟩ := kT0.facts
  obtain ⟨cT2, fT2, lT2⟩ := kT2.facts
  obtain ⟨cT3, fT3, lT3⟩ := kT3.facts
  obtain ⟨cT4, fT4, lT4⟩ := kT4.facts
  go_wp2_with fail
  refine (SameTable_eq r ls es _ _ _ hv2 hv0 hs (by omega) (by omega)).mono ?_
  rintro e w16 ⟨rfl, hb16⟩
  clear cT0 fT0 lT0 cT2 fT2 lT2 cT3 fT3 lT3 cT4 fT4 lT4
  have hc16 : Below w15.heap.size w15 w16 := bnext (Below.refl _ _) hb16
  replace kT0 := kT0.to hc16
  replace kT2 := kT2.to hc16
  replace kT3 := kT3.to hc16
  replace kT4 := kT4.to hc16
  replace hL := hL.below hc16
  replace hv0 := hv0.below hc16
  replace hv2 := hv2.below hc16
  replace hv12 := hv12.below hc16
  replace hi12 := hi12.below hc16
  replace hv13 := hv13.below hc16
  replace hi13 := hi13.below hc16
  obtain ⟨cT0, fT0, lT0⟩ := kT0.facts
  obtain ⟨cT2, fT2, lT2⟩ := kT2.facts
  obtain ⟨cT3, fT3, lT3⟩ := kT3.facts
  obtain ⟨cT4, fT4, lT4⟩ := kT4.facts
  go_wp2_with fail
  refine (awake_true _ hL).mono ?_
  rintro e w17 ⟨rfl, hb17⟩
  clear cT0 fT0 lT0 cT2 fT2 lT2 cT3 fT3 lT3 cT4 fT4 lT4
  have hc17 : Below w16.heap.size w16 w17 := bnext (Below.refl _ _) hb17
  replace kT0 := kT0.to hc17
  replace kT2 := kT2.to hc17
  replace kT3 := kT3.to hc17
  replace kT4 := kT4.to hc17
  replace hL := hL.below hc17
  replace hv0 := hv0.below hc17
  replace hv2 := hv2.below hc17
  replace hv12 := hv12.below hc17
  replace hi12 := hi12.below hc17
  replace hv13 := hv13.below hc17
  replace hi13 := hi13.below hc17
  obtain ⟨cT0, fT0, lT0⟩ := kT0.facts
  obtain ⟨cT2, fT2, lT2⟩ := kT2.facts
  obtain ⟨cT3, fT3, lT3⟩ := kT3.facts
  obtain ⟨cT4, fT4, lT4⟩ := kT4.facts
  go_wp2_with fail
  go_ret
  exact ⟨rfl, bnext (bnext (bnext (bnext hB0 hc14) hc15) hc16) hc17⟩
end Go.Proofs.YtnmknbnidfmmoaaDoor
