/- TableLooks returns true for every table and all numbers. -/
import Derived.Test.YtnmknbnidfmmoaaDoorAwake23b
import Derived.Test.YtnmknbnidfmmoaaDoorTR5
import Derived.Deep.RegionHeld3
import Derived.Deep.DeepCutAuto
namespace Go.Proofs.YtnmknbnidfmmoaaDoor
open Go Go.Proofs Go.RowKit
set_option linter.unusedSimpArgs false
set_option linter.unusedVariables false
set_option maxRecDepth 100000

theorem light_any (r : Int) (n m : Nat) (A B : Option Addr) (c d : Nat) (w : World) :
    Calls Tryd.prog 9 #[.agg #[.int .i64 r, .slice A n c, .slice B m d]] w fun e w' => e = .returned (.bool (decide (n ≤ 10) && decide (m ≤ 70))) ∧ Below w.heap.size w w' := by
  have hB1 := balloc (Below.refl _ w) (.cells #[.int .i64 r, .slice A n c, .slice B m d] 25)
  by_cases h1 : n ≤ 10
  · have d1 : decide ((n : Int) ≤ 10) = true := by simp; omega
    have e1 : decide (n ≤ 10) = true := by simpa using h1
    have e2 : decide (m ≤ 70) = decide ((m : Int) ≤ 70) := by rw [decide_eq_decide]; omega
    rw [e1, e2, Bool.true_and]
    clear h1 e1 e2
    go_enter Tryd.func9, Tryd.ntmps9
    go_wp2_with fail
    go_ret
    exact ⟨rfl, hB1⟩
  · have d1 : decide ((n : Int) ≤ 10) = false := by simp; omega
    have e1 : decide (n ≤ 10) = false := by simpa using h1
    rw [e1, Bool.false_and]
    clear h1 e1
    go_enter Tryd.func9, Tryd.ntmps9
    go_wp2_with fail
    go_ret
    exact ⟨rfl, hB1⟩
theorem new_small (root : Int) : wsmall (newR root).1.2.2 ∧ (newR root).1.2.1.length ≤ 1000 ∧ (newR root).1.2.2.length ≤ 1000 := by
  unfold newR
  split
  · exact ⟨fun x hx => by simp [tb0] at hx, by simp [tb0], by simp [tb0]⟩
  · refine ⟨fun x hx => ?_, by simp, by simp⟩
    rw [List.eq_of_mem_replicate hx]
    decide
theorem frmR_len (r : Int) (ls : List Int) (es : List Nat) : (frmR r ls es).1.length ≤ 1000 := by
  unfold frmR
  split
  · simp
  · have := frmL_len ls 8
    rw [List.length_append]
    split <;> simp <;> omega
theorem pagR_len (r : Int) (ls : List Int) (es : List Nat) (kd : Int) : (pagR r ls es kd).1.length ≤ 1000 := by
  unfold pagR
  split
  · simp
  · split
    · simp
    · have := kinL_len es kd 64
      simp only
      omega
set_option maxHeartbeats 8000000 in
theorem TableLooks_true (r : Int) (ls : List Int) (es : List Nat) (A B : Option Addr) (c d : Nat) (page kind root : Int) (w : World) (hA : Rd w 1 A ls.length (iw ls)) (hB : Rd w 1 B es.length (uw es)) (hcc : ls.length ≤ c) (hs : wsmall es) (hL : LayOK w) :
    Calls Tryd.prog 3 #[.agg #[.int .i64 r, .slice A ls.length c, .slice B es.length d], .int .i64 page, .int .i64 kind, .int .i64 root] w fun e w' => e = .returned (.bool true) ∧ Below w.heap.size w w' := by
  have hv0 : TbV w (.agg #[.int .i64 r, .slice A ls.length c, .slice B es.length d]) (r, ls, es) := ⟨A, c, B, d, rfl, hA, hB, hcc⟩
  by_cases hli : ls.length ≤ 10 ∧ es.length ≤ 70
  case neg =>
    have hd : (decide (ls.length ≤ 10) && decide (es.length ≤ 70)) = false := by
      rw [Bool.and_eq_false_iff]
      simp only [decide_eq_false_iff_not]
      omega
    have HL := Lib.hid (light_any r ls.length es.length A B c d)
    rw [hd] at HL
    clear hd
    go_enter Tryd.func3, Tryd.ntmps3
    go_wp2_with fail
    refine (HL.out _).mono ?_
    rintro e w1 ⟨rfl, hb1⟩
    go_wp2_with fail
    refine (awake_true _ ((hL.alloc _).below hb1)).mono ?_
    rintro e w2 ⟨rfl, hb2⟩
    go_wp2_with fail
    go_ret
    exact ⟨rfl, by (repeat' (first | exact Below.refl _ _ | assumption | refine balloc ?_ _ | refine below_drawn ?_ _ | refine below_drew ?_ | refine bnext ?_ hb24 | refine bnext ?_ hb23 | refine bnext ?_ hb22 | refine bnext ?_ hb21 | refine bnext ?_ hb20 | refine bnext ?_ hb19 | refine bnext ?_ hb18 | refine bnext ?_ hb17 | refine bnext ?_ hb16 | refine bnext ?_ hb15 | refine bnext ?_ hb14 | refine bnext ?_ hb13 | refine bnext ?_ hb12 | refine bnext ?_ hb11 | refine bnext ?_ hb10 | refine bnext ?_ hb9 | refine bnext ?_ hb8 | refine bnext ?_ hb7 | refine bnext ?_ hb6 | refine bnext ?_ hb5 | refine bnext ?_ hb4 | refine bnext ?_ hb3 | refine bnext ?_ hb2 | refine bnext ?_ hb1))⟩
  obtain ⟨hn, hm⟩ := hli
  have hd : (decide (ls.length ≤ 10) && decide (es.length ≤ 70)) = true := by simp [hn, hm]
  have HL := Lib.hid (light_any r ls.length es.length A B c d)
  rw [hd] at HL
  clear hd
  obtain ⟨sn1, sn2, sn3⟩ := new_small root
  rcases hnew : newR root with ⟨⟨nr, nl, ne⟩, nE⟩
  have HN := Lib.hid hnew
  rw [hnew] at sn1 sn2 sn3
  simp only at sn1 sn2 sn3
  have HFl := Lib.hid (frmR_len r ls es)
  have HPl := Lib.hid (pagR_len r ls es kind)
  rcases hget : getR r ls es page with ⟨⟨gk, gn, ga, gb, gc⟩, gE⟩
  have HG := Lib.hid hget
  rcases hlack : lackR r ls es page with ⟨lk, lE⟩
  have HK := Lib.hid hlack
  rcases hfrm : frmR r ls es with ⟨fz, fE⟩
  have HF := Lib.hid hfrm
  rcases hpag : pagR r ls es kind with ⟨pz, pE⟩
  have HP := Lib.hid hpag
  rcases hcnt : cntR r ls es with ⟨n1, n2, nC⟩
  have HC := Lib.hid hcnt
  rw [hfrm] at HFl
  rw [hpag] at HPl
  clear hnew hget hlack hfrm hpag hcnt
  go_enter Tryd.func3, Tryd.ntmps3
  go_wp2_with fail
  refine (HL.out _).mono ?_
  rintro e w1 ⟨rfl, hb1⟩
  have hc1 : Below w.heap.size w w1 := bnext (balloc (Below.refl _ _) _) hb1
  replace hA := hA.below hc1 (Nat.le_refl _)
  replace hB := hB.below hc1 (Nat.le_refl _)
  replace hL := hL.below hc1
  replace hv0 := hv0.below hc1
  have kT0 := (Bk.new w #[.int .i64 r, .slice A ls.length c, .slice B es.length d] 25).to hb1
  obtain ⟨cT0, fT0, lT0⟩ := kT0.facts
  go_wp2_with fail
  refine (OwnTable_any r ls es A B c d _ hA hB (by omega) (by omega)).mono ?_
  rintro e w2 ⟨v2, rfl, hv2, hb2⟩
  clear cT0 fT0 lT0
  have hc2 : Below w1.heap.size w1 w2 := bnext (Below.refl _ _) hb2
  replace kT0 := kT0.to hc2
  replace hA := hA.below hc2 (Nat.le_refl _)
  replace hB := hB.below hc2 (Nat.le_refl _)
  replace hL := hL.below hc2
  replace hv0 := hv0.below hc2
  obtain ⟨cT0, fT0, lT0⟩ := kT0.facts
  obtain ⟨A2, c2, B2, d2, rfl, _, _, _⟩ := id hv2
  simp only [tabV] at hv2 ⊢
  go_wp2_with fail
  refine (TNew_any root _).mono ?_
  rw [HN.out]
  rintro e w3 ⟨v3, rfl, hv3, hl3, hb3⟩
  clear cT0 fT0 lT0
  have hc3 : Below w2.heap.size w2 w3 := bnext (balloc (Below.refl _ _) _) hb3
  replace kT0 := kT0.to hc3
  replace hA := hA.below hc3 (Nat.le_refl _)
  replace hB := hB.below hc3 (Nat.le_refl _)
  replace hL := hL.below hc3
  replace hv0 := hv0.below hc3
  replace hv2 := hv2.below hc3
  have kT2 := (Bk.new w2 #[.int .i64 r, .slice A2 ls.length c2, .slice B2 es.length d2] 25).to hb3
  obtain ⟨cT0, fT0, lT0⟩ := kT0.facts
  obtain ⟨cT2, fT2, lT2⟩ := kT2.facts
  obtain ⟨A3, c3, B3, d3, rfl, _, _, _⟩ := id hv3
  simp only [tabV] at hv3 ⊢
  go_wp2_with fail
  refine (rNew_any root _).mono ?_
  rw [HN.out]
  rintro e w4 ⟨v4, rfl, hv4, hl4, hb4⟩
  clear cT0 fT0 lT0 cT2 fT2 lT2
  have hc4 : Below w3.heap.size w3 w4 := bnext (balloc (Below.refl _ _) _) hb4
  replace kT0 := kT0.to hc4
  replace kT2 := kT2.to hc4
  replace hA := hA.below hc4 (Nat.le_refl _)
  replace hB := hB.below hc4 (Nat.le_refl _)
  replace hL := hL.below hc4
  replace hv0 := hv0.below hc4
  replace hv2 := hv2.below hc4
  replace hv3 := hv3.below hc4
  have kT3 := (Bk.new w3 #[.int .i64 nr, .slice A3 (nl).length c3 , .slice B3 (ne).length d3] 25).to hb4
  obtain ⟨cT0, fT0, lT0⟩ := kT0.facts
  obtain ⟨cT2, fT2, lT2⟩ := kT2.facts
  obtain ⟨cT3, fT3, lT3⟩ := kT3.facts
  obtain ⟨A4, c4, B4, d4, rfl, _, _, _⟩ := id hv4
  simp only [tabV] at hv4 ⊢
  go_wp2_with fail
  have kT4 := Bk.new (w4) #[.int .i64 nr, .slice A4 (nl).length c4 , .slice B4 (ne).length d4] 25
  clear cT0 fT0 lT0 cT2 fT2 lT2 cT3 fT3 lT3
  have hc_wS : Below w4.heap.size w4 ((w4).alloc (.cells #[.int .i64 nr, .slice A4 (nl).length c4 , .slice B4 (ne).length d4] 25)) := balloc (Below.refl _ _) (.cells #[.int .i64 nr, .slice A4 (nl).length c4 , .slice B4 (ne).length d4] 25)
  replace kT0 := kT0.to hc_wS
  replace kT2 := kT2.to hc_wS
  replace kT3 := kT3.to hc_wS
  replace hA := hA.below hc_wS (Nat.le_refl _)
  replace hB := hB.below hc_wS (Nat.le_refl _)
  replace hL := hL.below hc_wS
  replace hv0 := hv0.below hc_wS
  replace hv2 := hv2.below hc_wS
  replace hv3 := hv3.below hc_wS
  replace hv4 := hv4.below hc_wS
  generalize (w4).alloc (.cells #[.int .i64 nr, .slice A4 (nl).length c4 , .slice B4 (ne).length d4] 25) = wS at *
  have qT30 : wS.cell? ⟨w3.heap.size, 0, none⟩ = some (.int .i64 nr) := kT3.cell 0
  have qT31 : wS.cell? ⟨w3.heap.size, 1, none⟩ = some (.slice A3 nl.length c3) := kT3.cell 1
  have qT32 : wS.cell? ⟨w3.heap.size, 2, none⟩ = some (.slice B3 ne.length d3) := kT3.cell 2
  have qT40 : wS.cell? ⟨w4.heap.size, 0, none⟩ = some (.int .i64 nr) := kT4.cell 0
  have qT41 : wS.cell? ⟨w4.heap.size, 1, none⟩ = some (.slice A4 nl.length c4) := kT4.cell 1
  have qT42 : wS.cell? ⟨w4.heap.size, 2, none⟩ = some (.slice B4 ne.length d4) := kT4.cell 2
  have qT20 : wS.cell? ⟨w2.heap.size, 0, none⟩ = some (.int .i64 r) := kT2.cell 0
  have qT21 : wS.cell? ⟨w2.heap.size, 1, none⟩ = some (.slice A2 ls.length c2) := kT2.cell 1
  have qT22 : wS.cell? ⟨w2.heap.size, 2, none⟩ = some (.slice B2 es.length d2) := kT2.cell 2
  have qT00 : wS.cell? ⟨w.heap.size, 0, none⟩ = some (.int .i64 r) := kT0.cell 0
  have qT01 : wS.cell? ⟨w.heap.size, 1, none⟩ = some (.slice A ls.length c) := kT0.cell 1
  have qT02 : wS.cell? ⟨w.heap.size, 2, none⟩ = some (.slice B es.length d) := kT0.cell 2
  go_region_held3 (fun w' => w'.cell? ⟨w3.heap.size, 0, none⟩ = some (.int .i64 nr) ∧ w'.cell? ⟨w3.heap.size, 1, none⟩ = some (.slice A3 nl.length c3) ∧ w'.cell? ⟨w3.heap.size, 2, none⟩ = some (.slice B3 ne.length d3) ∧ w'.cell? ⟨w4.heap.size, 0, none⟩ = some (.int .i64 nr) ∧ w'.cell? ⟨w4.heap.size, 1, none⟩ = some (.slice A4 nl.length c4) ∧ w'.cell? ⟨w4.heap.size, 2, none⟩ = some (.slice B4 ne.length d4) ∧ w'.cell? ⟨w2.heap.size, 0, none⟩ = some (.int .i64 r) ∧ w'.cell? ⟨w2.heap.size, 1, none⟩ = some (.slice A2 ls.length c2) ∧ w'.cell? ⟨w2.heap.size, 2, none⟩ = some (.slice B2 es.length d2) ∧ w'.cell? ⟨w.heap.size, 0, none⟩ = some (.int .i64 r) ∧ w'.cell? ⟨w.heap.size, 1, none⟩ = some (.slice A ls.length c) ∧ w'.cell? ⟨w.heap.size, 2, none⟩ = some (.slice B es.length d))
    (refine ⟨?_, ?_, ?_, ?_, ?_, ?_, ?_, ?_, ?_, ?_, ?_, ?_⟩ <;> (repeat (with_reducible first | exact qT30 | exact qT31 | exact qT32 | exact qT40 | exact qT41 | exact qT42 | exact qT20 | exact qT21 | exact qT22 | exact qT00 | exact qT01 | exact qT02 | refine cell_drew ?_ | refine cell_later hbZ ?_ | refine cell_later hbY ?_ | refine cell_later hbX ?_)))
    (first
      | (go_at_call 14; refine (SameTable_eq nr nl ne _ _ _ (by repeat (with_reducible first | exact hv3 | refine TbV.drew ?_ | refine TbV.to ?_ hbX | refine TbV.to ?_ hbY)) (by repeat (with_reducible first | exact hv4 | refine TbV.drew ?_ | refine TbV.to ?_ hbX | refine TbV.to ?_ hbY)) sn1 sn2 sn3).mono ?_; rintro e wX ⟨rfl, hbX⟩)
      | (go_at_call 15; refine (TCheck_any r ls es _ _ (by repeat (with_reducible first | exact hv2 | refine TbV.drew ?_ | refine TbV.to ?_ hbX | refine TbV.to ?_ hbY)) hs (by repeat (with_reducible first | exact hL | refine LayOK.drew ?_ | refine LayOK.below ?_ hbX))).mono ?_; rintro e wY ⟨rfl, hbY⟩)
      | (go_at_call 16; refine (rTCheck_any r ls es _ _ (by repeat (with_reducible first | exact hv0 | refine TbV.drew ?_ | refine TbV.to ?_ hbX | refine TbV.to ?_ hbY)) hs).mono ?_; rintro e wZ ⟨rfl, hbZ⟩))
  clear qT30 qT31 qT32 qT40 qT41 qT42 qT20 qT21 qT22 qT00 qT01 qT02
  have hcZ : Below wS.heap.size wS wZ := bnext (bnext (bnext (below_drew (Below.refl _ _)) hbX) hbY) hbZ
  have hBZ : Below w.heap.size w wZ := bnext (bnext (bnext (bnext (bnext (bnext hc1 hc2) hc3) hc4) hc_wS) hcZ) (Below.refl _ _)
  replace kT0 := kT0.to hcZ
  replace kT2 := kT2.to hcZ
  replace hL := hL.below hcZ
  replace hv0 := hv0.below hcZ
  replace hv2 := hv2.below hcZ
  clear hb1 hb2 hb3 hb4 hl3 hl4 hbX hbY hbZ kT3 kT4 hv3 hv4 hc1 hc2 hc3 hc4 hc_wS hA hB
  try clear hHeld
  obtain ⟨cT0, fT0, lT0⟩ := kT0.facts
  obtain ⟨cT2, fT2, lT2⟩ := kT2.facts
  go_wp2_with fail
  refine (TGet_any r ls es _ page _ hv2 hs hL).mono ?_
  rw [HG.out]
  rintro e w5 ⟨rfl, hb5⟩
  clear cT0 fT0 lT0 cT2 fT2 lT2
  have hc5 : Below wZ.heap.size wZ w5 := bnext (Below.refl _ _) hb5
  replace kT0 := kT0.to hc5
  replace kT2 := kT2.to hc5
  replace hL := hL.below hc5
  replace hv0 := hv0.below hc5
  replace hv2 := hv2.below hc5
  simp only
  obtain ⟨cT0, fT0, lT0⟩ := kT0.facts
  obtain ⟨cT2, fT2, lT2⟩ := kT2.facts
  go_wp2_with fail
  refine (rGet_any r ls es _ page _ (hv0.alloc _) hs).mono ?_
  rw [HG.out]
  rintro e w6 ⟨rfl, hb6⟩
  clear cT0 fT0 lT0 cT2 fT2 lT2
  have hc6 : Below w5.heap.size w5 w6 := bnext (balloc (Below.refl _ _) _) hb6
  replace kT0 := kT0.to hc6
  replace kT2 := kT2.to hc6
  replace hL := hL.below hc6
  replace hv0 := hv0.below hc6
  replace hv2 := hv2.below hc6
  have kE5 := (Bk.new w5 #[.int .i64 gk, .int .i64 gn, .bool ga, .bool gb, .bool gc] 35).to hb6
  simp only
  obtain ⟨cT0, fT0, lT0⟩ := kT0.facts
  obtain ⟨cT2, fT2, lT2⟩ := kT2.facts
  obtain ⟨cE5, fE5, lE5⟩ := kE5.facts
  go_wp2_with fail
  refine (TLacks_any r ls es _ page _ (hv2.alloc _) hs (hL.alloc _)).mono ?_
  rw [HK.out]
  rintro e w7 ⟨rfl, hb7⟩
  clear cT0 fT0 lT0 cT2 fT2 lT2 cE5 fE5 lE5
  have hc7 : Below w6.heap.size w6 w7 := bnext (balloc (Below.refl _ _) _) hb7
  replace kT0 := kT0.to hc7
  replace kT2 := kT2.to hc7
  replace kE5 := kE5.to hc7
  replace hL := hL.below hc7
  replace hv0 := hv0.below hc7
  replace hv2 := hv2.below hc7
  have kE6 := (Bk.new w6 #[.int .i64 gk, .int .i64 gn, .bool ga, .bool gb, .bool gc] 35).to hb7
  obtain ⟨cT0, fT0, lT0⟩ := kT0.facts
  obtain ⟨cT2, fT2, lT2⟩ := kT2.facts
  obtain ⟨cE5, fE5, lE5⟩ := kE5.facts
  obtain ⟨cE6, fE6, lE6⟩ := kE6.facts
  go_wp2_with fail
  refine (rLacks_any r ls es _ page _ hv0 hs).mono ?_
  rw [HK.out]
  rintro e w8 ⟨rfl, hb8⟩
  clear cT0 fT0 lT0 cT2 fT2 lT2 cE5 fE5 lE5 cE6 fE6 lE6
  have hc8 : Below w7.heap.size w7 w8 := bnext (Below.refl _ _) hb8
  replace kT0 := kT0.to hc8
  replace kT2 := kT2.to hc8
  replace kE5 := kE5.to hc8
  replace kE6 := kE6.to hc8
  replace hL := hL.below hc8
  replace hv0 := hv0.below hc8
  replace hv2 := hv2.below hc8
  obtain ⟨cT0, fT0, lT0⟩ := kT0.facts
  obtain ⟨cT2, fT2, lT2⟩ := kT2.facts
  obtain ⟨cE5, fE5, lE5⟩ := kE5.facts
  obtain ⟨cE6, fE6, lE6⟩ := kE6.facts
  go_wp2_with fail
  refine (TFrames_any r ls es _ _ hv2 hs hL).mono ?_
  rw [HF.out]
  rintro e w9 ⟨v9, rfl, hi9, hb9⟩
  clear cT0 fT0 lT0 cT2 fT2 lT2 cE5 fE5 lE5 cE6 fE6 lE6
  have hc9 : Below w8.heap.size w8 w9 := bnext (Below.refl _ _) hb9
  replace kT0 := kT0.to hc9
  replace kT2 := kT2.to hc9
  replace kE5 := kE5.to hc9
  replace kE6 := kE6.to hc9
  replace hL := hL.below hc9
  replace hv0 := hv0.below hc9
  replace hv2 := hv2.below hc9
  obtain ⟨cT0, fT0, lT0⟩ := kT0.facts
  obtain ⟨cT2, fT2, lT2⟩ := kT2.facts
  obtain ⟨cE5, fE5, lE5⟩ := kE5.facts
  obtain ⟨cE6, fE6, lE6⟩ := kE6.facts
  clear kE5 kE6
  clear cE5 fE5 lE5 cE6 fE6 lE6
  go_wp2_with fail
  refine (rFrames_any r ls es _ _ hv0 hs).mono ?_
  rw [HF.out]
  rintro e w10 ⟨v10, rfl, hi10, hb10⟩
  clear cT0 fT0 lT0 cT2 fT2 lT2
  have hc10 : Below w9.heap.size w9 w10 := bnext (Below.refl _ _) hb10
  replace kT0 := kT0.to hc10
  replace kT2 := kT2.to hc10
  replace hL := hL.below hc10
  replace hv0 := hv0.below hc10
  replace hv2 := hv2.below hc10
  replace hi9 := hi9.below hc10
  obtain ⟨cT0, fT0, lT0⟩ := kT0.facts
  obtain ⟨cT2, fT2, lT2⟩ := kT2.facts
  go_wp2_with fail
  refine (TPages_any r ls es _ kind _ hv2 hs hL).mono ?_
  rw [HP.out]
  rintro e w11 ⟨v11, rfl, hi11, hb11⟩
  clear cT0 fT0 lT0 cT2 fT2 lT2
  have hc11 : Below w10.heap.size w10 w11 := bnext (Below.refl _ _) hb11
  replace kT0 := kT0.to hc11
  replace kT2 := kT2.to hc11
  replace hL := hL.below hc11
  replace hv0 := hv0.below hc11
  replace hv2 := hv2.below hc11
  replace hi9 := hi9.below hc11
  replace hi10 := hi10.below hc11
  obtain ⟨cT0, fT0, lT0⟩ := kT0.facts
  obtain ⟨cT2, fT2, lT2⟩ := kT2.facts
  go_wp2_with fail
  refine (rPages_any r ls es _ kind _ hv0 hs).mono ?_
  rw [HP.out]
  rintro e w12 ⟨v12, rfl, hi12, hb12⟩
  clear cT0 fT0 lT0 cT2 fT2 lT2
  have hc12 : Below w11.heap.size w11 w12 := bnext (Below.refl _ _) hb12
  replace kT0 := kT0.to hc12
  replace kT2 := kT2.to hc12
  replace hL := hL.below hc12
  replace hv0 := hv0.below hc12
  replace hv2 := hv2.below hc12
  replace hi9 := hi9.below hc12
  replace hi10 := hi10.below hc12
  replace hi11 := hi11.below hc12
  obtain ⟨cT0, fT0, lT0⟩ := kT0.facts
  obtain ⟨cT2, fT2, lT2⟩ := kT2.facts
  go_wp2_with fail
  refine (SameInts_v fz _ _ _ hi9 hi10 HFl.out).mono ?_
  rintro e w13 ⟨rfl, hb13⟩
  clear cT0 fT0 lT0 cT2 fT2 lT2
  have hc13 : Below w12.heap.size w12 w13 := bnext (Below.refl _ _) hb13
  replace kT0 := kT0.to hc13
  replace kT2 := kT2.to hc13
  replace hL := hL.below hc13
  replace hv0 := hv0.below hc13
  replace hv2 := hv2.below hc13
  replace hi9 := hi9.below hc13
  replace hi10 := hi10.below hc13
  replace hi11 := hi11.below hc13
  replace hi12 := hi12.below hc13
  obtain ⟨cT0, fT0, lT0⟩ := kT0.facts
  obtain ⟨cT2, fT2, lT2⟩ := kT2.facts
  go_wp2_with fail
  refine (SameInts_v pz _ _ _ hi11 hi12 HPl.out).mono ?_
  rintro e w14 ⟨rfl, hb14⟩
  clear cT0 fT0 lT0 cT2 fT2 lT2
  have hc14 : Below w13.heap.size w13 w14 := bnext (Below.refl _ _) hb14
  replace kT0 := kT0.to hc14
  replace kT2 := kT2.to hc14
  replace hL := hL.below hc14
  replace hv0 := hv0.below hc14
  replace hv2 := hv2.below hc14
  replace hi9 := hi9.below hc14
  replace hi10 := hi10.below hc14
  replace hi11 := hi11.below hc14
  replace hi12 := hi12.below hc14
  obtain ⟨cT0, fT0, lT0⟩ := kT0.facts
  obtain ⟨cT2, fT2, lT2⟩ := kT2.facts
  go_wp2_with fail
  refine (TCounts_any r ls es _ _ hv2 hs hL).mono ?_
  rw [HC.out]
  rintro e w15 ⟨rfl, hb15⟩
  clear cT0 fT0 lT0 cT2 fT2 lT2
  have hc15 : Below w14.heap.size w14 w15 := bnext (Below.refl _ _) hb15
  replace kT0 := kT0.to hc15
  replace kT2 := kT2.to hc15
  replace hL := hL.below hc15
  replace hv0 := hv0.below hc15
  replace hv2 := hv2.below hc15
  replace hi9 := hi9.below hc15
  replace hi10 := hi10.below hc15
  replace hi11 := hi11.below hc15
  replace hi12 := hi12.below hc15
  obtain ⟨cT0, fT0, lT0⟩ := kT0.facts
  obtain ⟨cT2, fT2, lT2⟩ := kT2.facts
  go_wp2_with fail
  refine (rCounts_any r ls es _ _ hv0 hs).mono ?_
  rw [HC.out]
  rintro e w16 ⟨rfl, hb16⟩
  clear cT0 fT0 lT0 cT2 fT2 lT2
  have hc16 : Below w15.heap.size w15 w16 := bnext (Below.refl _ _) hb16
  replace kT0 := kT0.to hc16
  replace kT2 := kT2.to hc16
  replace hL := hL.below hc16
  replace hv0 := hv0.below hc16
  replace hv2 := hv2.below hc16
  replace hi9 := hi9.below hc16
  replace hi10 := hi10.below hc16
  replace hi11 := hi11.below hc16
  replace hi12 := hi12.below hc16
  obtain ⟨cT0, fT0, lT0⟩ := kT0.facts
  obtain ⟨cT2, fT2, lT2⟩ := kT2.facts
  go_wp2_with fail
  refine (SameTable_eq r ls es _ _ _ hv2 hv0 hs (by omega) (by omega)).mono ?_
  rintro e w17 ⟨rfl, hb17⟩
  clear cT0 fT0 lT0 cT2 fT2 lT2
  have hc17 : Below w16.heap.size w16 w17 := bnext (Below.refl _ _) hb17
  replace kT0 := kT0.to hc17
  replace kT2 := kT2.to hc17
  replace hL := hL.below hc17
  replace hv0 := hv0.below hc17
  replace hv2 := hv2.below hc17
  replace hi9 := hi9.below hc17
  replace hi10 := hi10.below hc17
  replace hi11 := hi11.below hc17
  replace hi12 := hi12.below hc17
  obtain ⟨cT0, fT0, lT0⟩ := kT0.facts
  obtain ⟨cT2, fT2, lT2⟩ := kT2.facts
  go_wp2_with fail
  refine (awake_true _ hL).mono ?_
  rintro e w18 ⟨rfl, hb18⟩
  clear cT0 fT0 lT0 cT2 fT2 lT2
  have hc18 : Below w17.heap.size w17 w18 := bnext (Below.refl _ _) hb18
  replace kT0 := kT0.to hc18
  replace kT2 := kT2.to hc18
  replace hL := hL.below hc18
  replace hv0 := hv0.below hc18
  replace hv2 := hv2.below hc18
  replace hi9 := hi9.below hc18
  replace hi10 := hi10.below hc18
  replace hi11 := hi11.below hc18
  replace hi12 := hi12.below hc18
  obtain ⟨cT0, fT0, lT0⟩ := kT0.facts
  obtain ⟨cT2, fT2, lT2⟩ := kT2.facts
  go_wp2_with fail
  go_ret
  exact ⟨rfl, bnext (bnext (bnext (bnext (bnext (bnext (bnext (bnext (bnext (bnext (bnext (bnext (bnext (bnext hBZ hc5) hc6) hc7) hc8) hc9) hc10) hc11) hc12) hc13) hc14) hc15) hc16) hc17) hc18⟩
end Go.Proofs.YtnmknbnidfmmoaaDoor
