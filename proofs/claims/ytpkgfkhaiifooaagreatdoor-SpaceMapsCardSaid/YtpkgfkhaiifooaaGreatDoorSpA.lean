/- The chapter's example of an address space, and what each statement of chapter 27 asks of it. -/
import Derived.Test.YtpkgfkhaiifooaaGreatDoorSpK
import Derived.Test.YtpkgfkhaiifooaaGreatDoorAwake23
import Derived.Test.YtpkgfkhaiifooaaGreatDoorGU
import Derived.Test.YtpkgfkhaiifooaaGreatDoorGW
import Derived.Deep.DeepCutAuto
import Derived.Deep.RegionHeld3
namespace Go.Proofs.YtpkgfkhaiifooaaGreatDoor
open Go Go.Proofs Go.RowKit
set_option linter.unusedSimpArgs false
set_option linter.unusedVariables false
set_option maxRecDepth 100000

def exW (cow : Bool) : Nat := bif cow then 1289 else 1285
def exE1 (cow : Bool) : List Nat := xe0.set 9 (exW cow)
def exE (cow : Bool) : List Nat := (exE1 cow).set 10 514
def exS1 (first : Int) (cow : Bool) : Sp := ([(first, 11)], 3, xl1, exE1 cow)
def exS (first : Int) (cow : Bool) : Sp := ([(first, 11)], 3, xl1, exE cow)
theorem sp_ext {x : Sp × Int} {s : Sp} (h : x.1.1 = s.1 ∧ x.1.2 = s.2 ∧ x.2 = 0) : x = (s, 0) := by
  obtain ⟨⟨a, b⟩, c⟩ := x
  obtain ⟨h1, h2, h3⟩ := h
  simp only at h1 h2 h3
  rw [h1, h2, h3]
theorem ex_set1 (cow : Bool) : setR ([(8, 11)], 3, xl1, xe0) 9 1 5 (!cow) cow false = (exS1 8 cow, 0) ∧ setR ([(0, 11)], 3, xl1, xe0) 9 1 5 (!cow) cow false = (exS1 0 cow, 0) := by
  cases cow <;> exact ⟨sp_ext (by decide +kernel), sp_ext (by decide +kernel)⟩
theorem ex_set2 (cow : Bool) : setR (exS1 8 cow) 10 2 2 false false false = (exS 8 cow, 0) ∧ setR (exS1 0 cow) 10 2 2 false false false = (exS 0 cow, 0) := by
  cases cow <;> exact ⟨sp_ext (by decide +kernel), sp_ext (by decide +kernel)⟩
theorem exS_s1 : ∀ cow : Bool, wsmall (exE1 cow) := by unfold wsmall; decide +kernel
theorem exS_s2 : ∀ cow : Bool, wsmall (exE cow) := by unfold wsmall; decide +kernel
theorem ex_finds : accR (exS 8 false) 8 false 0 = (2, 0) ∧ accR (exS 8 false) 8 true 0 = (6, 0) ∧ accR (exS 8 false) 12 false 0 = (1, 0) := by decide +kernel

/-- A box that holds an address space. -/
def SpX (w : World) (p : Nat) (s : Sp) (lo : Nat) : Prop := ∃ A c L cl B d, Bk w p #[.slice A s.1.length c, .int .i64 s.2.1, .slice L s.2.2.1.length cl, .slice B s.2.2.2.length d] 28 ∧ SpV w (.agg #[.slice A s.1.length c, .int .i64 s.2.1, .slice L s.2.2.1.length cl, .slice B s.2.2.2.length d]) s ∧ SLoc lo (.agg #[.slice A s.1.length c, .int .i64 s.2.1, .slice L s.2.2.1.length cl, .slice B s.2.2.2.length d])
theorem Bk.newa (w : World) (o : Obj) (cs : Array Value) (t : TypeId) : Bk ((w.alloc o).alloc (.cells cs t)) (w.heap.size + 1) cs t := by have := Bk.new (w.alloc o) cs t; rwa [World.size_alloc] at this
theorem Bk.newda (w : World) (o : Obj) (cs : Array Value) (t : TypeId) : Bk ((w.drew.alloc o).alloc (.cells cs t)) (w.heap.size + 1) cs t := Bk.newa w.drew o cs t
theorem Bk.newad (w : World) (o : Obj) (cs : Array Value) (t : TypeId) : Bk ((w.alloc o).drew.alloc (.cells cs t)) (w.heap.size + 1) cs t := by have := Bk.new (w.alloc o).drew cs t; rwa [World.size_drew, World.size_alloc] at this
theorem have_to {W w' : World} {g : Nat} {cs : Array Value} {t : TypeId} {q : Prop} (hb : Below W.heap.size W w') (h : Bk W g cs t) (k : g < W.heap.size → Bk w' g cs t → q) : q := k h.lt (h.to hb)
theorem rd_pair {w : World} {g : Nat} {a b : Int} {t : TypeId} (h : Bk w g #[.int .i64 a, .int .i64 b] t) : Rd w 2 (some ⟨g, 0, none⟩) 1 (flat2 .i64 [(a, b)]) := by
  refine ⟨rfl, fun _ => ⟨g, 0, rfl, h.lt, fun j v hv => ?_⟩⟩
  rw [Nat.zero_add, h.cell j]
  rcases j with _ | _ | j
  · simpa [flat2] using hv
  · simpa [flat2] using hv
  · simp [flat2] at hv

set_option maxHeartbeats 16000000 in
theorem exampleS_any (first : Int) (cow : Bool) (hf : first = 8 ∨ first = 0) (w : World) (hL : LayOK w) :
    Calls Tryz.prog 16 #[.int .i64 first, .bool cow] w fun e w' => ∃ v, e = .returned (.tuple #[v, .bool true]) ∧ SpV w' v (exS first cow) ∧ Below w.heap.size w w' := by
  have h1 : setR ([(first, 11)], 3, xl1, xe0) 9 1 5 (!cow) cow false = (exS1 first cow, 0) := by rcases hf with rfl | rfl; exact (ex_set1 cow).1; exact (ex_set1 cow).2
  have h2 : setR (exS1 first cow) 10 2 2 false false false = (exS first cow, 0) := by rcases hf with rfl | rfl; exact (ex_set2 cow).1; exact (ex_set2 cow).2
  have HS1 := Lib.hid h1
  have HS2 := Lib.hid h2
  clear h1 h2 hf
  go_enter Tryz.func16, Tryz.ntmps16
  go_wp2_with fail
  refine (TNew_any 3 _).mono ?_
  rw [ex_new]
  rintro e w1 ⟨v1, rfl, hv1, hl1, hb1⟩
  have hc1 : Below w.heap.size w w1 := bnext (balloc (Below.refl _ _) _) hb1
  replace hL := hL.below hc1
  have kR := (Bk.new w #[.slice none 0 0, .int .i64 0, .slice none 0 0, .slice none 0 0] 28).to hb1
  obtain ⟨cR, fR, lR⟩ := kR.facts
  obtain ⟨A1, c1, B1, d1, rfl, _, _, _⟩ := id hv1
  simp only [tabV] at hv1 ⊢
  go_wp2_with fail
  refine (TSetLeaf_any 3 xl0 xe0 _ 1 7 _ (hv1.alloc _) ex_s0 (hL.alloc _)).mono ?_
  rw [ex_leaf]
  rintro e w2 ⟨v2, rfl, hv2, hl2, hb2⟩
  clear cR fR lR
  have hc2 : Below w1.heap.size w1 w2 := bnext (balloc (Below.refl _ _) _) hb2
  replace kR := kR.to hc2
  replace hL := hL.below hc2
  obtain ⟨A2, c2, B2, d2, rfl, _, _, _⟩ := id hv2
  simp only [tabV] at hv2 ⊢
  go_upto_region 3 with fail
  have kT2 := Bk.new (w2) #[.int .i64 3, .slice A2 (xl1).length c2, .slice B2 (xe0).length d2] 26
  have hcS : Below w2.heap.size w2 (w2.alloc (.cells #[.int .i64 3, .slice A2 (xl1).length c2, .slice B2 (xe0).length d2] 26)) := balloc (Below.refl _ _) (.cells #[.int .i64 3, .slice A2 (xl1).length c2, .slice B2 (xe0).length d2] 26)
  replace kR := kR.to hcS
  replace hL := hL.below hcS
  replace hv2 := hv2.below hcS
  generalize (w2).alloc (.cells #[.int .i64 3, .slice A2 (xl1).length c2, .slice B2 (xe0).length d2] 26) = wS at *
  have hBS : Below w.heap.size w wS := bnext (bnext hc1 hc2) hcS
  clear hc1 hc2 hcS hb1 hb2 hl1 hl2 hv1
  have t0 := kT2.cell 0
  have t1 := kT2.cell 1
  have t2 := kT2.cell 2
  simp at t0 t1 t2
  have lT2 := kT2.lt
  clear kT2
  go_cut [10, 11] (fun sa sb wx => ∃ p, sa = .pointer (some ⟨p, 0, none⟩) ∧ sb = .int .i64 0 ∧ SpX wx p (exS1 first cow) wS.heap.size ∧ Below wS.heap.size wS wx)
  case first =>
    go_region_held3 (fun w' => w'.cell? ⟨w2.heap.size, 0, none⟩ = some (.int .i64 3) ∧ w'.cell? ⟨w2.heap.size, 1, none⟩ = some (.slice A2 xl1.length c2) ∧ w'.cell? ⟨w2.heap.size, 2, none⟩ = some (.slice B2 xe0.length d2))
      (refine ⟨?_, ?_, ?_⟩ <;> (repeat (with_reducible first | exact t0 | exact t1 | exact t2 | refine cell_drew ?_ | refine cell_later hbP ?_ | refine cell_later hbQ ?_ | refine cell_alloc _ ?_ | refine cell_far ?_ (by show _ ≠ _; simp only; omega) _)))
      (first
        | (go_at_call 40
           have _h := hbP
           go_loud (refine (Set_any [(first, 11)] 3 xl1 xe0 _ 9 1 5 (!cow) cow false _ (spv_mk (rs := [(first, 11)]) (rd_pair (t := 72) (by repeat (with_reducible first | exact Bk.newd _ _ _ | exact Bk.newda _ _ _ _ | exact Bk.newad _ _ _ _ | exact Bk.newa _ _ _ _ | exact Bk.new _ _ _ | refine Bk.to ?_ hbP | refine Bk.alloc ?_ _ | refine Bk.drew ?_))) (by repeat (with_reducible first | exact hv2 | refine TbV.to ?_ hbP | refine TbV.drew ?_ | refine TbV.alloc ?_ _))) (by simp) ex_s0 (by repeat (with_reducible first | exact hL | refine LayOK.below ?_ hbP | refine LayOK.drew ?_ | refine LayOK.alloc ?_ _))).mono ?_)
           rw [HS1.out]
           rintro e wQ ⟨vQ, rfl, hvQ, hlQ, hbQ⟩
           obtain ⟨AQ, cQ, LQ, clQ, BQ, dQ, rfl, _, _, _, _⟩ := id hvQ
           simp only [spcV] at hvQ hlQ ⊢
           have hsQ : wS.heap.size ≤ wQ.heap.size := Nat.le_trans hsP (Nat.le_trans (by (try simp only [World.size_alloc, World.size_drew]); omega) hbQ.size)
           first
             | (refine have_to (g := wS.heap.size) (cs := #[.slice none 0 0, .int .i64 0, .slice none 0 0, .slice none 0 0]) (t := 28) hbQ ?_ ?_
                · (repeat (with_reducible first | exact Bk.newd _ _ _ | exact Bk.newda _ _ _ _ | exact Bk.newad _ _ _ _ | exact Bk.newa _ _ _ _ | exact Bk.new _ _ _ | refine Bk.to ?_ hbP | refine Bk.alloc ?_ _ | refine Bk.drew ?_))
                intro hgN kN
                obtain ⟨cN, fN, lN⟩ := kN.facts)
             | (refine have_to (g := (wS.heap.size + 1)) (cs := #[.slice none 0 0, .int .i64 0, .slice none 0 0, .slice none 0 0]) (t := 28) hbQ ?_ ?_
                · (repeat (with_reducible first | exact Bk.newd _ _ _ | exact Bk.newda _ _ _ _ | exact Bk.newad _ _ _ _ | exact Bk.newa _ _ _ _ | exact Bk.new _ _ _ | refine Bk.to ?_ hbP | refine Bk.alloc ?_ _ | refine Bk.drew ?_))
                intro hgN kN
                obtain ⟨cN, fN, lN⟩ := kN.facts)
             | (refine have_to (g := wP.heap.size) (cs := #[.slice none 0 0, .int .i64 0, .slice none 0 0, .slice none 0 0]) (t := 28) hbQ ?_ ?_
                · (repeat (with_reducible first | exact Bk.newd _ _ _ | exact Bk.newda _ _ _ _ | exact Bk.newad _ _ _ _ | exact Bk.newa _ _ _ _ | exact Bk.new _ _ _ | refine Bk.to ?_ hbP | refine Bk.alloc ?_ _ | refine Bk.drew ?_))
                intro hgN kN
                obtain ⟨cN, fN, lN⟩ := kN.facts)
             | (refine have_to (g := (wP.heap.size + 1)) (cs := #[.slice none 0 0, .int .i64 0, .slice none 0 0, .slice none 0 0]) (t := 28) hbQ ?_ ?_
                · (repeat (with_reducible first | exact Bk.newd _ _ _ | exact Bk.newda _ _ _ _ | exact Bk.newad _ _ _ _ | exact Bk.newa _ _ _ _ | exact Bk.new _ _ _ | refine Bk.to ?_ hbP | refine Bk.alloc ?_ _ | refine Bk.drew ?_))
                intro hgN kN
                obtain ⟨cN, fN, lN⟩ := kN.facts)
             | skip)
        | (go_at_call 41
           refine (page5c_any cow _).mono ?_
           rintro e wP ⟨rfl, hbP⟩
           have hsP : wS.heap.size ≤ wP.heap.size := Nat.le_trans (by (try simp only [World.size_alloc, World.size_drew]); omega) hbP.size))
    all_goals
      go_wp2_with fail
      go_meet
      first
        | exact ⟨_, rfl, rfl, ⟨AQ, cQ, LQ, clQ, BQ, dQ, kN.put4 _ _ _ _, spv_put4 hvQ hlQ hgN _ _ _ _, hlQ.mono (by (try simp only [World.size_alloc, World.size_drew]); omega)⟩, below_put4 (by repeat (with_reducible first | exact Below.refl _ _ | refine bnext ?_ hbQ | refine bnext ?_ hbP | refine below_drew ?_ | refine balloc ?_ _)) (by omega) _ _ _ _⟩
        | exact ⟨_, rfl, rfl, ⟨AQ, cQ, LQ, clQ, BQ, dQ, Bk.new _ _ _, hvQ.to (balloc (Below.refl _ _) _), hlQ.mono (by (try simp only [World.size_alloc, World.size_drew]); omega)⟩, by repeat (with_reducible first | exact Below.refl _ _ | refine bnext ?_ hbQ | refine bnext ?_ hbP | refine below_drew ?_ | refine balloc ?_ _)⟩
  case rest =>
    obtain ⟨p, rfl, rfl, ⟨AC, cC, LC, clC, BC, dC, kC, hvC, hlC⟩, hcC⟩ := hcut
    replace kR := kR.to hcC
    have hlo := kR.lt
    replace hL := hL.below hcC
    have hBC := bnext hBS hcC
    clear t0 t1 t2 lT2 hBS hcC hv2 HS1
    have hq1 : wsmall (exS1 first cow).2.2.2 := exS_s1 cow
    have hn1 : (exS1 first cow).1.length ≤ 1000000 := by simp [exS1]
    generalize exS1 first cow = s1 at *
    obtain ⟨s2, hs2⟩ : ∃ s2, s2 = exS first cow := ⟨_, rfl⟩
    rw [← hs2] at HS2
    obtain ⟨rs1, r1, ls1, es1⟩ := s1
    obtain ⟨rs2, r2, ls2, es2⟩ := s2
    have HS3 := Lib.hid hs2
    clear hs2
    simp only at kC hvC hlC hq1 hn1
    have HT := Lib.hid (Set_any rs1 r1 ls1 es1 _ 10 2 2 false false false _ hvC hn1 hq1 hL)
    rw [HS2.out] at HT
    obtain ⟨cC', fC, lC⟩ := kC.facts
    clear HS2 hq1 hn1 hvC hlC
    go_wp2_with fail
    refine HT.out.mono ?_
    rintro e w5 ⟨v5, rfl, hv5, hl5, hb5⟩
    obtain ⟨A5, c5, L5, cl5, B5, d5, rfl, _, _, _, _⟩ := id hv5
    simp only [spcV] at hv5 hl5 ⊢
    clear cC' fC lC kC HT
    replace kR := kR.to hb5
    have hB5 := bnext hBC hb5
    go_upto_region 5 with fail
    have kN := Bk.new w5 #[.slice A5 rs2.length c5, .int .i64 r2, .slice L5 ls2.length cl5, .slice B5 es2.length d5] 28
    have hcN := balloc (Below.refl _ w5) (.cells #[.slice A5 rs2.length c5, .int .i64 r2, .slice L5 ls2.length cl5, .slice B5 es2.length d5] 28)
    generalize w5.alloc (.cells #[.slice A5 rs2.length c5, .int .i64 r2, .slice L5 ls2.length cl5, .slice B5 es2.length d5] 28) = w6 at *
    replace kR := kR.to hcN
    have hB6 := bnext hB5 hcN
    have hv6 := hv5.to hcN
    obtain ⟨cN, fN, lN⟩ := kN.facts
    obtain ⟨cR, fR, lR⟩ := kR.facts
    have kF := kR.put4 (.slice A5 rs2.length c5) (.int .i64 r2) (.slice L5 ls2.length cl5) (.slice B5 es2.length d5)
    have hBF := below_put4 hB6 (g := w.heap.size) (Nat.le_refl _) (.slice A5 rs2.length c5) (.int .i64 r2) (.slice L5 ls2.length cl5) (.slice B5 es2.length d5)
    have hvF := spv_put4 hv6 hl5 hlo (.slice A5 rs2.length c5) (.int .i64 r2) (.slice L5 ls2.length cl5) (.slice B5 es2.length d5)
    go_wp2_with fail
    exact bodyPost_ret (kF.res2 (P := Tryz.prog) rfl _ rfl (by kernel_rfl) (by kernel_rfl)) rfl ⟨_, rfl, by rw [← HS3.out]; exact hvF, hBF⟩

set_option maxHeartbeats 4000000 in
theorem awake27_any (w : World) (hL : LayOK w) :
    Calls Tryz.prog 5 #[] w fun e w' => e = .returned (.bool true) ∧ Below w.heap.size w w' := by
  have hs2 := exS_s2 false
  have hsn : (exS 8 false).1.length ≤ 1000000 := by simp [exS]
  have hsq : wsmall (exS 8 false).2.2.2 := hs2
  obtain ⟨f1, f2, f3⟩ := ex_finds
  have HE := Lib.hid (exampleS_any 8 false (.inl rfl) w hL)
  generalize exS 8 false = s at *
  obtain ⟨rs, r, ls, es⟩ := s
  simp only at hsn hsq
  clear hs2
  have H1 := Lib.hid (fun v W h hl => findsT_any rs r ls es v 8 false 0 2 W h hsn hsq hl f1)
  have H2 := Lib.hid (fun v W h hl => findsT_any rs r ls es v 8 true 0 6 W h hsn hsq hl f2)
  have H3 := Lib.hid (fun v W h hl => findsT_any rs r ls es v 12 false 0 1 W h hsn hsq hl f3)
  clear f1 f2 f3 hsn hsq
  go_enter Tryz.func5, Tryz.ntmps5
  go_wp2_with fail
  refine HE.out.mono ?_
  rintro e w1 ⟨v1, rfl, hv1, hb1⟩
  have hB1 := bnext (Below.refl _ _) hb1
  obtain ⟨A, c, L, cl, B, d, rfl, _, _, _, _⟩ := id hv1
  simp only [spcV] at hv1 ⊢
  have kN := Bk.new w1 #[.slice A rs.length c, .int .i64 r, .slice L ls.length cl, .slice B es.length d] 28
  have hcN := balloc (Below.refl _ w1) (.cells #[.slice A rs.length c, .int .i64 r, .slice L ls.length cl, .slice B es.length d] 28)
  go_upto_region 2 with fail
  generalize w1.alloc (.cells #[.slice A rs.length c, .int .i64 r, .slice L ls.length cl, .slice B es.length d] 28) = w2 at *
  replace hB1 := bnext hB1 hcN
  have hL2 := hL.below hB1
  have hv2 := hv1.to hcN
  obtain ⟨cN, fN, lN⟩ := kN.facts
  go_wp2_with fail
  refine (H1.out _ _ hv2 hL2).mono ?_
  rintro e w3 ⟨rfl, hb3⟩
  clear cN fN lN
  obtain ⟨cN, fN, lN⟩ := (kN.to hb3).facts
  go_wp2_with fail
  refine (H2.out _ _ (hv2.to hb3) (hL2.below hb3)).mono ?_
  rintro e w4 ⟨rfl, hb4⟩
  clear cN fN lN
  obtain ⟨cN, fN, lN⟩ := ((kN.to hb3).to hb4).facts
  go_wp2_with fail
  refine (H3.out _ _ ((hv2.to hb3).to hb4) ((hL2.below hb3).below hb4)).mono ?_
  rintro e w5 ⟨rfl, hb5⟩
  go_wp2_with fail
  go_ret
  exact ⟨rfl, bnext (bnext (bnext hB1 hb3) hb4) hb5⟩
end Go.Proofs.YtpkgfkhaiifooaaGreatDoor
