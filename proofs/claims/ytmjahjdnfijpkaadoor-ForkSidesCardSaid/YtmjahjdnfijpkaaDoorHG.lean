/- Several texts in one. -/
import Derived.Test.YtmjahjdnfijpkaaDoorFkT
import Derived.Test.YtmjahjdnfijpkaaDoorFkB
import Derived.Deep.RegionHeld3
/- The statements' example of chapter 28. -/
namespace Go.Proofs.YtmjahjdnfijpkaaDoor
open Go Go.Proofs Go.RowKit
set_option linter.unusedSimpArgs false
set_option linter.unusedVariables false
set_option maxRecDepth 100000

def fxA : Nat := packN 1 7 true false true
def fxB : Nat := packN 2 2 false false false
theorem fxA_p : packR 1 7 true false true = ((fxA : Int), 0) := by decide +kernel
theorem fxB_p : packR 2 2 false false false = ((fxB : Int), 0) := by decide +kernel
def exL : List Int := (List.replicate 8 (-1)).set 0 1
def exW : List Nat := (wz.set 3 fxA).set 4 fxB
def exF : Sp := ([(3, 5)], 0, exL, exW)
theorem rd_pairF {w : World} {g : Nat} {a b : Int} {t : TypeId} (h : Bk w g #[.int .i64 a, .int .i64 b] t) : Rd w 2 (some ⟨g, 0, none⟩) 1 (flat2 .i64 [(a, b)]) := by
  refine ⟨rfl, fun _ => ⟨g, 0, rfl, h.lt, fun j v hv => ?_⟩⟩
  rw [Nat.zero_add, h.cell j]
  rcases j with _ | _ | j
  · simpa [flat2] using hv
  · simpa [flat2] using hv
  · simp [flat2] at hv

set_option maxHeartbeats 4000000 in
theorem example28_any (w : World) : Calls Tryd.prog 36 #[] w fun e w' => ∃ v, e = .returned v ∧ SpV w' v exF ∧ Below w.heap.size w w' := by
  have kR := Bk.new w #[.slice none 0 0, .int .i64 0, .slice none 0 0, .slice none 0 0] 28
  have hB1 := balloc (Below.refl _ w) (.cells #[.slice none 0 0, .int .i64 0, .slice none 0 0, .slice none 0 0] 28)
  go_enter Tryd.func36, Tryd.ntmps36
  go_wp2_with fail
  refine (bare28_any 0 _).mono ?_
  rintro e w2 ⟨gA, cA, gB, cB, rfl, hO, hb2⟩
  replace kR := kR.to hb2
  replace hB1 := bnext hB1 hb2
  rw [World.size_alloc] at hO
  clear hb2
  go_upto_region 2 with fail
  have kP := Bk.new w2 #[.slice none 0 0, .int .i64 0, .slice (some ⟨gA, 0, none⟩) 8 cA, .slice (some ⟨gB, 0, none⟩) 64 cB] 28
  have hcN := balloc (Below.refl _ w2) (.cells #[.slice none 0 0, .int .i64 0, .slice (some ⟨gA, 0, none⟩) 8 cA, .slice (some ⟨gB, 0, none⟩) 64 cB] 28)
  have hlO := hO.lt
  have hR2 := kR.lt
  replace hO := hO.to hcN
  replace kR := kR.to hcN
  replace hB1 := bnext hB1 hcN
  generalize hw3 : w2.alloc (.cells #[.slice none 0 0, .int .i64 0, .slice (some ⟨gA, 0, none⟩) 8 cA, .slice (some ⟨gB, 0, none⟩) 64 cB] 28) = w3 at *
  have hs3 : w3.heap.size = w2.heap.size + 1 := by rw [← hw3]; simp
  obtain ⟨P, hP⟩ : ∃ P, P = w2.heap.size := ⟨_, rfl⟩
  rw [← hP] at kP hlO hR2 hs3 ⊢
  clear hcN hw3 hP
  obtain ⟨cP, fP, lP⟩ := kP.facts
  go_upto_region 3 with fail
  clear cP fP lP
  have kG : Bk ((w3.setCell ⟨P, 0, none⟩ (.slice (some ⟨P + 1, 0, none⟩) 1 1)).alloc (.cells #[.int .i64 3, .int .i64 5] 81)) (P + 1) #[.int .i64 3, .int .i64 5] 81 := by
    have := Bk.new (w3.setCell ⟨P, 0, none⟩ (.slice (some ⟨P + 1, 0, none⟩) 1 1)) #[.int .i64 3, .int .i64 5] 81
    rwa [World.size_setCell, hs3] at this
  replace hO : Own2 ((w3.setCell ⟨P, 0, none⟩ (.slice (some ⟨P + 1, 0, none⟩) 1 1)).alloc (.cells #[.int .i64 3, .int .i64 5] 81)) (w.heap.size + 1) gA cA gB cB (List.replicate 8 (-1)) wz := (Own2.alloc ⟨own_side (p := ⟨P, 0, none⟩) hO.a (by show P ≠ gA; omega) _, own_side (p := ⟨P, 0, none⟩) hO.b (by show P ≠ gB; omega) _, hO.ne⟩ _)
  replace kR := (kR.far (p := ⟨P, 0, none⟩) (by show w.heap.size ≠ P; omega) (.slice (some ⟨P + 1, 0, none⟩) 1 1)).alloc (.cells #[.int .i64 3, .int .i64 5] 81)
  replace kP := (kP.put 0 (.slice (some ⟨P + 1, 0, none⟩) 1 1)).alloc (.cells #[.int .i64 3, .int .i64 5] 81)
  simp only [List.setIfInBounds_toArray, List.set_cons_zero] at kP
  replace hB1 := balloc (hB1.setCell (p := ⟨P, 0, none⟩) (by show w.heap.size ≤ P; omega) (.slice (some ⟨P + 1, 0, none⟩) 1 1)) (.cells #[.int .i64 3, .int .i64 5] 81)
  generalize (w3.setCell ⟨P, 0, none⟩ (.slice (some ⟨P + 1, 0, none⟩) 1 1)).alloc (.cells #[.int .i64 3, .int .i64 5] 81) = w4 at *
  obtain ⟨cP, fP, lP⟩ := kP.facts
  obtain ⟨cA0, fA0⟩ := hO.leafAt 0 (by omega)
  have lA0 := hO.lt.1.2
  go_upto_region 4 with fail
  clear cP fP lP cA0 fA0 lA0
  replace kP := kP.far (p := ⟨gA, 0, none⟩) (by show P ≠ gA; omega) (.int .i64 1)
  replace kG := kG.far (p := ⟨gA, 0, none⟩) (by show P + 1 ≠ gA; omega) (.int .i64 1)
  replace kR := kR.far (p := ⟨gA, 0, none⟩) (by show w.heap.size ≠ gA; omega) (.int .i64 1)
  replace hO := hO.leaf 0 1
  replace hB1 := hB1.setCell (p := ⟨gA, 0, none⟩) (by show w.heap.size ≤ gA; omega) (.int .i64 1)
  generalize w4.setCell ⟨gA, 0, none⟩ (.int .i64 1) = w5 at *
  -- region 4
  have q3_4 := kP.cell 3
  simp at q3_4
  go_region_held3 (fun w' => w'.cell? ⟨P, 3, none⟩ = some (.slice (some ⟨gB, 0, none⟩) 64 cB))
    (repeat (with_reducible first | exact q3_4 | refine cell_drew ?_ | refine cell_later hbG ?_ | refine cell_far ?_ (by show _ ≠ _; simp only; omega) _))
    (first
      | (go_at_call 35
         refine (word28_any 1 7 true false true fxA _ fxA_p).mono ?_
         rintro e wG ⟨rfl, hbG⟩
         have hOG := (hO.to (below_drew (Below.refl _ _))).to hbG
         obtain ⟨cG, fG⟩ := hOG.entryAt 3 (by omega)
         have lG := hOG.lt.2.2))
  replace kP := (kP.drew.to hbG).far (p := ⟨gB, 3, none⟩) (by show P ≠ gB; omega) (.int .u64 (fxA : Int))
  replace kG := (kG.drew.to hbG).far (p := ⟨gB, 3, none⟩) (by show P + 1 ≠ gB; omega) (.int .u64 (fxA : Int))
  replace kR := (kR.drew.to hbG).far (p := ⟨gB, 3, none⟩) (by show w.heap.size ≠ gB; omega) (.int .u64 (fxA : Int))
  replace hO := hOG.entry 3 fxA
  replace hB1 := (bnext (below_drew hB1) hbG).setCell (p := ⟨gB, 3, none⟩) (by show w.heap.size ≤ gB; omega) (.int .u64 (fxA : Int))
  clear cG fG lG hOG hbG q3_4
  go_upto_region 5 with fail
  generalize wG.setCell ⟨gB, 3, none⟩ (.int .u64 (fxA : Int)) = w6 at *
  -- region 5
  have q3_5 := kP.cell 3
  simp at q3_5
  go_region_held3 (fun w' => w'.cell? ⟨P, 3, none⟩ = some (.slice (some ⟨gB, 0, none⟩) 64 cB))
    (repeat (with_reducible first | exact q3_5 | refine cell_drew ?_ | refine cell_later hbG ?_ | refine cell_far ?_ (by show _ ≠ _; simp only; omega) _))
    (first
      | (go_at_call 35
         refine (word28_any 2 2 false false false fxB _ fxB_p).mono ?_
         rintro e wG ⟨rfl, hbG⟩
         have hOG := (hO.to (below_drew (Below.refl _ _))).to hbG
         obtain ⟨cG, fG⟩ := hOG.entryAt 4 (by omega)
         have lG := hOG.lt.2.2))
  replace kP := (kP.drew.to hbG).far (p := ⟨gB, 4, none⟩) (by show P ≠ gB; omega) (.int .u64 (fxB : Int))
  replace kG := (kG.drew.to hbG).far (p := ⟨gB, 4, none⟩) (by show P + 1 ≠ gB; omega) (.int .u64 (fxB : Int))
  replace kR := (kR.drew.to hbG).far (p := ⟨gB, 4, none⟩) (by show w.heap.size ≠ gB; omega) (.int .u64 (fxB : Int))
  replace hO := hOG.entry 4 fxB
  replace hB1 := (bnext (below_drew hB1) hbG).setCell (p := ⟨gB, 4, none⟩) (by show w.heap.size ≤ gB; omega) (.int .u64 (fxB : Int))
  clear cG fG lG hOG hbG q3_5
  go_upto_region 6 with fail
  generalize wG.setCell ⟨gB, 4, none⟩ (.int .u64 (fxB : Int)) = w7 at *
  obtain ⟨cP, fP, lP⟩ := kP.facts
  obtain ⟨cR, fR, lR⟩ := kR.facts
  go_wp2_with fail
  have kF := kR.put4 (.slice (some ⟨P + 1, 0, none⟩) 1 1) (.int .i64 0) (.slice (some ⟨gA, 0, none⟩) 8 cA) (.slice (some ⟨gB, 0, none⟩) 64 cB)
  have hBF := below_put4 hB1 (g := w.heap.size) (Nat.le_refl _) (.slice (some ⟨P + 1, 0, none⟩) 1 1) (.int .i64 0) (.slice (some ⟨gA, 0, none⟩) 8 cA) (.slice (some ⟨gB, 0, none⟩) 64 cB)
  have hOF := hO.ne4 (g := w.heap.size) (by omega) (by omega) (.slice (some ⟨P + 1, 0, none⟩) 1 1) (.int .i64 0) (.slice (some ⟨gA, 0, none⟩) 8 cA) (.slice (some ⟨gB, 0, none⟩) 64 cB)
  have kGF := (((kG.far (p := ⟨w.heap.size, 0, none⟩) (by show P + 1 ≠ w.heap.size; omega) (.slice (some ⟨P + 1, 0, none⟩) 1 1)).far (p := ⟨w.heap.size, 1, none⟩) (by show P + 1 ≠ w.heap.size; omega) (.int .i64 0)).far (p := ⟨w.heap.size, 2, none⟩) (by show P + 1 ≠ w.heap.size; omega) (.slice (some ⟨gA, 0, none⟩) 8 cA)).far (p := ⟨w.heap.size, 3, none⟩) (by show P + 1 ≠ w.heap.size; omega) (.slice (some ⟨gB, 0, none⟩) 64 cB)
  have hl := hOF.lens
  exact bodyPost_ret (kF.res1 (P := Tryd.prog) rfl _ rfl (by kernel_rfl) (by kernel_rfl)) rfl ⟨_, rfl, ⟨some ⟨P + 1, 0, none⟩, 1, some ⟨gA, 0, none⟩, cA, some ⟨gB, 0, none⟩, cB, rfl, rd_pairF kGF, Rd.own hOF.a, Rd.own hOF.b, hOF.cap⟩, hBF⟩
end Go.Proofs.YtmjahjdnfijpkaaDoor
/- The statements' is, awake of chapter 28. -/
namespace Go.Proofs.YtmjahjdnfijpkaaDoor
open Go Go.Proofs Go.RowKit
set_option linter.unusedSimpArgs false
set_option linter.unusedVariables false
set_option maxRecDepth 100000

theorem fFork_any (rs : List (Int × Int)) (r : Int) (ls : List Int) (es : List Nat) (v : Value) (fr : List Int) (F : Option Addr) (cf : Nat) (w : World) (hv : SpV w v (rs, r, ls, es)) (hn : rs.length ≤ 1000000) (hs : wsmall es) (hL : LayOK w) (hF : Rd w 1 F fr.length (iw fr)) (hcf : fr.length ≤ cf) (hfn : fr.length ≤ 1000) :
    Calls Tryd.prog 16 #[v, .slice F fr.length cf] w fun e w' => FkRes w w' (forR (rs, r, ls, es) fr).1 (forR (rs, r, ls, es) fr).2.1 (forR (rs, r, ls, es) fr).2.2 e := by
  by_cases hE : forE (rs, r, ls, es) fr = 0
  · have hR : forR (rs, r, ls, es) fr = (parS (rs, r, ls, es), chiS (rs, r, ls, es) fr, 0) := by unfold forR; rw [if_neg (by simpa using hE)]
    rw [hR]
    exact Fork_ok rs r ls es v fr F cf w hv hn hs hL hF hcf hfn hE
  · have hR : forR (rs, r, ls, es) fr = (sp0, sp0, forE (rs, r, ls, es) fr) := by unfold forR; rw [if_pos hE]
    rw [hR]
    exact Fork_bad rs r ls es v fr F cf w hv hn hs hL hF hfn hE

set_option maxHeartbeats 4000000 in
theorem is28_t (rs : List (Int × Int)) (r : Int) (ls : List Int) (es : List Nat) (v : Value) (p : Nat) (k n : Int) (a b c : Bool) (y : Nat) (w : World) (hv : SpV w v (rs, r, ls, es)) (h64 : es.length = 64) (hp : p < 64) (hy : es.getD p 0 = y) (hpk : packR k n a b c = ((y : Int), 0)) :
    Calls Tryd.prog 39 #[v, .int .i64 p, .agg #[.int .i64 k, .int .i64 n, .bool a, .bool b, .bool c]] w fun e w' => e = .returned (.bool true) ∧ Below w.heap.size w w' := by
  obtain ⟨A, cA, L, cl, B, d, rfl, hA, hLs, hB, hcc⟩ := hv
  simp only at hA hLs hB hcc
  unfold spcV
  simp only
  rw [h64] at hB ⊢
  obtain ⟨bB, oB, rfl, hcell⟩ := word_at hB h64 hp
  rw [hy] at hcell
  have kS := (Bk.new w #[.slice A rs.length cA, .int .i64 r, .slice L ls.length cl, .slice (some ⟨bB, oB, none⟩) 64 d] 28).alloc (.cells #[.int .i64 k, .int .i64 n, .bool a, .bool b, .bool c] 52)
  have kE := Bk.new (w.alloc (.cells #[.slice A rs.length cA, .int .i64 r, .slice L ls.length cl, .slice (some ⟨bB, oB, none⟩) 64 d] 28)) #[.int .i64 k, .int .i64 n, .bool a, .bool b, .bool c] 52
  simp only [World.size_alloc] at kE
  have hB1 := balloc (balloc (Below.refl _ w) (.cells #[.slice A rs.length cA, .int .i64 r, .slice L ls.length cl, .slice (some ⟨bB, oB, none⟩) 64 d] 28)) (.cells #[.int .i64 k, .int .i64 n, .bool a, .bool b, .bool c] 52)
  have hlB : bB < w.heap.size := World.block_lt_of_cell? _ _ hcell
  have hce := (hB1.cell (p := ⟨bB, oB + p, none⟩) hlB).trans hcell
  have hpI : (p : Int) < 64 := by omega
  have hpN : (0 : Int) ≤ p := by omega
  have HW := Lib.hid (fun W => word28_any k n a b c y W hpk)
  clear hpk hy hcell hB
  go_enter Tryd.func39, Tryd.ntmps39
  go_upto_region 1 with fail
  generalize (w.alloc (.cells #[.slice A rs.length cA, .int .i64 r, .slice L ls.length cl, .slice (some ⟨bB, oB, none⟩) 64 d] 28)).alloc (.cells #[.int .i64 k, .int .i64 n, .bool a, .bool b, .bool c] 52) = w1 at *
  have s3 := kS.cell 3
  have e0 := kE.cell 0
  have e1 := kE.cell 1
  have e2 := kE.cell 2
  have e3 := kE.cell 3
  have e4 := kE.cell 4
  simp at s3 e0 e1 e2 e3 e4
  have lE := kE.lt
  go_region_held3 (fun w' => w'.cell? ⟨w.heap.size, 3, none⟩ = some (.slice (some ⟨bB, oB, none⟩) 64 d) ∧ w'.cell? ⟨bB, oB + p, none⟩ = some (.int .u64 (y : Int)) ∧ w'.cell? ⟨w.heap.size + 1, 0, none⟩ = some (.int .i64 k) ∧ w'.cell? ⟨w.heap.size + 1, 1, none⟩ = some (.int .i64 n) ∧ w'.cell? ⟨w.heap.size + 1, 2, none⟩ = some (.bool a) ∧ w'.cell? ⟨w.heap.size + 1, 3, none⟩ = some (.bool b) ∧ w'.cell? ⟨w.heap.size + 1, 4, none⟩ = some (.bool c))
    (refine ⟨?_, ?_, ?_, ?_, ?_, ?_, ?_⟩ <;> (repeat (with_reducible first | exact s3 | exact hce | exact e0 | exact e1 | exact e2 | exact e3 | exact e4 | refine cell_drew ?_ | refine cell_later hbG ?_)))
    (first
      | (go_at_call 35
         refine (HW.out _).mono ?_
         rintro e wG ⟨rfl, hbG⟩))
  all_goals
    go_wp2_with fail
    go_ret
    exact ⟨by simp, bnext (below_drew hB1) hbG⟩
end Go.Proofs.YtmjahjdnfijpkaaDoor
/- The statements' awake of chapter 28. -/
namespace Go.Proofs.YtmjahjdnfijpkaaDoor
open Go Go.Proofs Go.RowKit
set_option linter.unusedSimpArgs false
set_option linter.unusedVariables false
set_option maxRecDepth 100000

theorem rd_of_bk {w : World} {g n : Nat} {zs : List Int} {t : TypeId} (h : Bk w g (iw zs).toArray t) (hn : zs.length = n) : Rd w 1 (some ⟨g, 0, none⟩) n (iw zs) := by
  obtain ⟨A, c, e, hr⟩ := ct_is h hn
  injection e with e1 e2 e3
  rw [← hn]
  rw [← e1] at hr
  exact hr
theorem exW_small : exW.all (fun x => decide (x < 65536)) = true := by decide +kernel
theorem small_of {es : List Nat} (h : es.all (fun x => decide (x < 65536)) = true) : wsmall es := fun x hx => by
  have := List.all_eq_true.1 h x hx
  simp at this
  omega
def fxC : Nat := packN 1 7 false true true
def fxD : Nat := packN 1 7 false true false
theorem fxC_p : packR 1 7 false true true = ((fxC : Int), 0) := by decide +kernel
theorem fxD_p : packR 1 7 false true false = ((fxD : Int), 0) := by decide +kernel
theorem ex_nee : neeR exF = (2, 0) := by decide +kernel
theorem ex_for : forE exF [8, 9] = 0 := by decide +kernel
theorem ex_forR : forR exF [8, 9] = (parS exF, chiS exF [8, 9], 0) := by unfold forR; rw [if_neg (by rw [ex_for]; decide)]
theorem ex_par : (parS exF).2.2.2.length = 64 ∧ (parS exF).2.2.2.getD 3 0 = fxC := by decide +kernel
theorem ex_chi : (chiS exF [8, 9]).2.2.2.length = 64 ∧ (chiS exF [8, 9]).2.2.2.getD 3 0 = fxD ∧ (chiS exF [8, 9]).2.2.2.getD 4 0 = fxB ∧ (chiS exF [8, 9]).2.1 = 8 ∧ (chiS exF [8, 9]).2.2.1.length = 8 ∧ (chiS exF [8, 9]).2.2.1.getD 0 0 = 9 := by decide +kernel

set_option maxHeartbeats 8000000 in
theorem awake28_any (w : World) (hL : LayOK w) : Calls Tryd.prog 11 #[] w fun e w' => e = .returned (.bool true) ∧ Below w.heap.size w w' := by
  obtain ⟨hp1, hp2⟩ := ex_par
  obtain ⟨hc1, hc2, hc3, hc4, hc5, hc6⟩ := ex_chi
  have hsm := small_of exW_small
  have hne := ex_nee
  have hfr := ex_forR
  have hrl : exF.1.length ≤ 1000000 := by decide
  have HX := Lib.hid (fun W => example28_any W)
  have hse : exF.2.2.2 = exW := rfl
  rw [← hse] at hsm
  clear hse
  generalize parS exF = sP at *
  generalize chiS exF [8, 9] = sC at *
  generalize exF = s at *
  obtain ⟨rs, r, ls, es⟩ := s
  obtain ⟨rsP, rP, lsP, esP⟩ := sP
  obtain ⟨rsC, rC, lsC, esC⟩ := sC
  simp only at hp1 hp2 hc1 hc2 hc3 hc4 hc5 hc6 hsm hrl
  subst hc4
  have HN := Lib.hid (fun v W h hl => Needs_any rs r ls es v W h hrl hsm hl)
  have HF := Lib.hid (fun v F cf W h hl hF hcf => fFork_any rs r ls es v [8, 9] F cf W h hrl hsm hl hF hcf (by decide))
  rw [hne] at HN
  rw [hfr] at HF
  have HI1 := Lib.hid (fun v W h => is28_t rsP rP lsP esP v 3 1 7 false true true fxC W h hp1 (by omega) hp2 fxC_p)
  have HI2 := Lib.hid (fun v W h => is28_t rsC 8 lsC esC v 3 1 7 false true false fxD W h hc1 (by omega) hc2 fxD_p)
  have HI3 := Lib.hid (fun v W h => is28_t rsC 8 lsC esC v 4 2 2 false false false fxB W h hc1 (by omega) hc3 fxB_p)
  have HC6 := Lib.hid hc6
  have HC5 := Lib.hid hc5
  clear hp1 hp2 hc1 hc2 hc3 hc5 hc6 hsm hne hfr hrl
  have hB0 := Below.refl w.heap.size w
  go_enter Tryd.func11, Tryd.ntmps11
  go_wp2_with fail
  refine (HX.out _).mono ?_
  rintro e w1 ⟨v1, rfl, hv1, hb1⟩
  replace hL := hL.below hb1
  replace hB0 := bnext hB0 hb1
  clear hb1
  obtain ⟨A1, c1, L1, cl1, B1, d1, rfl, _, _, _, _⟩ := id hv1
  simp only [spcV] at hv1 ⊢
  go_wp2_with fail
  refine (HN.out _ _ hv1 hL).mono ?_
  rintro e w2 ⟨rfl, hb2⟩
  replace hv1 := hv1.to hb2
  replace hL := hL.below hb2
  replace hB0 := bnext hB0 hb2
  clear hb2
  clear hv1
  go_wp2_with fail
  refine (HX.out _).mono ?_
  rintro e w3 ⟨v2, rfl, hv2, hb3⟩
  replace hL := hL.below hb3
  replace hB0 := bnext hB0 hb3
  clear hb3
  obtain ⟨A2, c2, L2, cl2, B2, d2, rfl, _, _, _, _⟩ := id hv2
  simp only [spcV] at hv2 ⊢
  go_wp2_with fail
  have hrow := rd_of_bk (Bk.new w3 (iw [8, 9]).toArray 3) (n := 2) rfl
  have hcN := balloc (Below.refl _ w3) (.cells (iw [8, 9]).toArray 3)
  simp only [iw, List.map_cons, List.map_nil] at hrow hcN
  generalize w3.alloc (.cells #[.int .i64 8, .int .i64 9] 3) = wr at *
  replace hv2 := hv2.to hcN
  replace hL := hL.below hcN
  replace hB0 := bnext hB0 hcN
  clear hcN
  refine (HF.out _ _ _ _ hv2 hL hrow (by decide)).mono ?_
  rintro e w4 ⟨va, vb, rfl, hva, hvb, _, _, hb4⟩
  clear hv2
  replace hL := hL.below hb4
  replace hB0 := bnext hB0 hb4
  clear hb4
  obtain ⟨AA, cA, LA, clA, BA, dA, rfl, _, _, _, _⟩ := id hva
  simp only [spcV] at hva ⊢
  obtain ⟨AB, cB, LB, clB, BB, dB, rfl, _, _, _, _⟩ := id hvb
  simp only [spcV] at hvb ⊢
  go_upto_region 3 with fail
  have ka := Bk.new w4 #[.slice AA rsP.length cA, .int .i64 rP, .slice LA lsP.length clA, .slice BA esP.length dA] 28
  have hcN := balloc (Below.refl _ w4) (.cells #[.slice AA rsP.length cA, .int .i64 rP, .slice LA lsP.length clA, .slice BA esP.length dA] 28)
  have hcS : (w4.alloc (.cells #[.slice AA rsP.length cA, .int .i64 rP, .slice LA lsP.length clA, .slice BA esP.length dA] 28)).heap.size = w4.heap.size + 1 := by rw [World.size_alloc]
  generalize w4.alloc (.cells #[.slice AA rsP.length cA, .int .i64 rP, .slice LA lsP.length clA, .slice BA esP.length dA] 28) = w5 at *
  replace hva := hva.to hcN
  replace hvb := hvb.to hcN
  replace hL := hL.below hcN
  replace hB0 := bnext hB0 hcN
  clear hcN
  have kb : Bk (w5.alloc (.cells #[.slice AB rsC.length cB, .int .i64 8, .slice LB lsC.length clB, .slice BB esC.length dB] 28)) (w4.heap.size + 1) #[.slice AB rsC.length cB, .int .i64 8, .slice LB lsC.length clB, .slice BB esC.length dB] 28 := by rw [← hcS]; exact Bk.new w5 #[.slice AB rsC.length cB, .int .i64 8, .slice LB lsC.length clB, .slice BB esC.length dB] 28
  have hcN := balloc (Below.refl _ w5) (.cells #[.slice AB rsC.length cB, .int .i64 8, .slice LB lsC.length clB, .slice BB esC.length dB] 28)
  generalize w5.alloc (.cells #[.slice AB rsC.length cB, .int .i64 8, .slice LB lsC.length clB, .slice BB esC.length dB] 28) = w6 at *
  replace hva := hva.to hcN
  replace hvb := hvb.to hcN
  replace ka := ka.to hcN
  replace hL := hL.below hcN
  replace hB0 := bnext hB0 hcN
  clear hcN
  clear hcS
  obtain ⟨c_ka, f_ka, l_ka⟩ := ka.facts
  obtain ⟨c_kb, f_kb, l_kb⟩ := kb.facts
  go_upto_region 4 with fail
  clear c_ka f_ka l_ka
  clear c_kb f_kb l_kb
  have kc := Bk.new w6 #[.int .i64 1, .int .i64 7, .bool false, .bool true, .bool false] 52
  have hcN := balloc (Below.refl _ w6) (.cells #[.int .i64 1, .int .i64 7, .bool false, .bool true, .bool false] 52)
  generalize w6.alloc (.cells #[.int .i64 1, .int .i64 7, .bool false, .bool true, .bool false] 52) = w7 at *
  replace hva := hva.to hcN
  replace hvb := hvb.to hcN
  replace ka := ka.to hcN
  replace kb := kb.to hcN
  replace hL := hL.below hcN
  replace hB0 := bnext hB0 hcN
  clear hcN
  obtain ⟨c_ka, f_ka, l_ka⟩ := ka.facts
  obtain ⟨c_kb, f_kb, l_kb⟩ := kb.facts
  obtain ⟨c_kc, f_kc, l_kc⟩ := kc.facts
  go_upto_region 6 with fail
  clear c_ka f_ka l_ka
  clear c_kb f_kb l_kb
  clear c_kc f_kc l_kc
  have kd := Bk.new w7 #[.int .i64 1, .int .i64 7, .bool false, .bool true, .bool true] 52
  have hcN := balloc (Below.refl _ w7) (.cells #[.int .i64 1, .int .i64 7, .bool false, .bool true, .bool true] 52)
  generalize w7.alloc (.cells #[.int .i64 1, .int .i64 7, .bool false, .bool true, .bool true] 52) = w8 at *
  replace hva := hva.to hcN
  replace hvb := hvb.to hcN
  replace ka := ka.to hcN
  replace kb := kb.to hcN
  replace kc := kc.to hcN
  replace hL := hL.below hcN
  replace hB0 := bnext hB0 hcN
  clear hcN
  obtain ⟨c_ka, f_ka, l_ka⟩ := ka.facts
  obtain ⟨c_kb, f_kb, l_kb⟩ := kb.facts
  obtain ⟨c_kc, f_kc, l_kc⟩ := kc.facts
  obtain ⟨c_kd, f_kd, l_kd⟩ := kd.facts
  go_wp2_with fail
  clear c_ka f_ka l_ka
  clear c_kb f_kb l_kb
  clear c_kc f_kc l_kc
  clear c_kd f_kd l_kd
  refine (HI1.out _ _ hva).mono ?_
  rintro e w9 ⟨rfl, hb9⟩
  replace hva := hva.to hb9
  replace hvb := hvb.to hb9
  replace ka := ka.to hb9
  replace kb := kb.to hb9
  replace kc := kc.to hb9
  replace kd := kd.to hb9
  replace hL := hL.below hb9
  replace hB0 := bnext hB0 hb9
  clear hb9
  clear hva ka kd
  obtain ⟨c_kb, f_kb, l_kb⟩ := kb.facts
  obtain ⟨c_kc, f_kc, l_kc⟩ := kc.facts
  go_wp2_with fail
  clear c_kb f_kb l_kb
  clear c_kc f_kc l_kc
  refine (HI2.out _ _ hvb).mono ?_
  rintro e w10 ⟨rfl, hb10⟩
  replace hvb := hvb.to hb10
  replace kb := kb.to hb10
  replace kc := kc.to hb10
  replace hL := hL.below hb10
  replace hB0 := bnext hB0 hb10
  clear hb10
  clear kc
  obtain ⟨c_kb, f_kb, l_kb⟩ := kb.facts
  go_wp2_with fail
  clear c_kb f_kb l_kb
  refine (HI3.out _ _ hvb).mono ?_
  rintro e w11 ⟨rfl, hb11⟩
  replace hvb := hvb.to hb11
  replace kb := kb.to hb11
  replace hL := hL.below hb11
  replace hB0 := bnext hB0 hb11
  clear hb11
  have h5 := HC5.out
  have h6 := HC6.out
  obtain ⟨_, _, _, _, _, _, e', _, hrl, _, _⟩ := id hvb
  simp only [spcV, Value.agg.injEq, Array.mk.injEq, List.cons.injEq, Value.slice.injEq] at e'
  obtain ⟨_, _, ⟨rfl, _, rfl⟩, _⟩ := e'
  rw [h5] at hrl
  obtain ⟨gL, offL, z, rfl, hgL, hz, hcL⟩ := hrl.numb (show 0 < 8 by omega)
  rw [h6] at hz
  subst hz
  rw [h5] at kb
  rw [Nat.add_zero] at hcL
  clear h5 h6 hrl hvb HI1 HI2 HI3 HN HF HX
  simp only [HC5.out]
  obtain ⟨c_kb, f_kb, l_kb⟩ := kb.facts
  go_wp2_with fail
  go_ret
  exact ⟨rfl, hB0⟩
end Go.Proofs.YtmjahjdnfijpkaaDoor
