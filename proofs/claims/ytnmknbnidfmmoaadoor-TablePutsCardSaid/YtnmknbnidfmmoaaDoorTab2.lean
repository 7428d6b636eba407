/- Page tables as values of 73 cells: load and table. -/
import Derived.Test.YtnmknbnidfmmoaaDoorTab1
import Derived.Test.YtnmknbnidfmmoaaDoorAddr0
import Derived.Test.YtnmknbnidfmmoaaDoorWide
namespace Go.Proofs.YtnmknbnidfmmoaaDoor
open Go Go.Proofs Go.RowKit
set_option linter.unusedSimpArgs false
set_option linter.unusedVariables false
set_option maxRecDepth 100000

/-- A table as the cells of one value. -/
def arrL (r : Int) (ls : List Int) (es : List Nat) : List Value := .int .i64 r :: (iw ls ++ uw es)
theorem arrL_len (r : Int) (ls : List Int) (es : List Nat) (h1 : ls.length = 8) (h2 : es.length = 64) : (arrL r ls es).length = 73 := by simp [arrL, iw_len, uw_len, h1, h2]
theorem arrL_one (r : Int) (ls : List Int) (es : List Nat) : (arrL r ls es).toArray.all (·.oneCell') = true := by
  refine all_oneCell_toArray fun v hv => ?_
  simp only [arrL, List.mem_cons, List.mem_append] at hv
  rcases hv with rfl | hv | hv
  · rfl
  · exact oneCells_int .i64 ls v hv
  · exact oneCells_uw es v hv
theorem arr_zero : Tryd.zeroCells69 = (arrL 0 (List.replicate 8 0) (List.replicate 64 0)).toArray := by kernel_rfl
theorem arr_fill (parts : List (Nat × Value)) : Tryd.prog.built 69 parts = Instr.fill ((#[(0, 1), (1, 8), (9, 64)] : Array (Nat × Nat))[·]?) Tryd.zeroCells69 parts := by kernel_rfl
theorem arr_built (r : Int) (ls : List Int) (es : List Nat) (h1 : ls.length = 8) (h2 : es.length = 64) :
    Tryd.prog.built 69 [(0, .int .i64 r), (1, .agg (iw ls).toArray), (2, .agg (uw es).toArray)] = some (arrL r ls es).toArray := by
  rw [arr_fill, arr_zero]
  have e1 := fill_one ((#[(0, 1), (1, 8), (9, 64)] : Array (Nat × Nat))[·]?) 0 0 (.int .i64 r) [.int .i64 r] [] [.int .i64 0] (iw (List.replicate 8 0) ++ uw (List.replicate 64 0)) [(1, .agg (iw ls).toArray), (2, .agg (uw es).toArray)] rfl rfl rfl rfl
  have e2 := fill_one ((#[(0, 1), (1, 8), (9, 64)] : Array (Nat × Nat))[·]?) 1 1 (.agg (iw ls).toArray) (iw ls) [.int .i64 r] (iw (List.replicate 8 0)) (uw (List.replicate 64 0)) [(2, .agg (uw es).toArray)] (by rw [iw_len, h1]; rfl) rfl rfl (by rw [iw_len, iw_len, h1]; rfl)
  have e3 := fill_one ((#[(0, 1), (1, 8), (9, 64)] : Array (Nat × Nat))[·]?) 2 9 (.agg (uw es).toArray) (uw es) ([.int .i64 r] ++ iw ls) (uw (List.replicate 64 0)) [] [] (by rw [uw_len, h2]; rfl) rfl (by simp [iw_len, h1]) (by rw [uw_len, uw_len, h2]; rfl)
  simp only [List.append_nil, List.nil_append, List.append_assoc, List.singleton_append, List.cons_append] at e1 e2 e3
  simp only [arrL]
  rw [e1, e2, e3]
  simp [Instr.fill]

/-- Such a value is stored, into a box that was there, and into a new one. -/
theorem arr_store {w : World} {b : Nat} {old cs : Array Value} (h : Bk w b old 69) (ho : old.size = 73) (hc : cs.size = 73) (h1 : cs.all (·.oneCell') = true) :
    (storeCells ⟨b, 0, none⟩ cs.toList 0).run Tryd.prog w = .ok () (w.setRow b cs) := h.storeC (P := Tryd.prog) 69 cs (by rw [hc]; kernel_rfl) (by rw [ho, hc]) h1
theorem arr_store0 {cs : Array Value} (hc : cs.size = 73) (h1 : cs.all (·.oneCell') = true) (w : World) :
    (storeCells ⟨w.heap.size, 0, none⟩ cs.toList 0).run Tryd.prog (w.alloc (.cells Tryd.zeroCells69 69)) = .ok () (w.alloc (.cells cs 69)) :=
  run_storeCells_new (P := Tryd.prog) w 69 _ cs (by rw [hc]; kernel_rfl) (by rw [hc]; kernel_rfl) h1
theorem arr_z73 : Tryd.zeroCells69.size = 73 := by kernel_rfl
theorem arr_z1 : Tryd.zeroCells69.all (·.oneCell') = true := by rw [arr_zero]; exact arrL_one _ _ _
theorem arr_73 (r : Int) (ls : List Int) (es : List Nat) (h1 : ls.length = 8) (h2 : es.length = 64) : (arrL r ls es).toArray.size = 73 := by simpa using arrL_len r ls es h1 h2
section
variable {w : World} {b : Nat} {t : TypeId} {r : Int} {ls : List Int} {es : List Nat}
theorem arr_root (h : Bk w b (arrL r ls es).toArray t) : w.cell? ⟨b, 0, none⟩ = some (.int .i64 r) := h.cell 0
theorem arr_leaf (h1 : ls.length = 8) (h : Bk w b (arrL r ls es).toArray t) {i : Nat} (hi : i < 8) : w.cell? ⟨b, 1 + i, none⟩ = some (.int .i64 (ls.getD i 0)) := by
  rw [h.cell]
  have : i < ls.length := by omega
  simp [arrL, iw, Nat.add_comm 1 i, List.getElem?_append_left, this]
theorem arr_ent (h1 : ls.length = 8) (h2 : es.length = 64) (h : Bk w b (arrL r ls es).toArray t) {p : Nat} (hp : p < 64) : w.cell? ⟨b, 9 + p, none⟩ = some (.int .u64 ((es.getD p 0 : Nat) : Int)) := by
  rw [h.cell]
  have h3 : p < es.length := by omega
  simp only [arrL, List.getElem?_toArray]
  rw [show 9 + p = (p + 8) + 1 by omega, List.getElem?_cons_succ, List.getElem?_append_right (by simp [iw, h1])]
  simp [iw, uw, h1, h3]
theorem arr_tbv (h1 : ls.length = 8) (h2 : es.length = 64) (h : Bk w b (arrL r ls es).toArray t) : TbV w (.agg #[.int .i64 r, .slice (some ⟨b, 1, none⟩) 8 8, .slice (some ⟨b, 9, none⟩) 64 64]) (r, ls, es) := by
  refine ⟨some ⟨b, 1, none⟩, 8, some ⟨b, 9, none⟩, 64, ?_, ?_, ?_, by simp [h1]⟩
  · simp [tabV, h1, h2]
  · refine ⟨by simp [iw_len], fun _ => ⟨b, 1, rfl, h.lt, fun j u hu => ?_⟩⟩
    have hj : j < 8 := by have := (List.getElem?_eq_some_iff.1 hu).1; simp [iw_len, h1] at this; omega
    rw [arr_leaf h1 h hj, ← hu]
    have : j < ls.length := by omega
    simp [iw, this]
  · refine ⟨by simp [uw_len], fun _ => ⟨b, 9, rfl, h.lt, fun j u hu => ?_⟩⟩
    have hj : j < 64 := by have := (List.getElem?_eq_some_iff.1 hu).1; simp [uw_len, h2] at this; omega
    rw [arr_ent h1 h2 h hj, ← hu]
    have : j < es.length := by omega
    simp [uw, this]
theorem arr_setleaf (h1 : ls.length = 8) (i : Nat) (hi : i < 8) (v : Int) : (arrL r ls es).toArray.setIfInBounds (1 + i) (.int .i64 v) = (arrL r (ls.set i v) es).toArray := by
  have : i < ls.length := by omega
  simp [arrL, iw, Nat.add_comm 1 i, List.set_append_left, this, List.map_set]
theorem arr_setent (h1 : ls.length = 8) (p : Nat) (x : Nat) : (arrL r ls es).toArray.setIfInBounds (9 + p) (.int .u64 (x : Int)) = (arrL r ls (es.set p x)).toArray := by
  simp only [arrL, List.setIfInBounds_toArray]
  rw [show 9 + p = (p + 8) + 1 by omega, List.set_cons_succ, List.set_append_right _ _ (by simp [iw, h1])]
  simp [iw, uw, h1, List.map_set]
end

theorem load_any (r : Int) (A B : Option Addr) (c d : Nat) (ls : List Int) (es : List Nat) (w : World) (h1 : ls.length = 8) (h2 : es.length = 64) (hA : Rd w 1 A 8 (iw ls)) (hB : Rd w 1 B 64 (uw es)) :
    Calls Tryd.prog 57 #[tabV r A 8 c B 64 d] w fun e w' => e = .returned (.agg (arrL r ls es).toArray) ∧ Below w.heap.size w w' := by
  obtain ⟨gA, oA, rfl, lA, cA⟩ := hA.2 (by omega)
  obtain ⟨gB, oB, rfl, lB, cB⟩ := hB.2 (by omega)
  unfold tabV
  go_enter Tryd.func57, Tryd.ntmps57
  go_wp2_with fail
  have kT := (Bk.new w #[.int .i64 r, .slice (some ⟨gA, oA, none⟩) 8 c, .slice (some ⟨gB, oB, none⟩) 64 d] 25).alloc (.cells Tryd.zeroCells69 69)
  have kR := Bk.new (w.alloc (.cells #[.int .i64 r, .slice (some ⟨gA, oA, none⟩) 8 c, .slice (some ⟨gB, oB, none⟩) 64 d] 25)) Tryd.zeroCells69 69
  have hB2 := balloc (balloc (Below.refl _ w) (.cells #[.int .i64 r, .slice (some ⟨gA, oA, none⟩) 8 c, .slice (some ⟨gB, oB, none⟩) 64 d] 25)) (.cells Tryd.zeroCells69 69)
  rw [World.size_alloc] at kR
  generalize ((w.alloc (.cells #[.int .i64 r, .slice (some ⟨gA, oA, none⟩) 8 c, .slice (some ⟨gB, oB, none⟩) 64 d] 25)).alloc (.cells Tryd.zeroCells69 69)) = w1 at *
  obtain ⟨cT, fT, lT⟩ := kT.facts
  have hp8 := fun w => run_arrptr (P := Tryd.prog) w gA oA c 65 3 8 (by kernel_rfl)
  have hp64 := fun w => run_arrptr (P := Tryd.prog) w gB oB d 67 66 64 (by kernel_rfl)
  refine wp_region_still_tail 11 (by kernel_rfl) (by kernel_rfl) ?_
  simp only [List.take_succ_cons, List.take_zero, List.drop_succ_cons, List.drop_zero]
  iterate 5 still_step
  refine wpStill_load_mid (by rfl) 65 _ rfl gA oA rfl (iw ls) (.array 8 3) (fun j v hv => (hB2.cell (p := ⟨gA, oA + j, none⟩) lA).trans (cA j v hv)) (by kernel_rfl) rfl (by rw [iw_len, h1]; kernel_rfl) ?_
  go_frame
  iterate 3 still_step
  refine wpStill_load_mid (by rfl) 67 _ rfl gB oB rfl (uw es) (.array 64 66) (fun j v hv => (hB2.cell (p := ⟨gB, oB + j, none⟩) lB).trans (cB j v hv)) (by kernel_rfl) rfl (by rw [uw_len, h2]; kernel_rfl) ?_
  go_frame
  refine wpStill_build (by rfl) 69 _ rfl _ (by simp only [List.map_toArray, List.map_cons, List.map_nil]; exact arr_built r ls es h1 h2) ?_
  go_frame
  refine wpStill_nil ?_
  change wpList _ _ _ _ _ w1.drew
  have hsz : (arrL r ls es).toArray.size = 73 := by simpa using arrL_len r ls es h1 h2
  refine wpList_store_row rfl 69 _ _ rfl (w.heap.size + 1) (arrL r ls es).toArray rfl rfl 69 Tryd.zeroCells69 kR.drew (by rw [hsz]; kernel_rfl) (by rw [hsz]; kernel_rfl) (arrL_one r ls es) ?_
  have kR2 := kR.drew.row (arrL r ls es).toArray
  have hB3 := below_row (below_drew hB2) (Nat.le_succ _) (arrL r ls es).toArray
  generalize w1.drew.setRow (w.heap.size + 1) (arrL r ls es).toArray = w2 at *
  go_wp2_with fail
  exact bodyPost_ret (kR2.res1 (P := Tryd.prog) rfl _ rfl (by kernel_rfl) (by rw [hsz]; kernel_rfl)) rfl ⟨rfl, hB3⟩

theorem table_any (r : Int) (ls : List Int) (es : List Nat) (w : World) (h1 : ls.length = 8) (h2 : es.length = 64) :
    Calls Tryd.prog 44 #[.agg (arrL r ls es).toArray] w fun e w' => e = .returned (.agg #[.int .i64 r, .slice (some ⟨w.heap.size, 1, none⟩) 8 8, .slice (some ⟨w.heap.size, 9, none⟩) 64 64]) ∧ Bk w' w.heap.size (arrL r ls es).toArray 69 ∧ Below w.heap.size w w' := by
  have hsz : (arrL r ls es).toArray.size = 73 := by simpa using arrL_len r ls es h1 h2
  have hz : ∃ cs, cs = (arrL r ls es).toArray := ⟨_, rfl⟩
  have hc0 : (arrL r ls es).toArray[0]? = some (.int .i64 r) := rfl
  go_enter Tryd.func44, Tryd.ntmps44
  go_wp2_with fail
  have kA := (Bk.new w (arrL r ls es).toArray 69).alloc (.cells #[.int .i64 0, .slice none 0 0, .slice none 0 0] 25)
  have kR := Bk.new (w.alloc (.cells (arrL r ls es).toArray 69)) #[.int .i64 0, .slice none 0 0, .slice none 0 0] 25
  have hB2 := balloc (balloc (Below.refl _ w) (.cells (arrL r ls es).toArray 69)) (.cells #[.int .i64 0, .slice none 0 0, .slice none 0 0] 25)
  rw [World.size_alloc] at kR
  generalize ((w.alloc (.cells (arrL r ls es).toArray 69)).alloc (.cells #[.int .i64 0, .slice none 0 0, .slice none 0 0] 25)) = w1 at *
  obtain ⟨cA, fA, lA⟩ := kA.facts
  have c0 := cA 0
  rw [hc0] at c0
  clear cA
  obtain ⟨cR, fR, lR⟩ := kR.facts
  refine wp_region_still_tail 7 (by kernel_rfl) (by kernel_rfl) ?_
  simp only [List.take_succ_cons, List.take_zero, List.drop_succ_cons, List.drop_zero]
  repeat still_step
  refine wpStill_nil ?_
  change wpList _ _ _ _ _ w1.drew
  go_wp2_with fail
  have kR2 := (kR.put3 (.int .i64 r) (.slice (some ⟨w.heap.size, 1, none⟩) 8 8) (.slice (some ⟨w.heap.size, 9, none⟩) 64 64)).drew
  have kA2 := (kA.far3 (g := w.heap.size + 1) (by omega) (.int .i64 r) (.slice (some ⟨w.heap.size, 1, none⟩) 8 8) (.slice (some ⟨w.heap.size, 9, none⟩) 64 64)).drew
  have hB3 := below_drew (below_put3 hB2 (Nat.le_succ _) (.int .i64 r) (.slice (some ⟨w.heap.size, 1, none⟩) 8 8) (.slice (some ⟨w.heap.size, 9, none⟩) 64 64))
  exact bodyPost_ret (kR2.res1 (P := Tryd.prog) rfl _ rfl (by kernel_rfl) (by kernel_rfl)) rfl ⟨rfl, kA2, hB3⟩
end Go.Proofs.YtnmknbnidfmmoaaDoor
