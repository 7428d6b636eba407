/- Several texts in one. -/
import Derived.Test.YtpkgfkhaiifooaaGreatDoorTab1
import Derived.Test.YtpkgfkhaiifooaaGreatDoorAddr0
import Derived.Test.YtpkgfkhaiifooaaGreatDoorWide
import Derived.IntWalk
/- Page tables as values of 73 cells: load and table. -/
namespace Go.Proofs.YtpkgfkhaiifooaaGreatDoor
open Go Go.Proofs Go.RowKit
set_option linter.unusedSimpArgs false
set_option linter.unusedVariables false
set_option maxRecDepth 100000

/-- A table as the cells of one value. -/
def arrL (r : Int) (ls : List Int) (es : List Nat) : List Value := .int .i64 r :: (iw ls ++ uw es)
theorem arrL_len (r : Int) (ls : List Int) (es : List Nat) (h1 : ls.length = 8) (h2 : es.length = 64) : (arrL r ls es).length = 73 := by simp [arrL, iw_len, uw_len, h1, h2]
theorem arrL_one (r : Int) (ls : List Int) (es : List Nat) : (arrL r ls es).toArray.all (·.oneCell') = true := by
  refine all_oneCell_toArray fun v hv => ?_
  simp only [arrL, List.mem_cons, List.mem_append] at hv
  rcases hv with rfl | hv | hv
  · rfl
  · exact oneCells_int .i64 ls v hv
  · exact oneCells_uw es v hv
theorem arr_zero : Tryz.zeroCells108 = (arrL 0 (List.replicate 8 0) (List.replicate 64 0)).toArray := by kernel_rfl
theorem arr_fill (parts : List (Nat × Value)) : Tryz.prog.built 108 parts = Instr.fill ((#[(0, 1), (1, 8), (9, 64)] : Array (Nat × Nat))[·]?) Tryz.zeroCells108 parts := by kernel_rfl
theorem arr_built (r : Int) (ls : List Int) (es : List Nat) (h1 : ls.length = 8) (h2 : es.length = 64) :
    Tryz.prog.built 108 [(0, .int .i64 r), (1, .agg (iw ls).toArray), (2, .agg (uw es).toArray)] = some (arrL r ls es).toArray := by
  rw [arr_fill, arr_zero]
  have e1 := fill_one ((#[(0, 1), (1, 8), (9, 64)] : Array (Nat × Nat))[·]?) 0 0 (.int .i64 r) [.int .i64 r] [] [.int .i64 0] (iw (List.replicate 8 0) ++ uw (List.replicate 64 0)) [(1, .agg (iw ls).toArray), (2, .agg (uw es).toArray)] rfl rfl rfl rfl
  have e2 := fill_one ((#[(0, 1), (1, 8), (9, 64)] : Array (Nat × Nat))[·]?) 1 1 (.agg (iw ls).toArray) (iw ls) [.int .i64 r] (iw (List.replicate 8 0)) (uw (List.replicate 64 0)) [(2, .agg (uw es).toArray)] (by rw [iw_len, h1]; rfl) rfl rfl (by rw [iw_len, iw_len, h1]; rfl)
  have e3 := fill_one ((#[(0, 1), (1, 8), (9, 64)] : Array (Nat × Nat))[·]?) 2 9 (.agg (uw es).toArray) (uw es) ([.int .i64 r] ++ iw ls) (uw (List.replicate 64 0)) [] [] (by rw [uw_len, h2]; rfl) rfl (by simp [iw_len, h1]) (by rw [uw_len, uw_len, h2]; rfl)
  simp only [List.append_nil, List.nil_append, List.append_assoc, List.singleton_append, List.cons_append] at e1 e2 e3
  simp only [arrL]
  rw [e1, e2, e3]
  simp [Instr.fill]

/-- Such a value is stored, into a box that was there, and into a new one. -/
theorem arr_store {w : World} {b : Nat} {old cs : Array Value} (h : Bk w b old 108) (ho : old.size = 73) (hc : cs.size = 73) (h1 : cs.all (·.oneCell') = true) :
    (storeCells ⟨b, 0, none⟩ cs.toList 0).run Tryz.prog w = .ok () (w.setRow b cs) := h.storeC (P := Tryz.prog) 108 cs (by rw [hc]; kernel_rfl) (by rw [ho, hc]) h1
theorem arr_store0 {cs : Array Value} (hc : cs.size = 73) (h1 : cs.all (·.oneCell') = true) (w : World) :
    (storeCells ⟨w.heap.size, 0, none⟩ cs.toList 0).run Tryz.prog (w.alloc (.cells Tryz.zeroCells108 108)) = .ok () (w.alloc (.cells cs 108)) :=
  run_storeCells_new (P := Tryz.prog) w 108 _ cs (by rw [hc]; kernel_rfl) (by rw [hc]; kernel_rfl) h1
theorem arr_z73 : Tryz.zeroCells108.size = 73 := by kernel_rfl
theorem arr_z1 : Tryz.zeroCells108.all (·.oneCell') = true := by rw [arr_zero]; exact arrL_one _ _ _
theorem arr_73 (r : Int) (ls : List Int) (es : List Nat) (h1 : ls.length = 8) (h2 : es.length = 64) : (arrL r ls es).toArray.size = 73 := by simpa using arrL_len r ls es h1 h2
section
variable {w : World} {b : Nat} {t : TypeId} {r : Int} {ls : List Int} {es : List Nat}
theorem arr_root (h : Bk w b (arrL r ls es).toArray t) : w.cell? ⟨b, 0, none⟩ = some (.int .i64 r) := h.cell 0
theorem arr_leaf (h1 : ls.length = 8) (h : Bk w b (arrL r ls es).toArray t) {i : Nat} (hi : i < 8) : w.cell? ⟨b, 1 + i, none⟩ = some (.int .i64 (ls.getD i 0)) := by
  rw [h.cell]
  have : i < ls.length := by omega
  simp [arrL, iw, Nat.add_comm 1 i, List.getElem?_append_left, this]
theorem arr_ent (h1 : ls.length = 8) (h2 : es.length = 64) (h : Bk w b (arrL r ls es).toArray t) {p : Nat} (hp : p < 64) : w.cell? ⟨b, 9 + p, none⟩ = some (.int .u64 ((es.getD p 0 : Nat) : Int)) := by
  rw [h.cell]
  have h3 : p < es.length := by omega
  simp only [arrL, List.getElem?_toArray]
  rw [show 9 + p = (p + 8) + 1 by omega, List.getElem?_cons_succ, List.getElem?_append_right (by simp [iw, h1])]
  simp [iw, uw, h1, h3]
theorem arr_tbv (h1 : ls.length = 8) (h2 : es.length = 64) (h : Bk w b (arrL r ls es).toArray t) : TbV w (.agg #[.int .i64 r, .slice (some ⟨b, 1, none⟩) 8 8, .slice (some ⟨b, 9, none⟩) 64 64]) (r, ls, es) := by
  refine ⟨some ⟨b, 1, none⟩, 8, some ⟨b, 9, none⟩, 64, ?_, ?_, ?_, by simp [h1]⟩
  · simp [tabV, h1, h2]
  · refine ⟨by simp [iw_len], fun _ => ⟨b, 1, rfl, h.lt, fun j u hu => ?_⟩⟩
    have hj : j < 8 := by have := (List.getElem?_eq_some_iff.1 hu).1; simp [iw_len, h1] at this; omega
    rw [arr_leaf h1 h hj, ← hu]
    have : j < ls.length := by omega
    simp [iw, this]
  · refine ⟨by simp [uw_len], fun _ => ⟨b, 9, rfl, h.lt, fun j u hu => ?_⟩⟩
    have hj : j < 64 := by have := (List.getElem?_eq_some_iff.1 hu).1; simp [uw_len, h2] at this; omega
    rw [arr_ent h1 h2 h hj, ← hu]
    have : j < es.length := by omega
    simp [uw, this]
theorem arr_setleaf (h1 : ls.length = 8) (i : Nat) (hi : i < 8) (v : Int) : (arrL r ls es).toArray.setIfInBounds (1 + i) (.int .i64 v) = (arrL r (ls.set i v) es).toArray := by
  have : i < ls.length := by omega
  simp [arrL, iw, Nat.add_comm 1 i, List.set_append_left, this, List.map_set]
theorem arr_setent (h1 : ls.length = 8) (p : Nat) (x : Nat) : (arrL r ls es).toArray.setIfInBounds (9 + p) (.int .u64 (x : Int)) = (arrL r ls (es.set p x)).toArray := by
  simp only [arrL, List.setIfInBounds_toArray]
  rw [show 9 + p = (p + 8) + 1 by omega, List.set_cons_succ, List.set_append_right _ _ (by simp [iw, h1])]
  simp [iw, uw, h1, List.map_set]
end

theorem load_any (r : Int) (A B : Option Addr) (c d : Nat) (ls : List Int) (es : List Nat) (w : World) (h1 : ls.length = 8) (h2 : es.length = 64) (hA : Rd w 1 A 8 (iw ls)) (hB : Rd w 1 B 64 (uw es)) :
    Calls Tryz.prog 72 #[tabV r A 8 c B 64 d] w fun e w' => e = .returned (.agg (arrL r ls es).toArray) ∧ Below w.heap.size w w' := by
  obtain ⟨gA, oA, rfl, lA, cA⟩ := hA.2 (by omega)
  obtain ⟨gB, oB, rfl, lB, cB⟩ := hB.2 (by omega)
  unfold tabV
  go_enter Tryz.func72, Tryz.ntmps72
  go_wp2_with fail
  have kT := (Bk.new w #[.int .i64 r, .slice (some ⟨gA, oA, none⟩) 8 c, .slice (some ⟨gB, oB, none⟩) 64 d] 26).alloc (.cells Tryz.zeroCells108 108)
  have kR := Bk.new (w.alloc (.cells #[.int .i64 r, .slice (some ⟨gA, oA, none⟩) 8 c, .slice (some ⟨gB, oB, none⟩) 64 d] 26)) Tryz.zeroCells108 108
  have hB2 := balloc (balloc (Below.refl _ w) (.cells #[.int .i64 r, .slice (some ⟨gA, oA, none⟩) 8 c, .slice (some ⟨gB, oB, none⟩) 64 d] 26)) (.cells Tryz.zeroCells108 108)
  rw [World.size_alloc] at kR
  generalize ((w.alloc (.cells #[.int .i64 r, .slice (some ⟨gA, oA, none⟩) 8 c, .slice (some ⟨gB, oB, none⟩) 64 d] 26)).alloc (.cells Tryz.zeroCells108 108)) = w1 at *
  obtain ⟨cT, fT, lT⟩ := kT.facts
  have hp8 := fun w => run_arrptr (P := Tryz.prog) w gA oA c 105 3 8 (by kernel_rfl)
  have hp64 := fun w => run_arrptr (P := Tryz.prog) w gB oB d 106 85 64 (by kernel_rfl)
  refine wp_region_still_tail 11 (by kernel_rfl) (by kernel_rfl) ?_
  simp only [List.take_succ_cons, List.take_zero, List.drop_succ_cons, List.drop_zero]
  iterate 5 still_step
  refine wpStill_load_mid (by rfl) 105 _ rfl gA oA rfl (iw ls) (.array 8 3) (fun j v hv => (hB2.cell (p := ⟨gA, oA + j, none⟩) lA).trans (cA j v hv)) (by kernel_rfl) rfl (by rw [iw_len, h1]; kernel_rfl) ?_
  go_frame
  iterate 3 still_step
  refine wpStill_load_mid (by rfl) 106 _ rfl gB oB rfl (uw es) (.array 64 85) (fun j v hv => (hB2.cell (p := ⟨gB, oB + j, none⟩) lB).trans (cB j v hv)) (by kernel_rfl) rfl (by rw [uw_len, h2]; kernel_rfl) ?_
  go_frame
  refine wpStill_build (by rfl) 108 _ rfl _ (by simp only [List.map_toArray, List.map_cons, List.map_nil]; exact arr_built r ls es h1 h2) ?_
  go_frame
  refine wpStill_nil ?_
  change wpList _ _ _ _ _ w1.drew
  have hsz : (arrL r ls es).toArray.size = 73 := by simpa using arrL_len r ls es h1 h2
  refine wpList_store_row rfl 108 _ _ rfl (w.heap.size + 1) (arrL r ls es).toArray rfl rfl 108 Tryz.zeroCells108 kR.drew (by rw [hsz]; kernel_rfl) (by rw [hsz]; kernel_rfl) (arrL_one r ls es) ?_
  have kR2 := kR.drew.row (arrL r ls es).toArray
  have hB3 := below_row (below_drew hB2) (Nat.le_succ _) (arrL r ls es).toArray
  generalize w1.drew.setRow (w.heap.size + 1) (arrL r ls es).toArray = w2 at *
  go_wp2_with fail
  exact bodyPost_ret (kR2.res1 (P := Tryz.prog) rfl _ rfl (by kernel_rfl) (by rw [hsz]; kernel_rfl)) rfl ⟨rfl, hB3⟩

theorem table_any (r : Int) (ls : List Int) (es : List Nat) (w : World) (h1 : ls.length = 8) (h2 : es.length = 64) :
    Calls Tryz.prog 71 #[.agg (arrL r ls es).toArray] w fun e w' => e = .returned (.agg #[.int .i64 r, .slice (some ⟨w.heap.size, 1, none⟩) 8 8, .slice (some ⟨w.heap.size, 9, none⟩) 64 64]) ∧ Bk w' w.heap.size (arrL r ls es).toArray 108 ∧ Below w.heap.size w w' := by
  have hsz : (arrL r ls es).toArray.size = 73 := by simpa using arrL_len r ls es h1 h2
  have hz : ∃ cs, cs = (arrL r ls es).toArray := ⟨_, rfl⟩
  have hc0 : (arrL r ls es).toArray[0]? = some (.int .i64 r) := rfl
  go_enter Tryz.func71, Tryz.ntmps71
  go_wp2_with fail
  have kA := (Bk.new w (arrL r ls es).toArray 108).alloc (.cells #[.int .i64 0, .slice none 0 0, .slice none 0 0] 26)
  have kR := Bk.new (w.alloc (.cells (arrL r ls es).toArray 108)) #[.int .i64 0, .slice none 0 0, .slice none 0 0] 26
  have hB2 := balloc (balloc (Below.refl _ w) (.cells (arrL r ls es).toArray 108)) (.cells #[.int .i64 0, .slice none 0 0, .slice none 0 0] 26)
  rw [World.size_alloc] at kR
  generalize ((w.alloc (.cells (arrL r ls es).toArray 108)).alloc (.cells #[.int .i64 0, .slice none 0 0, .slice none 0 0] 26)) = w1 at *
  obtain ⟨cA, fA, lA⟩ := kA.facts
  have c0 := cA 0
  rw [hc0] at c0
  clear cA
  obtain ⟨cR, fR, lR⟩ := kR.facts
  refine wp_region_still_tail 7 (by kernel_rfl) (by kernel_rfl) ?_
  simp only [List.take_succ_cons, List.take_zero, List.drop_succ_cons, List.drop_zero]
  repeat still_step
  refine wpStill_nil ?_
  change wpList _ _ _ _ _ w1.drew
  go_wp2_with fail
  have kR2 := (kR.put3 (.int .i64 r) (.slice (some ⟨w.heap.size, 1, none⟩) 8 8) (.slice (some ⟨w.heap.size, 9, none⟩) 64 64)).drew
  have kA2 := (kA.far3 (g := w.heap.size + 1) (by omega) (.int .i64 r) (.slice (some ⟨w.heap.size, 1, none⟩) 8 8) (.slice (some ⟨w.heap.size, 9, none⟩) 64 64)).drew
  have hB3 := below_drew (below_put3 hB2 (Nat.le_succ _) (.int .i64 r) (.slice (some ⟨w.heap.size, 1, none⟩) 8 8) (.slice (some ⟨w.heap.size, 9, none⟩) 64 64))
  exact bodyPost_ret (kR2.res1 (P := Tryz.prog) rfl _ rfl (by kernel_rfl) (by kernel_rfl)) rfl ⟨rfl, kA2, hB3⟩
end Go.Proofs.YtpkgfkhaiifooaaGreatDoor
/- Which page tables are valid: the program. -/
namespace Go.Proofs.YtpkgfkhaiifooaaGreatDoor
open Go Go.Proofs Go.RowKit
set_option linter.unusedSimpArgs false
set_option linter.unusedVariables false
set_option maxRecDepth 100000

theorem isFrame_t (n : Int) (w : World) (h0 : 0 ≤ n) (h1 : n < 256) :
    Calls Tryz.prog 70 #[.int .i64 n] w fun e w' => e = .returned (.bool true) ∧ w = w' := by
  go_enter Tryz.func70, Tryz.ntmps70
  go_wp2
  go_ret
  exact ⟨rfl, rfl⟩
theorem isFrame_f (n : Int) (w : World) (h : n < 0 ∨ 256 ≤ n) :
    Calls Tryz.prog 70 #[.int .i64 n] w fun e w' => e = .returned (.bool false) ∧ w = w' := by
  rcases h with h | h
  · have d1 : decide (0 ≤ n) = false := by simp; omega
    go_enter Tryz.func70, Tryz.ntmps70
    go_wp2
    go_ret
    exact ⟨rfl, rfl⟩
  · have d1 : decide (0 ≤ n) = true := by simp; omega
    have d2 : decide (n < 256) = false := by simp; omega
    go_enter Tryz.func70, Tryz.ntmps70
    go_wp2
    go_ret
    exact ⟨rfl, rfl⟩
theorem isFrame_any (n : Int) (w : World) :
    Calls Tryz.prog 70 #[.int .i64 n] w fun e w' => e = .returned (.bool (decide (0 ≤ n ∧ n < 256))) ∧ w = w' := by
  by_cases h : 0 ≤ n ∧ n < 256
  · rw [decide_eq_true h]; exact isFrame_t n w h.1 h.2
  · rw [decide_eq_false h]; exact isFrame_f n w (by omega)

/-- Whether one of the first k leaves is there. -/
def thB (ls : List Int) (k : Nat) : Bool := (List.range k).any fun j => ls.getD j 0 != -1
theorem thB_succ (ls : List Int) (k : Nat) : thB ls (k + 1) = (thB ls k || (ls.getD k 0 != -1)) := by simp [thB, List.range_succ]
theorem st_of (r : Int) (ls : List Int) (hb : ∀ i, i < 8 → -1 ≤ ls.getD i 0) (hr : -1 ≤ r) : fst0 (stE r ls) 8 = if thB ls 8 = true ∧ r = -1 then 9 else 0 := by
  by_cases h : thB ls 8 = true ∧ r = -1
  · rw [if_pos h]
    obtain ⟨h1, h2⟩ := h
    have key : ∀ n, n ≤ 8 → thB ls n = true → fst0 (stE r ls) n = 9 := by
      intro n
      induction n with
      | zero => intro _ h; simp [thB] at h
      | succ n ih =>
        intro hn h
        rw [thB_succ] at h
        unfold fst0
        by_cases h3 : thB ls n = true
        · rw [ih (by omega) h3]; rfl
        · have h4 : ls.getD n 0 ≠ -1 := by simp [h3] at h; simpa using h
          have h5 := hb n (by omega)
          have h6 : stE r ls n = 9 := by unfold stE; rw [if_pos (by omega)]
          have h7 : fst0 (stE r ls) n = 0 := by
            refine (fst0_zero _ _).2 fun k hk => ?_
            unfold stE
            rw [if_neg]
            intro hc
            apply h3
            simp only [thB, List.any_eq_true, List.mem_range]
            refine ⟨k, hk, bne_iff_ne.2 ?_⟩
            intro he
            rw [he] at hc
            omega
          rw [if_neg (by simp [h7]), h6]
    exact key 8 (by omega) h1
  · rw [if_neg h]
    refine (fst0_zero _ _).2 fun k hk => ?_
    unfold stE
    rw [if_neg]
    intro hc
    apply h
    refine ⟨?_, by omega⟩
    simp only [thB, List.any_eq_true, List.mem_range]
    refine ⟨k, hk, bne_iff_ne.2 ?_⟩
    intro he
    rw [he] at hc
    omega

set_option maxHeartbeats 2000000 in
theorem checkFrames_any (r : Int) (A B : Option Addr) (c m d : Nat) (ls : List Int) (w : World) (h1 : ls.length = 8) (hA : Rd w 1 A 8 (iw ls)) (hc8 : 8 ≤ c) :
    Calls Tryz.prog 79 #[tabV r A 8 c B m d] w fun e w' => e = .returned (.int .i64 (frmE r ls)) ∧ Below w.heap.size w w' := by
  unfold tabV
  have kT := Bk.new w #[.int .i64 r, .slice A 8 c, .slice B m d] 26
  have hB1 := balloc (Below.refl _ w) (.cells #[.int .i64 r, .slice A 8 c, .slice B m d] 26)
  have hA1 := hA.alloc (.cells #[.int .i64 r, .slice A 8 c, .slice B m d] 26)
  by_cases hr : r < -1 ∨ 256 ≤ r
  · have hv : frmE r ls = 2 := by
      have : badF r = 2 := by unfold badF; rw [if_pos hr]
      unfold frmE; rw [orE_l _ (by omega), this]
    rw [hv]
    have hi := isFrame_f r
    have hr1 : (r != -1) = true := by simp; omega
    go_enter Tryz.func79, Tryz.ntmps79
    go_wp2_with (go_at_call 70; refine (isFrame_f r _ (by omega)).mono ?_; rintro e w' ⟨rfl, rfl⟩)
    go_ret
    exact ⟨rfl, hB1⟩
  have Hr : Hid (badF r = 0) := Lib.hid (by unfold badF; rw [if_neg hr])
  have Hr0 : Hid (-1 ≤ r) := Lib.hid (by omega)
  have hr2 : (r != -1) = false ∨ (r != -1) = true ∧ 0 ≤ r ∧ r < 256 := by
    by_cases h : r = -1
    · left; simp [h]
    · right; exact ⟨by simpa using h, by omega, by omega⟩
  clear hr
  generalize hw1 : w.alloc (.cells #[.int .i64 r, .slice A 8 c, .slice B m d] 26) = w1 at *
  obtain ⟨cT, fT, lT⟩ := kT.facts
  have hrest : ∀ (hw1 : True), True := fun _ => trivial
  rcases hr2 with hr2 | ⟨hr2, hr3, hr4⟩
  all_goals
    go_enter Tryz.func79, Tryz.ntmps79
    go_wp2_with (go_at_call 70; refine (isFrame_t r _ hr3 hr4).mono ?_; rintro e w' ⟨rfl, rfl⟩)
    clear hw1
    go_loop [22] (fun i => ∃ k : Nat, k ≤ 8 ∧ i = .int .i64 k ∧ Hid (fst0 (fun i => badF (ls.getD i 0)) k = 0)) (fun i => 8 - (intOf i).toNat)
    case atStart => exact ⟨0, by omega, rfl, Lib.hid rfl⟩
    case round =>
      obtain ⟨k, hk, rfl, Hno⟩ := hrel
      by_cases hlt : k < 8
      · obtain ⟨g, off, z, rfl, hg, hz, hc⟩ := hA1.numb hlt
        by_cases hz1 : z = -1
        · have Hn2 := Lib.hid (fst0_step (fun i => badF (ls.getD i 0)) k Hno.out (by simp only [hz, hz1]; rfl))
          have hz2 : (z != -1) = false := by simp [hz1]
          clear hz1 hz
          go_wp2_with fail
          go_round
          case rel => exact ⟨k + 1, by omega, by go_num, Hn2⟩
          case measure => simp [intOf]; omega
        · have hz2 : (z != -1) = true := by simp [hz1]
          by_cases hz3 : 0 ≤ z ∧ z < 256
          · have Hn2 := Lib.hid (fst0_step (fun i => badF (ls.getD i 0)) k Hno.out (by simp only [hz]; unfold badF; rw [if_neg (by omega)]))
            clear hz1 hz
            go_wp2_with (go_at_call 70; refine (isFrame_t z _ hz3.1 hz3.2).mono ?_; rintro e w' ⟨rfl, rfl⟩)
            go_round
            case rel => exact ⟨k + 1, by omega, by go_num, Hn2⟩
            case measure => simp [intOf]; omega
          · have hv : frmE r ls = 2 := by
              have hb : badF (ls.getD k 0) = 2 := by rw [hz]; unfold badF; rw [if_pos (by omega)]
              unfold frmE
              have : lsE ls = 2 := by
                unfold lsE
                rw [fst0_hit _ k 8 Hno.out (by simp only [hb]; omega) hlt, hb]
              rw [orE_r _ Hr.out, this, orE_l _ (by omega)]
            have Hv := Lib.hid hv
            clear hv hz1 hz
            go_wp2_with (go_at_call 70; refine (isFrame_f z _ (by omega)).mono ?_; rintro e w' ⟨rfl, rfl⟩)
            go_ret
            exact ⟨by rw [Hv.out]; rfl, hB1⟩
      · obtain rfl : k = 8 := by omega
        have Hl : Hid (lsE ls = 0) := Lib.hid (by unfold lsE; exact Hno.out)
        have Hb : Hid (∀ i, i < 8 → -1 ≤ ls.getD i 0) := Lib.hid (fun i hi => (badF_zero ((fst0_zero _ _).1 Hno.out i hi)).1)
        go_wp2_with fail
        clear Hno hk hlt
        go_loop [5, 37] (fun s i => ∃ k : Nat, k ≤ 8 ∧ s = .bool (thB ls k) ∧ i = .int .i64 k ∧ Hid (fst0 (dupE r ls) k = 0)) (fun _ i => 8 - (intOf i).toNat)
        case atStart => exact ⟨0, by omega, rfl, rfl, Lib.hid rfl⟩
        case round =>
          obtain ⟨k, hk, rfl, rfl, Hno⟩ := hrel
          by_cases hlt : k < 8
          · obtain ⟨g, off, z, rfl, hg, hz, hc⟩ := hA1.numb hlt
            have Hz := Lib.hid hz
            by_cases hz1 : z = -1
            · have Hn2 := Lib.hid (fst0_step (dupE r ls) k Hno.out (by unfold dupE; rw [if_neg (by omega)]))
              have Ht : Hid (thB ls (k + 1) = thB ls k) := Lib.hid (by rw [thB_succ, hz, hz1]; simp)
              have hz2 : (z == -1) = true := by simp [hz1]
              clear hz1 hz
              go_wp2_with fail
              go_round
              case rel => exact ⟨k + 1, by omega, by rw [Ht.out], by go_num, Hn2⟩
              case measure => simp [intOf]; omega
            · have hz2 : (z == -1) = false := by simp [hz1]
              have hz0 : 0 ≤ z := by have := Hb.out k hlt; omega
              have Ht : Hid (thB ls (k + 1) = true) := Lib.hid (by rw [thB_succ, hz]; simp [hz1])
              have Hhit : Hid ((z = r ∨ ∃ j, j < k ∧ ls.getD j 0 = z) → frmE r ls = 7) := Lib.hid (fun h => by
                have hd : dupE r ls k = 7 := by unfold dupE; rw [if_pos (by rw [hz]; exact ⟨hz0, h⟩)]
                unfold frmE
                rw [orE_r _ Hr.out, orE_r _ Hl.out, fst0_hit _ k 8 Hno.out (by omega) hlt, hd, orE_l _ (by omega)])
              clear hz1 hz
              by_cases hzr : z = r
              · have hz3 : (z == r) = true := by simp [hzr]
                have Hv := Lib.hid (Hhit.out (.inl hzr))
                clear hzr
                go_wp2_with fail
                go_ret
                exact ⟨by rw [Hv.out]; rfl, hB1⟩
              · have hz3 : (z == r) = false := by simp [hzr]
                have Hzr := Lib.hid hzr
                clear hzr
                have hk2 : k ≤ c := by omega
                have hk3 : (k : Int) ≤ (c : Int) := by omega
                go_wp2_with fail
                go_loop [53] (fun i => ∃ m : Nat, m ≤ k ∧ i = .int .i64 m ∧ Hid (∀ j, j < m → ls.getD j 0 ≠ z)) (fun i => k - (intOf i).toNat)
                case atStart => exact ⟨0, by omega, rfl, Lib.hid (fun j h => by omega)⟩
                case round =>
                  obtain ⟨m2, hm, rfl, Hj⟩ := hrel
                  by_cases hlm : m2 < k
                  · obtain ⟨g', off', y, e', hg', hy, hc'⟩ := hA1.numb (show m2 < 8 by omega)
                    injection e' with e'
                    injection e' with e1 e2
                    subst e1 e2
                    by_cases hzy : z = y
                    · have hz4 : (z == y) = true := by simp [hzy]
                      have Hv := Lib.hid (Hhit.out (.inr ⟨m2, hlm, by rw [hy, hzy]⟩))
                      clear hzy hy
                      go_wp2_with fail
                      go_ret
                      exact ⟨by rw [Hv.out]; rfl, hB1⟩
                    · have hz4 : (z == y) = false := by simp [hzy]
                      have Hj2 : Hid (∀ j, j < m2 + 1 → ls.getD j 0 ≠ z) := Lib.hid (fun j h => by
                        rcases Nat.lt_or_ge j m2 with h' | h'
                        · exact Hj.out j h'
                        · rw [show j = m2 by omega, hy]; exact fun e => hzy e.symm)
                      clear hzy hy
                      go_wp2_with fail
                      go_round
                      case rel => exact ⟨m2 + 1, by omega, by go_num, Hj2⟩
                      case measure => simp [intOf]; omega
                  · obtain rfl : m2 = k := by omega
                    have Hn2 := Lib.hid (fst0_step (dupE r ls) m2 Hno.out (by
                      unfold dupE
                      rw [if_neg]
                      rintro ⟨_, h | ⟨j, h1, h2⟩⟩
                      · exact Hzr.out (by rw [← Hz.out]; exact h)
                      · exact Hj.out j h1 (by rw [h2, Hz.out])))
                    go_wp2_with fail
                    go_round
                    case rel => exact ⟨m2 + 1, by omega, by rw [Ht.out], by go_num, Hn2⟩
                    case measure => simp [intOf]; omega
          · obtain rfl : k = 8 := by omega
            have Hf : Hid (frmE r ls = if thB ls 8 = true ∧ r = -1 then 9 else 0) := Lib.hid (by
              unfold frmE
              rw [orE_r _ Hr.out, orE_r _ Hl.out, orE_r _ Hno.out, st_of r ls Hb.out Hr0.out])
            clear Hno
            rcases hth : thB ls 8 with _ | _
            · have Hv : Hid (frmE r ls = 0) := Lib.hid (by rw [Hf.out, hth]; rfl)
              clear Hf
              go_wp2_with fail
              go_ret
              exact ⟨by rw [Hv.out]; rfl, hB1⟩
            · by_cases hre : r = -1
              · have hre2 : (r == -1) = true := by simp [hre]
                have Hv : Hid (frmE r ls = 9) := Lib.hid (by rw [Hf.out, if_pos ⟨hth, hre⟩])
                clear hre Hf
                go_wp2_with fail
                go_ret
                exact ⟨by rw [Hv.out]; rfl, hB1⟩
              · have hre2 : (r == -1) = false := by simp [hre]
                have Hv : Hid (frmE r ls = 0) := Lib.hid (by rw [Hf.out, if_neg (fun h => hre h.2)])
                clear hre Hf
                go_wp2_with fail
                go_ret
                exact ⟨by rw [Hv.out]; rfl, hB1⟩
end Go.Proofs.YtpkgfkhaiifooaaGreatDoor
/- Which page tables are valid: the program's Check. -/
namespace Go.Proofs.YtpkgfkhaiifooaaGreatDoor
open Go Go.Proofs Go.RowKit
set_option linter.unusedSimpArgs false
set_option linter.unusedVariables false
set_option maxRecDepth 100000

theorem Leaf_nat (k : Nat) (w : World) (h : k < 64) :
    Calls Tryz.prog 81 #[.int .i64 k] w fun e w' => e = .returned (.tuple #[.int .i64 ((k / 8 : Nat) : Int), .int .i64 ((k % 8 : Nat) : Int), .int .i64 0]) ∧ w = w' := by
  have := Leaf_ok k w (by omega) (by omega)
  rwa [show (k : Int) / 8 = ((k / 8 : Nat) : Int) by omega, show (k : Int) % 8 = ((k % 8 : Nat) : Int) by omega] at this

theorem unpR_ok0 (x : Nat) (h : unpE x = 0) : unpR x = ((((x % 4 : Nat) : Int), ((x / 256 : Nat) : Int), decide (x / 4 % 2 = 1), decide (x / 8 % 2 = 1), decide (x / 16 % 2 = 1)), 0) := by unfold unpR; rw [if_pos h]
theorem unpR_bad (x : Nat) (h : unpE x ≠ 0) : unpR x = ((0, 0, false, false, false), unpE x) := by unfold unpR; rw [if_neg h]

set_option maxHeartbeats 2000000 in
theorem TCheck_any (r : Int) (ls : List Int) (es : List Nat) (v : Value) (w : World) (hv : TbV w v (r, ls, es)) (hs : wsmall es) (hL : LayOK w) :
    Calls Tryz.prog 44 #[v] w fun e w' => e = .returned (.int .i64 (tabE r ls es)) ∧ Below w.heap.size w w' := by
  obtain ⟨A, c, B, d, rfl, hA, hB, hcc⟩ := hv
  simp only at hA hB hcc
  unfold tabV
  have kT := Bk.new w #[.int .i64 r, .slice A ls.length c, .slice B es.length d] 26
  have hB1 := balloc (Below.refl _ w) (.cells #[.int .i64 r, .slice A ls.length c, .slice B es.length d] 26)
  have hA1 := hA.alloc (.cells #[.int .i64 r, .slice A ls.length c, .slice B es.length d] 26)
  have hE1 := hB.alloc (.cells #[.int .i64 r, .slice A ls.length c, .slice B es.length d] 26)
  have hL1 := hL.alloc (.cells #[.int .i64 r, .slice A ls.length c, .slice B es.length d] 26)
  by_cases h1 : ls.length = 8
  case neg =>
    have hv : tabE r ls es = 3 := by unfold tabE; rw [if_pos (.inl h1)]
    rw [hv]
    have hd : ((ls.length : Int) != 8) = true := by simp; omega
    go_enter Tryz.func44, Tryz.ntmps44
    go_wp2_with fail
    go_ret
    exact ⟨rfl, hB1⟩
  by_cases h2 : es.length = 64
  case neg =>
    have hv : tabE r ls es = 3 := by unfold tabE; rw [if_pos (.inr h2)]
    rw [hv]
    have hd : ((es.length : Int) != 64) = true := by simp; omega
    rw [h1] at kT hB1 ⊢
    go_enter Tryz.func44, Tryz.ntmps44
    go_wp2_with fail
    go_ret
    exact ⟨rfl, hB1⟩
  have HE : Hid (tabE r ls es = orE (frmE r ls) (fst0 (entB ls es) 64)) := Lib.hid (by unfold tabE; rw [if_neg (by omega)])
  rw [h1] at kT hB1 hA1 hE1 hL1 hcc ⊢
  rw [h2] at kT hB1 hA1 hE1 hL1 ⊢
  generalize hw1 : w.alloc (.cells #[.int .i64 r, .slice A 8 c, .slice B 64 d] 26) = w1 at *
  have hsz : w1.heap.size = w.heap.size + 1 := by rw [← hw1]; simp
  by_cases hf : frmE r ls = 0
  case neg =>
    have Hv : Hid (tabE r ls es = frmE r ls) := Lib.hid (by rw [HE.out, orE_l _ hf])
    have hd : (frmE r ls != 0) = true := by simpa using hf
    obtain ⟨cT, fT, lT⟩ := kT.facts
    clear hf HE
    go_enter Tryz.func44, Tryz.ntmps44
    go_wp2_with (go_at_call 79; refine (checkFrames_any r A B c 64 d ls _ h1 hA1 hcc).mono ?_; rintro e w2 ⟨rfl, hb2⟩)
    go_ret
    exact ⟨by rw [Hv.out]; rfl, bnext hB1 hb2⟩
  have Hv : Hid (tabE r ls es = fst0 (entB ls es) 64) := Lib.hid (by rw [HE.out, orE_r _ hf])
  have hd : (frmE r ls != 0) = false := by simpa using hf
  clear hf HE
  obtain ⟨cT, fT, lT⟩ := kT.facts
  go_enter Tryz.func44, Tryz.ntmps44
  go_wp2_with fail
  refine (checkFrames_any r A B c 64 d ls _ h1 hA1 hcc).mono ?_
  rintro e w2 ⟨rfl, hb2⟩
  clear cT fT lT
  replace kT := kT.to hb2
  replace hA1 := hA1.below hb2 (Nat.le_refl _)
  replace hE1 := hE1.below hb2 (Nat.le_refl _)
  replace hL1 := hL1.below hb2
  replace hB1 := bnext hB1 hb2
  clear hb2 hsz hw1
  obtain ⟨cT, fT, lT⟩ := kT.facts
  go_wp2_with fail
  clear cT fT lT
  go_loopw [28] (fun i wr => ∃ k : Nat, k ≤ 64 ∧ i = .int .i64 k ∧ Hid (fst0 (entB ls es) k = 0) ∧ Below w2.heap.size w2 wr) (fun i _ => 64 - (intOf i).toNat)
  case atStart => exact ⟨0, by omega, rfl, Lib.hid rfl, Below.refl _ _⟩
  case round =>
    obtain ⟨k, hk, rfl, Hno, hbr⟩ := hrel
    obtain ⟨cT, fT, lT⟩ := (kT.to hbr).facts
    by_cases hlt : k < 64
    · obtain ⟨g, off, x, rfl, hg, hx, hxs, hc⟩ := (hE1.below hbr (Nat.le_refl _)).word hs hlt
      have hLr := hL1.below hbr
      by_cases hu : unpE x = 0
      · obtain ⟨g', off', z, rfl, hg', hz, hc'⟩ := (hA1.below hbr (Nat.le_refl _)).numb (show k / 8 < 8 by omega)
        have hq1 : ((k / 8 : Nat) : Int) < 8 := by omega
        have hun := Unpack_any x
        rw [unpR_ok0 x hu] at hun
        obtain ⟨kk, hkk⟩ : ∃ kk : Int, kk = ((x % 4 : Nat) : Int) := ⟨_, rfl⟩
        rw [← hkk] at hun
        generalize ((x / 256 : Nat) : Int) = nn at hun
        generalize decide (x / 4 % 2 = 1) = f1 at hun
        generalize decide (x / 8 % 2 = 1) = f2 at hun
        generalize decide (x / 16 % 2 = 1) = f3 at hun
        have HU := Lib.hid hun
        clear hun
        have Hz : Hid (entB ls es k = if x % 4 ≠ 0 ∧ z = -1 then 9 else 0) := Lib.hid (by unfold entB; rw [hx, orE_r _ hu, hz])
        by_cases hc4 : x % 4 ≠ 0 ∧ z = -1
        · have Hv2 : Hid (tabE r ls es = 9) := Lib.hid (by
            have hb : entB ls es k = 9 := by rw [Hz.out, if_pos hc4]
            rw [Hv.out, fst0_hit _ k 64 Hno.out (by omega) hlt, hb])
          have d1 : (kk != 0) = true := by simp; omega
          have d2 : (z == -1) = true := by simp [hc4.2]
          clear hc4 hz hx hu hkk Hz
          go_wp2_with (first
            | (go_at_call 80; refine (HU.out _ hxs hLr).mono ?_; rintro e w3 ⟨rfl, hb3⟩; simp only; obtain ⟨cT3, fT3, lT3⟩ := (kT.to (bnext hbr hb3)).facts; have hc3 := (hb3.cell (p := ⟨g', off' + k / 8, none⟩) hg').trans hc'; have hg3 := Nat.lt_of_lt_of_le hg' hb3.size)
            | (go_at_call 81; refine (Leaf_nat k _ hlt).mono ?_; rintro e w4 ⟨rfl, rfl⟩))
          go_ret
          exact ⟨by rw [Hv2.out]; rfl, bnext hB1 (balloc (bnext hbr hb3) _)⟩
        · have Hn2 : Hid (fst0 (entB ls es) (k + 1) = 0) := Lib.hid (fst0_step _ k Hno.out (by rw [Hz.out, if_neg hc4]))
          have d1 : (kk != 0) = false ∨ (kk != 0) = true ∧ (z == -1) = false := by
            by_cases h4 : x % 4 = 0
            · left; rw [hkk, h4]; rfl
            · right; exact ⟨by simp; omega, by simp; omega⟩
          clear hc4 hz hx hu hkk Hz
          rcases d1 with d1 | ⟨d1, d2⟩
          all_goals
            go_wp2_with (first
              | (go_at_call 80; refine (HU.out _ hxs hLr).mono ?_; rintro e w3 ⟨rfl, hb3⟩; simp only; obtain ⟨cT3, fT3, lT3⟩ := (kT.to (bnext hbr hb3)).facts; have hc3 := (hb3.cell (p := ⟨g', off' + k / 8, none⟩) hg').trans hc'; have hg3 := Nat.lt_of_lt_of_le hg' hb3.size)
              | (go_at_call 81; refine (Leaf_nat k _ hlt).mono ?_; rintro e w4 ⟨rfl, rfl⟩))
            go_roundw
            case rel => exact ⟨k + 1, by omega, by go_num, Hn2, balloc (bnext hbr hb3) _⟩
            case measure => simp [intOf]; omega
      · have hun := Unpack_any x
        rw [unpR_bad x hu] at hun
        have Hv2 : Hid (tabE r ls es = unpE x) := Lib.hid (by
          have hb : entB ls es k = unpE x := by unfold entB; rw [hx, orE_l _ hu]
          rw [Hv.out, fst0_hit _ k 64 Hno.out (by rw [hb]; exact hu) hlt, hb])
        have d1 : (unpE x != 0) = true := by simpa using hu
        have HU := Lib.hid hun
        clear hun hu hx
        go_wp2_with (go_at_call 80; refine (HU.out _ hxs hLr).mono ?_; rintro e w3 ⟨rfl, hb3⟩; simp only)
        go_ret
        exact ⟨by rw [Hv2.out]; rfl, bnext hB1 (balloc (bnext hbr hb3) _)⟩
    · obtain rfl : k = 64 := by omega
      have Hv2 : Hid (tabE r ls es = 0) := Lib.hid (by rw [Hv.out, Hno.out])
      go_wp2_with fail
      go_ret
      exact ⟨by rw [Hv2.out]; rfl, bnext hB1 hbr⟩
end Go.Proofs.YtpkgfkhaiifooaaGreatDoor
/- Page tables: open. -/
namespace Go.Proofs.YtpkgfkhaiifooaaGreatDoor
open Go Go.Proofs Go.RowKit
set_option linter.unusedSimpArgs false
set_option linter.unusedVariables false
set_option maxRecDepth 100000

set_option maxHeartbeats 1000000 in
theorem open_bad1 (r : Int) (ls : List Int) (es : List Nat) (v : Value) (page : Int) (w : World) (hv : TbV w v (r, ls, es)) (hs : wsmall es) (hL : LayOK w) (hE : tabE r ls es ≠ 0) :
    Calls Tryz.prog 90 #[v, .int .i64 page] w fun e w' => e = .returned (.tuple #[.agg Tryz.zeroCells108, .int .i64 0, .int .i64 (tabE r ls es)]) ∧ Below w.heap.size w w' := by
  have hd : (tabE r ls es != 0) = true := by simpa using hE
  obtain ⟨A, c, B, d, rfl, hA, hB, hcc⟩ := id hv
  simp only at hA hB hcc
  unfold tabV at hv ⊢
  have kT := (Bk.new w #[.int .i64 r, .slice A ls.length c, .slice B es.length d] 26).alloc (.cells Tryz.zeroCells108 108)
  have kR := Bk.new (w.alloc (.cells #[.int .i64 r, .slice A ls.length c, .slice B es.length d] 26)) Tryz.zeroCells108 108
  have hB2 := balloc (balloc (Below.refl _ w) (.cells #[.int .i64 r, .slice A ls.length c, .slice B es.length d] 26)) (.cells Tryz.zeroCells108 108)
  rw [World.size_alloc] at kR
  generalize hw1 : ((w.alloc (.cells #[.int .i64 r, .slice A ls.length c, .slice B es.length d] 26)).alloc (.cells Tryz.zeroCells108 108)) = w1 at *
  obtain ⟨cT, fT, lT⟩ := kT.facts
  go_enter Tryz.func90, Tryz.ntmps90
  go_wp2_with fail
  refine (TCheck_any r ls es _ _ (hv.to hB2) hs (hL.below hB2)).mono ?_
  rintro e w2 ⟨rfl, hb2⟩
  replace kR := kR.to hb2
  have hst := arr_store kR arr_z73 arr_z73 arr_z1
  have kR2 := kR.row Tryz.zeroCells108
  have hB3 := below_row (bnext hB2 hb2) (Nat.le_succ _) Tryz.zeroCells108
  go_wp2_with fail
  exact bodyPost_ret (kR2.res3 (P := Tryz.prog) rfl _ rfl (by kernel_rfl) (by kernel_rfl)) rfl ⟨rfl, hB3⟩

set_option maxHeartbeats 1000000 in
theorem open_bad2 (r : Int) (ls : List Int) (es : List Nat) (v : Value) (page : Int) (w : World) (hv : TbV w v (r, ls, es)) (hs : wsmall es) (hL : LayOK w) (hE : tabE r ls es = 0) (hp : page < 0 ∨ 64 ≤ page) :
    Calls Tryz.prog 90 #[v, .int .i64 page] w fun e w' => e = .returned (.tuple #[.agg Tryz.zeroCells108, .int .i64 0, .int .i64 2]) ∧ Below w.heap.size w w' := by
  obtain ⟨A, c, B, d, rfl, hA, hB, hcc⟩ := id hv
  simp only at hA hB hcc
  unfold tabV at hv ⊢
  have kT := (Bk.new w #[.int .i64 r, .slice A ls.length c, .slice B es.length d] 26).alloc (.cells Tryz.zeroCells108 108)
  have kR := Bk.new (w.alloc (.cells #[.int .i64 r, .slice A ls.length c, .slice B es.length d] 26)) Tryz.zeroCells108 108
  have hB2 := balloc (balloc (Below.refl _ w) (.cells #[.int .i64 r, .slice A ls.length c, .slice B es.length d] 26)) (.cells Tryz.zeroCells108 108)
  rw [World.size_alloc] at kR
  generalize hw1 : ((w.alloc (.cells #[.int .i64 r, .slice A ls.length c, .slice B es.length d] 26)).alloc (.cells Tryz.zeroCells108 108)) = w1 at *
  obtain ⟨cT, fT, lT⟩ := kT.facts
  go_enter Tryz.func90, Tryz.ntmps90
  go_wp2_with fail
  refine (TCheck_any r ls es _ _ (hv.to hB2) hs (hL.below hB2)).mono ?_
  rw [hE]
  rintro e w2 ⟨rfl, hb2⟩
  replace kR := kR.to hb2
  have hst := arr_store kR arr_z73 arr_z73 arr_z1
  have kR2 := kR.row Tryz.zeroCells108
  have hB3 := below_row (bnext hB2 hb2) (Nat.le_succ _) Tryz.zeroCells108
  go_wp2_with (go_at_call 81; refine (Leaf_bad page _ hp).mono ?_; rintro e w4 ⟨rfl, rfl⟩)
  exact bodyPost_ret (kR2.res3 (P := Tryz.prog) rfl _ rfl (by kernel_rfl) (by kernel_rfl)) rfl ⟨rfl, hB3⟩

set_option maxHeartbeats 1000000 in
theorem open_ok (r : Int) (ls : List Int) (es : List Nat) (v : Value) (p : Nat) (w : World) (hv : TbV w v (r, ls, es)) (hs : wsmall es) (hL : LayOK w) (hE : tabE r ls es = 0) (hp : p < 64) :
    Calls Tryz.prog 90 #[v, .int .i64 p] w fun e w' => e = .returned (.tuple #[.agg (arrL r ls es).toArray, .int .i64 ((p / 8 : Nat) : Int), .int .i64 0]) ∧ Below w.heap.size w w' := by
  obtain ⟨h1, h2, _⟩ := tab_zero hE
  obtain ⟨A, c, B, d, rfl, hA, hB, hcc⟩ := id hv
  simp only at hA hB hcc
  unfold tabV at hv ⊢
  simp only at hv ⊢
  rw [h1, h2] at hv ⊢
  rw [h1] at hA hcc
  rw [h2] at hB
  have kT := (Bk.new w #[.int .i64 r, .slice A 8 c, .slice B 64 d] 26).alloc (.cells Tryz.zeroCells108 108)
  have kR := Bk.new (w.alloc (.cells #[.int .i64 r, .slice A 8 c, .slice B 64 d] 26)) Tryz.zeroCells108 108
  have hB2 := balloc (balloc (Below.refl _ w) (.cells #[.int .i64 r, .slice A 8 c, .slice B 64 d] 26)) (.cells Tryz.zeroCells108 108)
  rw [World.size_alloc] at kR
  generalize hw1 : ((w.alloc (.cells #[.int .i64 r, .slice A 8 c, .slice B 64 d] 26)).alloc (.cells Tryz.zeroCells108 108)) = w1 at *
  obtain ⟨cT, fT, lT⟩ := kT.facts
  go_enter Tryz.func90, Tryz.ntmps90
  go_wp2_with fail
  refine (TCheck_any r ls es _ _ (hv.to hB2) hs (hL.below hB2)).mono ?_
  rw [hE]
  rintro e w2 ⟨rfl, hb2⟩
  replace kR := kR.to hb2
  replace kT := kT.to hb2
  clear cT fT lT hw1
  obtain ⟨cT, fT, lT⟩ := kT.facts
  replace hB2 := bnext hB2 hb2
  clear hb2
  go_upto_region 7 with (go_at_call 81; refine (Leaf_nat p _ hp).mono ?_; rintro e w4 ⟨rfl, rfl⟩)
  go_wp2_with fail
  refine (load_any r A B c d ls es _ h1 h2 (hA.below hB2 (Nat.le_refl _)) (hB.below hB2 (Nat.le_refl _))).mono ?_
  rintro e w3 ⟨rfl, hb3⟩
  replace kR := kR.to hb3
  have hln := arrL_len r ls es h1 h2
  have hst := arr_store kR arr_z73 (arr_73 r ls es h1 h2) (arrL_one r ls es)
  have kR2 := kR.row (arrL r ls es).toArray
  have hB3 := below_row (bnext hB2 hb3) (Nat.le_succ _) (arrL r ls es).toArray
  go_wp2_with fail
  exact bodyPost_ret (kR2.res3 (P := Tryz.prog) rfl _ rfl (by kernel_rfl) (by rw [arr_73 r ls es h1 h2]; kernel_rfl)) rfl ⟨rfl, hB3⟩
end Go.Proofs.YtpkgfkhaiifooaaGreatDoor
/- Page tables: Get, Lacks, New. -/
namespace Go.Proofs.YtpkgfkhaiifooaaGreatDoor
open Go Go.Proofs Go.RowKit
set_option linter.unusedSimpArgs false
set_option linter.unusedVariables false
set_option maxRecDepth 100000

theorem open_bad (r : Int) (ls : List Int) (es : List Nat) (v : Value) (page : Int) (w : World) (hv : TbV w v (r, ls, es)) (hs : wsmall es) (hL : LayOK w) (hE : askE r ls es page ≠ 0) :
    Calls Tryz.prog 90 #[v, .int .i64 page] w fun e w' => e = .returned (.tuple #[.agg Tryz.zeroCells108, .int .i64 0, .int .i64 (askE r ls es page)]) ∧ Below w.heap.size w w' := by
  by_cases h : tabE r ls es = 0
  · have hp : page < 0 ∨ 64 ≤ page := by
      apply Classical.byContradiction
      intro hc
      apply hE
      unfold askE
      rw [orE_r _ h, if_neg hc]
    have : askE r ls es page = 2 := by unfold askE; rw [orE_r _ h, if_pos hp]
    rw [this]
    exact open_bad2 r ls es v page w hv hs hL h hp
  · have : askE r ls es page = tabE r ls es := by unfold askE; rw [orE_l _ h]
    rw [this]
    exact open_bad1 r ls es v page w hv hs hL h
theorem ask_zero {r : Int} {ls : List Int} {es : List Nat} {page : Int} (h : askE r ls es page = 0) : tabE r ls es = 0 ∧ ∃ p : Nat, page = p ∧ p < 64 := by
  obtain ⟨h1, h2⟩ := orE_zero h
  refine ⟨h1, page.toNat, ?_⟩
  split at h2
  · omega
  · omega

set_option maxHeartbeats 1000000 in
theorem TGet_bad (r : Int) (ls : List Int) (es : List Nat) (v : Value) (page : Int) (w : World) (hv : TbV w v (r, ls, es)) (hs : wsmall es) (hL : LayOK w) (hA : askE r ls es page ≠ 0) :
    Calls Tryz.prog 95 #[v, .int .i64 page] w fun e w' => EnRes w w' ((0, 0, false, false, false), askE r ls es page) e := by
  obtain ⟨A, c, B, d, rfl, hA', hB, hcc⟩ := id hv
  simp only at hA' hB hcc
  unfold tabV at hv ⊢
  simp only at hv ⊢
  have kT := ((Bk.new (w) #[.int .i64 r, .slice A ls.length c, .slice B es.length d] 26).alloc (.cells #[.int .i64 0, .int .i64 0, .bool false, .bool false, .bool false] 57))
  have kR := (Bk.new (w.alloc (.cells #[.int .i64 r, .slice A ls.length c, .slice B es.length d] 26)) #[.int .i64 0, .int .i64 0, .bool false, .bool false, .bool false] 57)
  rw [World.size_alloc] at kR
  have hB1 := balloc (balloc (Below.refl _ w) (.cells #[.int .i64 r, .slice A ls.length c, .slice B es.length d] 26)) (.cells #[.int .i64 0, .int .i64 0, .bool false, .bool false, .bool false] 57)
  generalize hw_w1 : (w.alloc (.cells #[.int .i64 r, .slice A ls.length c, .slice B es.length d] 26)).alloc (.cells #[.int .i64 0, .int .i64 0, .bool false, .bool false, .bool false] 57) = w1 at *
  have hd : (askE r ls es page != 0) = true := by simpa using hA
  obtain ⟨cT, fT, lT⟩ := kT.facts
  have hst := arr_store0 arr_z73 arr_z1
  go_enter Tryz.func95, Tryz.ntmps95
  go_wp2_with fail
  refine (open_bad r ls es _ page _ (hv.to hB1) hs (hL.below hB1) hA).mono ?_
  rintro e w2 ⟨rfl, hb2⟩
  go_upto_region 2 with fail
  have kA := (Bk.new (w2) Tryz.zeroCells108 108)
  have hB3 := balloc (Below.refl _ w2) (.cells Tryz.zeroCells108 108)
  generalize hw_w3 : (w2).alloc (.cells Tryz.zeroCells108 108) = w3 at *
  replace kR := (kR.to hb2).to hB3
  replace hB1 := bnext (bnext hB1 hb2) hB3
  clear hst cT fT lT hb2 hw_w1 hw_w3
  obtain ⟨cR, fR, lR⟩ := kR.facts
  go_wp2_with fail
  have kF := kR.put5 (.int .i64 0) (.int .i64 0) (.bool false) (.bool false) (.bool false)
  have hBF := below_put5 hB1 (b := w.heap.size + 1) (Nat.le_succ _) (.int .i64 0) (.int .i64 0) (.bool false) (.bool false) (.bool false)
  exact bodyPost_ret (kF.res2 (P := Tryz.prog) rfl _ rfl (by kernel_rfl) (by kernel_rfl)) rfl ⟨rfl, hBF⟩

set_option maxHeartbeats 1000000 in
theorem TGet_ok (r : Int) (ls : List Int) (es : List Nat) (v : Value) (p : Nat) (w : World) (hv : TbV w v (r, ls, es)) (hs : wsmall es) (hL : LayOK w) (hE : tabE r ls es = 0) (hp : p < 64) :
    Calls Tryz.prog 95 #[v, .int .i64 p] w fun e w' => EnRes w w' (unpR (es.getD p 0)) e := by
  obtain ⟨h1, h2, hR, hLs, hDu, hSt, hUn, hMi⟩ := tab_zero hE
  obtain ⟨A, c, B, d, rfl, hA, hB, hcc⟩ := id hv
  simp only at hA hB hcc
  unfold tabV at hv ⊢
  simp only at hv ⊢
  rw [h1, h2] at hv ⊢
  rw [h1] at hA hcc
  rw [h2] at hB
  have kT := ((Bk.new (w) #[.int .i64 r, .slice A 8 c, .slice B 64 d] 26).alloc (.cells #[.int .i64 0, .int .i64 0, .bool false, .bool false, .bool false] 57))
  have kR := (Bk.new (w.alloc (.cells #[.int .i64 r, .slice A 8 c, .slice B 64 d] 26)) #[.int .i64 0, .int .i64 0, .bool false, .bool false, .bool false] 57)
  rw [World.size_alloc] at kR
  have hB1 := balloc (balloc (Below.refl _ w) (.cells #[.int .i64 r, .slice A 8 c, .slice B 64 d] 26)) (.cells #[.int .i64 0, .int .i64 0, .bool false, .bool false, .bool false] 57)
  generalize hw_w1 : (w.alloc (.cells #[.int .i64 r, .slice A 8 c, .slice B 64 d] 26)).alloc (.cells #[.int .i64 0, .int .i64 0, .bool false, .bool false, .bool false] 57) = w1 at *
  have hpI : (p : Int) < 64 := by omega
  obtain ⟨cT, fT, lT⟩ := kT.facts
  have hln := arrL_len r ls es h1 h2
  have hst := arr_store0 (arr_73 r ls es h1 h2) (arrL_one r ls es)
  have hx : es.getD p 0 < 18446744073709551616 := by
    have hl : p < es.length := by omega
    rw [List.getD_eq_getElem?_getD, List.getElem?_eq_getElem hl]
    exact hs _ (List.getElem_mem hl)
  go_enter Tryz.func95, Tryz.ntmps95
  go_wp2_with fail
  refine (open_ok r ls es _ p _ (hv.to hB1) hs (hL.below hB1) hE hp).mono ?_
  rintro e w2 ⟨rfl, hb2⟩
  go_upto_region 2 with fail
  have kA := (Bk.new (w2) (arrL r ls es).toArray 108)
  have hB3 := balloc (Below.refl _ w2) (.cells (arrL r ls es).toArray 108)
  generalize hw_w3 : (w2).alloc (.cells (arrL r ls es).toArray 108) = w3 at *
  replace kR := (kR.to hb2).to hB3
  replace hB1 := bnext (bnext hB1 hb2) hB3
  clear hst cT fT lT hw_w1 hw_w3
  have ce := arr_ent h1 h2 kA hp
  have lA := kA.lt
  rcases hu : unpR (es.getD p 0) with ⟨⟨ek, en, ea, eb, ec⟩, er⟩
  have HU := Lib.hid (Unpack_any (es.getD p 0))
  rw [hu] at HU
  have HX := Lib.hid hu
  clear hu
  obtain ⟨x, hxe⟩ : ∃ x, x = es.getD p 0 := ⟨_, rfl⟩
  rw [← hxe] at ce hx HU
  clear hxe
  go_wp2_with (go_at_call 80; refine (HU.out _ hx (hL.below hB1)).mono ?_; rintro e w4 ⟨rfl, hb4⟩; simp only; obtain ⟨cR, fR, lR⟩ := (kR.to hb4).facts)
  have kF := (kR.to hb4).put5 (.int .i64 ek) (.int .i64 en) (.bool ea) (.bool eb) (.bool ec)
  have hBF := below_put5 (bnext hB1 hb4) (b := w.heap.size + 1) (Nat.le_succ _) (.int .i64 ek) (.int .i64 en) (.bool ea) (.bool eb) (.bool ec)
  exact bodyPost_ret (kF.res2 (P := Tryz.prog) rfl _ rfl (by kernel_rfl) (by kernel_rfl)) rfl ⟨by rw [HX.out]; rfl, hBF⟩
theorem TGet_any (r : Int) (ls : List Int) (es : List Nat) (v : Value) (page : Int) (w : World) (hv : TbV w v (r, ls, es)) (hs : wsmall es) (hL : LayOK w) :
    Calls Tryz.prog 95 #[v, .int .i64 page] w fun e w' => EnRes w w' (getR r ls es page) e := by
  by_cases h : askE r ls es page = 0
  · obtain ⟨h1, p, rfl, hp⟩ := ask_zero h
    unfold getR
    rw [if_neg (by simp [h])]
    exact TGet_ok r ls es v p w hv hs hL h1 hp
  · unfold getR
    rw [if_pos h]
    exact TGet_bad r ls es v page w hv hs hL h

set_option maxHeartbeats 1000000 in
theorem TLacks_bad (r : Int) (ls : List Int) (es : List Nat) (v : Value) (page : Int) (w : World) (hv : TbV w v (r, ls, es)) (hs : wsmall es) (hL : LayOK w) (hA : askE r ls es page ≠ 0) :
    Calls Tryz.prog 96 #[v, .int .i64 page] w fun e w' => e = .returned (.tuple #[.bool false, .int .i64 (askE r ls es page)]) ∧ Below w.heap.size w w' := by
  obtain ⟨A, c, B, d, rfl, hA', hB, hcc⟩ := id hv
  simp only at hA' hB hcc
  unfold tabV at hv ⊢
  simp only at hv ⊢
  have kT := (Bk.new (w) #[.int .i64 r, .slice A ls.length c, .slice B es.length d] 26)
  have hB1 := balloc (Below.refl _ w) (.cells #[.int .i64 r, .slice A ls.length c, .slice B es.length d] 26)
  generalize hw_w1 : w.alloc (.cells #[.int .i64 r, .slice A ls.length c, .slice B es.length d] 26) = w1 at *
  have hd : (askE r ls es page != 0) = true := by simpa using hA
  obtain ⟨cT, fT, lT⟩ := kT.facts
  have hst := arr_store0 arr_z73 arr_z1
  go_enter Tryz.func96, Tryz.ntmps96
  go_wp2_with fail
  refine (open_bad r ls es _ page _ (hv.to hB1) hs (hL.below hB1) hA).mono ?_
  rintro e w2 ⟨rfl, hb2⟩
  go_wp2_with fail
  go_ret2
  exact ⟨rfl, balloc (bnext hB1 hb2) _⟩
set_option maxHeartbeats 1000000 in
theorem TLacks_ok (r : Int) (ls : List Int) (es : List Nat) (v : Value) (p : Nat) (w : World) (hv : TbV w v (r, ls, es)) (hs : wsmall es) (hL : LayOK w) (hE : tabE r ls es = 0) (hp : p < 64) :
    Calls Tryz.prog 96 #[v, .int .i64 p] w fun e w' => e = .returned (.tuple #[.bool (decide (ls.getD (p / 8) 0 = -1)), .int .i64 0]) ∧ Below w.heap.size w w' := by
  obtain ⟨h1, h2, hR, hLs, hDu, hSt, hUn, hMi⟩ := tab_zero hE
  obtain ⟨A, c, B, d, rfl, hA, hB, hcc⟩ := id hv
  simp only at hA hB hcc
  unfold tabV at hv ⊢
  simp only at hv ⊢
  rw [h1, h2] at hv ⊢
  rw [h1] at hA hcc
  rw [h2] at hB
  have kT := (Bk.new (w) #[.int .i64 r, .slice A 8 c, .slice B 64 d] 26)
  have hB1 := balloc (Below.refl _ w) (.cells #[.int .i64 r, .slice A 8 c, .slice B 64 d] 26)
  generalize hw_w1 : w.alloc (.cells #[.int .i64 r, .slice A 8 c, .slice B 64 d] 26) = w1 at *
  have hpI : ((p / 8 : Nat) : Int) < 8 := by omega
  obtain ⟨cT, fT, lT⟩ := kT.facts
  have hln := arrL_len r ls es h1 h2
  have hst := arr_store0 (arr_73 r ls es h1 h2) (arrL_one r ls es)
  go_enter Tryz.func96, Tryz.ntmps96
  go_wp2_with fail
  refine (open_ok r ls es _ p _ (hv.to hB1) hs (hL.below hB1) hE hp).mono ?_
  rintro e w2 ⟨rfl, hb2⟩
  have hp8 : p / 8 < 8 := by omega
  go_upto_region 2 with fail
  have kA := (Bk.new (w2) (arrL r ls es).toArray 108)
  have hB3 := balloc (Below.refl _ w2) (.cells (arrL r ls es).toArray 108)
  generalize hw_w3 : (w2).alloc (.cells (arrL r ls es).toArray 108) = w3 at *
  replace hB1 := bnext (bnext hB1 hb2) hB3
  clear hst cT fT lT hw_w1 hw_w3
  have ce := arr_leaf h1 kA hp8
  have lA := kA.lt
  obtain ⟨z, hz⟩ : ∃ z, z = ls.getD (p / 8) 0 := ⟨_, rfl⟩
  rw [← hz] at ce
  have HZ := Lib.hid hz
  clear hz
  go_wp2_with fail
  go_ret2
  refine ⟨?_, hB1⟩
  show Ending.returned (.tuple #[.bool (z == -1), .int .i64 0]) = _
  rw [← HZ.out]
  rfl
theorem TLacks_any (r : Int) (ls : List Int) (es : List Nat) (v : Value) (page : Int) (w : World) (hv : TbV w v (r, ls, es)) (hs : wsmall es) (hL : LayOK w) :
    Calls Tryz.prog 96 #[v, .int .i64 page] w fun e w' => e = .returned (.tuple #[.bool (lackR r ls es page).1, .int .i64 (lackR r ls es page).2]) ∧ Below w.heap.size w w' := by
  by_cases h : askE r ls es page = 0
  · obtain ⟨h1, p, rfl, hp⟩ := ask_zero h
    unfold lackR
    rw [if_neg (by simp [h])]
    exact TLacks_ok r ls es v p w hv hs hL h1 hp
  · unfold lackR
    rw [if_pos h]
    exact TLacks_bad r ls es v page w hv hs hL h
end Go.Proofs.YtpkgfkhaiifooaaGreatDoor
