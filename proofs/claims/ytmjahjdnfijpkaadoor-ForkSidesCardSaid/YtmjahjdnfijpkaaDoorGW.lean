/- Several texts in one. -/
import Derived.Test.YtmjahjdnfijpkaaDoorGV
import Derived.Defers
/- Page tables: isEmpty and release. -/
namespace Go.Proofs.YtmjahjdnfijpkaaDoor
open Go Go.Proofs Go.RowKit
set_option linter.unusedSimpArgs false
set_option linter.unusedVariables false
set_option maxRecDepth 100000

def emptyK (es : List Nat) (leaf k : Nat) : Bool := (List.range k).all fun i => unpK (es.getD (leaf * 8 + i) 0) == 0
theorem emptyK_succ (es : List Nat) (leaf k : Nat) : emptyK es leaf (k + 1) = (emptyK es leaf k && (unpK (es.getD (leaf * 8 + k) 0) == 0)) := by simp [emptyK, List.range_succ]
theorem emptyK_no (es : List Nat) (leaf k : Nat) (hk : k < 8) (h : unpK (es.getD (leaf * 8 + k) 0) ≠ 0) : emptyB es leaf = false := by
  unfold emptyB
  rw [Bool.eq_false_iff]
  intro hc
  have := List.all_eq_true.1 hc k (List.mem_range.2 hk)
  exact h (by simpa using this)

end Go.Proofs.YtmjahjdnfijpkaaDoor
/- Page tables: release. -/
namespace Go.Proofs.YtmjahjdnfijpkaaDoor
open Go Go.Proofs Go.RowKit
set_option linter.unusedSimpArgs false
set_option linter.unusedVariables false
set_option maxRecDepth 100000

/-- The frame that release returns, and the leaves behind it. -/
def relF (ls : List Int) (es : List Nat) (q : Nat) : Int := if emptyB es q then ls.getD q 0 else -1
def relL (ls : List Int) (es : List Nat) (q : Nat) : List Int := if emptyB es q then ls.set q (-1) else ls
/-- All old blocks but b are as they were. -/
def Beside (b : Nat) (w w' : World) : Prop := Below b w w' ∧ ∀ j, j < w.heap.size → j ≠ b → w'.heap[j]? = w.heap[j]?
theorem Beside.of {b : Nat} {w w' : World} (h : Below w.heap.size w w') (hb : b < w.heap.size) : Beside b w w' := ⟨h.mono (by omega), fun j hj _ => h.block j hj⟩

def RelPost (r : Int) (ls : List Int) (es : List Nat) (b q : Nat) (w : World) (e : Ending) (w' : World) : Prop :=
  e = .returned (.int .i64 (relF ls es q)) ∧ Bk w' b (arrL r (relL ls es q) es).toArray 109 ∧ Beside b w w'

section
variable {w w1 : World} {b q : Nat}
theorem relB (w : World) (b q : Nat) : Below w.heap.size w (((w.alloc (.cells #[.pointer (some ⟨b, 0, none⟩)] 127)).alloc (.cells #[.int .i64 q] 3)).alloc (.cells #[.int .i64 (-1)] 3)) := balloc (balloc (balloc (Below.refl _ w) _) _) _
end

end Go.Proofs.YtmjahjdnfijpkaaDoor
/- Page tables: Clear. -/
namespace Go.Proofs.YtmjahjdnfijpkaaDoor
open Go Go.Proofs Go.RowKit
set_option linter.unusedSimpArgs false
set_option linter.unusedVariables false
set_option maxRecDepth 100000

/-- A table, a number and an error that a call returned. -/
def TbRes3 (w w' : World) (t : Tb) (f er : Int) (e : Ending) : Prop := ∃ v, e = .returned (.tuple #[v, .int .i64 f, .int .i64 er]) ∧ TbV w' v t ∧ Below w.heap.size w w'
def TbRes3L (w w' : World) (t : Tb) (f er : Int) (e : Ending) : Prop := ∃ v, e = .returned (.tuple #[v, .int .i64 f, .int .i64 er]) ∧ TbV w' v t ∧ TLoc w.heap.size v ∧ Below w.heap.size w w'
theorem unp_set0 {es : List Nat} (h2 : es.length = 64) (hU : ∀ p, p < 64 → unpE (es.getD p 0) = 0) (p : Nat) : ∀ j, j < 64 → unpE ((es.set p 0).getD j 0) = 0 := by
  intro j hj
  rw [List.getD_eq_getElem?_getD, List.getElem?_set]
  by_cases h : p = j
  · subst h
    rw [if_pos rfl, if_pos (by omega)]
    rfl
  · rw [if_neg h]
    have := hU j hj
    rwa [List.getD_eq_getElem?_getD] at this

end Go.Proofs.YtmjahjdnfijpkaaDoor
/- Page tables: Trim. -/
namespace Go.Proofs.YtmjahjdnfijpkaaDoor
open Go Go.Proofs Go.RowKit
set_option linter.unusedSimpArgs false
set_option linter.unusedVariables false
set_option maxRecDepth 100000

/-- A table, numbers and an error that a call returned. -/
def TrRes (w w' : World) (t : Tb) (zs : List Int) (er : Int) (e : Ending) : Prop := ∃ v u, e = .returned (.tuple #[v, u, .int .i64 er]) ∧ TbV w' v t ∧ IsV w' u zs ∧ Below w.heap.size w w'
/-- Where the numbers of a row lie. -/
def ILoc (lo : Nat) (v : Value) : Prop := ∀ A n c, v = .slice A n c → ∀ b off, 0 < n → A = some ⟨b, off, none⟩ → lo ≤ b
theorem ILoc.nil (lo : Nat) : ILoc lo (.slice none 0 0) := by
  intro A n c e b off hn hA
  injection e with e1 e2 e3
  omega
theorem ILoc.own {w : World} {B : Nat} {e : TypeId} {sz n : Nat} {v : Value} {xs : List Value} (h : w.ownsRow B e sz v n xs) {lo : Nat} (hlo : lo ≤ B) : ILoc lo v := by
  intro A m c ev b off hm hA
  subst ev hA
  rcases h.2 with ⟨h0, _⟩ | ⟨g2, cap2, cur, h1, _⟩
  · injection h0 with _ h0 _; omega
  · injection h1 with h1 h2 h3
    injection h1 with h1
    injection h1 with h1 h4 h5
    subst h1 h2 h3 h4
    have := (h.lt b rfl).1
    omega
def TrResL (w w' : World) (t : Tb) (zs : List Int) (er : Int) (e : Ending) : Prop := ∃ v u, e = .returned (.tuple #[v, u, .int .i64 er]) ∧ TbV w' v t ∧ IsV w' u zs ∧ TLoc w.heap.size v ∧ ILoc w.heap.size u ∧ Below w.heap.size w w'
theorem own_put3 {w : World} {B g : Nat} {e : TypeId} {sz n : Nat} {v : Value} {xs : List Value} (h : w.ownsRow B e sz v n xs) (hg : g < B) (x y z : Value) : (((w.setCell ⟨g, 0, none⟩ x).setCell ⟨g, 1, none⟩ y).setCell ⟨g, 2, none⟩ z).ownsRow B e sz v n xs :=
  own_far (p := ⟨g, 2, none⟩) (own_far (p := ⟨g, 1, none⟩) (own_far (p := ⟨g, 0, none⟩) h hg x) hg y) hg z
theorem trimL_len (ls : List Int) (es : List Nat) (n : Nat) : (trimL ls es n).length = ls.length := by
  induction n with
  | zero => rfl
  | succ n ih => unfold trimL; split <;> simp [ih]
theorem trimL_get (ls : List Int) (es : List Nat) (n j : Nat) (h : n ≤ j) : (trimL ls es n).getD j 0 = ls.getD j 0 := by
  induction n with
  | zero => rfl
  | succ n ih =>
    have := ih (by omega)
    unfold trimL
    split
    · rw [← this, List.getD_eq_getElem?_getD, List.getD_eq_getElem?_getD, List.getElem?_set, if_neg (by omega)]
    · exact this
theorem set_same (l : List Int) (q : Nat) (x : Int) (h : l.getD q 0 = x) (hq : q < l.length) : l.set q x = l := by
  rw [List.getD_eq_getElem?_getD, List.getElem?_eq_getElem hq] at h
  subst h
  exact List.set_getElem_self hq
theorem trim_relL (ls : List Int) (es : List Nat) (k : Nat) (hk : k < ls.length) : relL (trimL ls es k) es k = trimL ls es (k + 1) := by
  have hg := trimL_get ls es k k (Nat.le_refl _)
  have e1 : trimL ls es (k + 1) = if goneB ls es k then (trimL ls es k).set k (-1) else trimL ls es k := rfl
  rw [e1]
  unfold relL goneB
  rcases emptyB es k with _ | _
  · simp
  · by_cases h : ls.getD k 0 = -1
    · have h2 := set_same (trimL ls es k) k (-1) (by rw [hg, h]) (by rw [trimL_len]; exact hk)
      rw [h2]
      simp
    · have : decide (ls.getD k 0 ≠ -1) = true := by simpa using h
      rw [this]
      rfl
theorem trim_relF (ls : List Int) (es : List Nat) (k : Nat) : relF (trimL ls es k) es k = if goneB ls es k then ls.getD k 0 else -1 := by
  unfold relF goneB
  rw [trimL_get ls es k k (Nat.le_refl _)]
  rcases emptyB es k with _ | _
  · simp
  · by_cases h : ls.getD k 0 = -1
    · rw [h]; simp
    · have : decide (ls.getD k 0 ≠ -1) = true := by simpa using h
      rw [this]
      rfl
theorem trimG_succ (ls : List Int) (es : List Nat) (k : Nat) : trimG ls es (k + 1) = trimG ls es k ++ (if goneB ls es k then [ls.getD k 0] else []) := by
  unfold trimG
  rw [List.range_succ, List.filter_append, List.map_append]
  congr 1
  rcases h : goneB ls es k with _ | _
  · rw [List.filter_cons_of_neg (by simp [h])]; rfl
  · rw [List.filter_cons_of_pos h]; rfl
theorem trimG_len (ls : List Int) (es : List Nat) (k : Nat) : (trimG ls es k).length ≤ k := by
  unfold trimG
  have := List.length_filter_le (goneB ls es) (List.range k)
  simp at this ⊢
  omega
theorem own_beside {w w' : World} {b B : Nat} {e : TypeId} {sz n : Nat} {v : Value} {xs : List Value} (h : w.ownsRow B e sz v n xs) (hb : Beside b w w') (hB : b < B) : w'.ownsRow B e sz v n xs := by
  refine ⟨h.1, ?_⟩
  rcases h.2 with hn | ⟨g, cap, cur, hv, hbg, hg, rest⟩
  · exact .inl hn
  · exact .inr ⟨g, cap, cur, hv, hbg, (hb.2 g (Array.getElem?_eq_some_iff.1 hg).1 (by omega)).trans hg, rest⟩

end Go.Proofs.YtmjahjdnfijpkaaDoor
/- Page tables: New. -/
namespace Go.Proofs.YtmjahjdnfijpkaaDoor
open Go Go.Proofs Go.RowKit
set_option linter.unusedSimpArgs false
set_option linter.unusedVariables false
set_option maxRecDepth 100000

theorem arr_built1 (r : Int) : Tryd.prog.built 109 [(0, .int .i64 r)] = some (arrL r (List.replicate 8 0) (List.replicate 64 0)).toArray := by
  rw [arr_fill, arr_zero]
  have e1 := fill_one ((#[(0, 1), (1, 8), (9, 64)] : Array (Nat × Nat))[·]?) 0 0 (.int .i64 r) [.int .i64 r] [] [.int .i64 0] (iw (List.replicate 8 0) ++ uw (List.replicate 64 0)) [] rfl rfl rfl rfl
  simp only [List.append_nil, List.nil_append, List.append_assoc, List.singleton_append, List.cons_append] at e1
  simp only [arrL]
  rw [e1]
  simp [Instr.fill]
/-- The leaves of a new table after k rounds. -/
def newL (k : Nat) : List Int := (List.range 8).map fun j => if j < k then -1 else 0
theorem newL_succ : ∀ k, k < 8 → (newL k).set k (-1) = newL (k + 1) := by decide
theorem newL_len (k : Nat) : (newL k).length = 8 := by simp [newL]
theorem newL_8 : newL 8 = List.replicate 8 (-1) := by decide
theorem newL_0 : newL 0 = List.replicate 8 0 := by decide

set_option maxHeartbeats 1000000 in
theorem TNew_bad (root : Int) (w : World) (h : badF root ≠ 0) :
    Calls Tryd.prog 47 #[.int .i64 root] w fun e w' => TbRes w w' tb0 2 e := by
  have hr : root < -1 ∨ 256 ≤ root := by unfold badF at h; split at h <;> simp_all
  have d1 : (root != -1) = true := by simp; omega
  have kR := Bk.new w #[.int .i64 0, .slice none 0 0, .slice none 0 0] 26
  have hB1 := balloc (Below.refl _ w) (.cells #[.int .i64 0, .slice none 0 0, .slice none 0 0] 26)
  generalize hw1 : w.alloc (.cells #[.int .i64 0, .slice none 0 0, .slice none 0 0] 26) = w1 at *
  obtain ⟨cR, fR, lR⟩ := kR.facts
  go_enter Tryd.func47, Tryd.ntmps47
  go_wp2_with (go_at_call 72; refine (isFrame_f root _ (by omega)).mono ?_; rintro e w' ⟨rfl, rfl⟩)
  have kF := kR.put3 (.int .i64 0) (.slice none 0 0) (.slice none 0 0)
  have hBF := below_put3 hB1 (g := w.heap.size) (Nat.le_refl _) (.int .i64 0) (.slice none 0 0) (.slice none 0 0)
  exact bodyPost_ret (kF.res2 (P := Tryd.prog) rfl _ rfl (by kernel_rfl) (by kernel_rfl)) rfl ⟨_, rfl, TbV.zero _, TLoc.zero _ _, hBF⟩

set_option maxHeartbeats 1000000 in
theorem TNew_ok (r : Int) (w : World) (h : badF r = 0) :
    Calls Tryd.prog 47 #[.int .i64 r] w fun e w' => TbRes w w' (r, List.replicate 8 (-1), List.replicate 64 0) 0 e := by
  have hr := badF_zero h
  have hr2 : (r != -1) = false ∨ (r != -1) = true ∧ 0 ≤ r ∧ r < 256 := by
    by_cases h : r = -1
    · left; simp [h]
    · right; exact ⟨by simpa using h, by omega, by omega⟩
  clear h hr
  have kR := Bk.new w #[.int .i64 0, .slice none 0 0, .slice none 0 0] 26
  have hB1 := balloc (Below.refl _ w) (.cells #[.int .i64 0, .slice none 0 0, .slice none 0 0] 26)
  generalize hw1 : w.alloc (.cells #[.int .i64 0, .slice none 0 0, .slice none 0 0] 26) = w1 at *
  have h64 : (List.replicate 64 (0 : Nat)).length = 64 := by decide
  have h80 : (List.replicate 8 (0 : Int)).length = 8 := by decide
  have hsw : w.heap.size < w1.heap.size := kR.lt
  have he : Tryd.zeroCells109.toList.set 0 (.int .i64 r) = arrL r (List.replicate 8 0) (List.replicate 64 0) := by rw [arr_zero]; rfl
  have hst : ∀ W : World, (storeCells ⟨W.heap.size, 0, none⟩ (Tryd.zeroCells109.toList.set 0 (.int .i64 r)) 0).run Tryd.prog (W.alloc (.cells Tryd.zeroCells109 109)) = .ok () (W.alloc (.cells (arrL r (newL 0) (List.replicate 64 0)).toArray 109)) := fun W => by
    rw [he, newL_0]
    exact arr_store0 (arr_73 r _ _ h80 h64) (arrL_one r _ _) W
  have hz : Tryd.zeroCells109.size = 73 := arr_z73
  have H8 := Lib.hid newL_8
  obtain ⟨z64, hz64⟩ : ∃ z, z = List.replicate 64 (0 : Nat) := ⟨_, rfl⟩
  obtain ⟨l8, hl8⟩ : ∃ z, z = List.replicate 8 (-1 : Int) := ⟨_, rfl⟩
  rw [← hz64] at hst h64 ⊢
  rw [← hl8] at H8 ⊢
  clear hz64 he hl8
  rcases hr2 with hr2 | ⟨hr2, hr3, hr4⟩
  all_goals
    go_enter Tryd.func47, Tryd.ntmps47
    go_upto_region 4 with (go_at_call 72; refine (isFrame_t r _ hr3 hr4).mono ?_; rintro e w' ⟨rfl, rfl⟩)
    have kA := Bk.new w1 (arrL r (newL 0) z64).toArray 109
    have hB2 := balloc hB1 (.cells (arrL r (newL 0) z64).toArray 109)
    replace kR := kR.alloc (.cells (arrL r (newL 0) z64).toArray 109)
    generalize hw2 : w1.alloc (.cells (arrL r (newL 0) z64).toArray 109) = w2 at *
    clear hst hw1
    go_wp2_with fail
    go_loopw [16] (fun i wr => ∃ k : Nat, k ≤ 8 ∧ i = .int .i64 k ∧ Bk wr w1.heap.size (arrL r (newL k) z64).toArray 109 ∧ Below w1.heap.size w2 wr) (fun i _ => 8 - (intOf i).toNat)
    case atStart => exact ⟨0, by omega, rfl, kA, Below.refl _ _⟩
    case round =>
      obtain ⟨k, hk, rfl, kAk, hBx⟩ := hrel
      by_cases hlt : k < 8
      · have cl := arr_leaf (newL_len k) kAk hlt
        have fl := kAk.frozen (1 + k)
        have lA := kAk.lt
        have hqI : (k : Int) < 8 := by omega
        have kA2 := kAk.put (1 + k) (.int .i64 (-1))
        rw [arr_setleaf (newL_len k) k hlt (-1), newL_succ k hlt] at kA2
        have hB3 := hBx.setCell (p := ⟨w1.heap.size, 1 + k, none⟩) (Nat.le_refl _) (.int .i64 (-1))
        go_wp2_with fail
        go_roundw
        case rel => exact ⟨k + 1, by omega, by go_num, kA2, hB3⟩
        case measure => simp [intOf]; omega
      · obtain rfl : k = 8 := by omega
        have kR2 : Bk wr w.heap.size _ _ := kR.below hBx hsw
        have hB3 : Below w.heap.size w wr := hB2.trans (hBx.mono (by omega))
        have h1' : l8.length = 8 := by rw [← H8.out]; exact newL_len 8
        rw [H8.out] at kAk
        go_upto_region 9 with fail
        apply wp_region_lit
        refine wpList_load_arr h1' h64 kAk rfl _ rfl rfl ?_
        go_frame
        go_wp2_with fail
        refine (table_any r l8 z64 _ h1' h64).mono ?_
        rintro e w6 ⟨rfl, kB, hb6⟩
        have hw5 : w.heap.size < wr.heap.size := kR2.lt
        replace kR2 := kR2.to hb6
        replace hB3 := hB3.trans (hb6.mono hB3.size)
        obtain ⟨cR, fR, lR⟩ := kR2.facts
        go_wp2_with fail
        have kF := kR2.put3 (.int .i64 r) (.slice (some ⟨wr.heap.size, 1, none⟩) 8 8) (.slice (some ⟨wr.heap.size, 9, none⟩) 64 64)
        have kB2 := kB.far3 (g := w.heap.size) (by omega) (.int .i64 r) (.slice (some ⟨wr.heap.size, 1, none⟩) 8 8) (.slice (some ⟨wr.heap.size, 9, none⟩) 64 64)
        have hBF := below_put3 hB3 (g := w.heap.size) (Nat.le_refl _) (.int .i64 r) (.slice (some ⟨wr.heap.size, 1, none⟩) 8 8) (.slice (some ⟨wr.heap.size, 9, none⟩) 64 64)
        exact bodyPost_ret (kF.res2 (P := Tryd.prog) rfl _ rfl (by kernel_rfl) (by kernel_rfl)) rfl ⟨_, rfl, arr_tbv h1' h64 kB2, TLoc.arr (by omega) _, hBF⟩
theorem TNew_any (root : Int) (w : World) :
    Calls Tryd.prog 47 #[.int .i64 root] w fun e w' => TbRes w w' (newR root).1 (newR root).2 e := by
  unfold newR
  by_cases h : badF root = 0
  · rw [if_neg (by simp [h])]
    exact TNew_ok root w h
  · rw [if_pos h]
    exact TNew_bad root w h
end Go.Proofs.YtmjahjdnfijpkaaDoor
