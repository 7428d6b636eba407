/- Several texts in one. -/
import Derived.Test.YtpkgfkhaiifooaaGreatDoorGY
import Derived.Deep.OwnRows
import Derived.Test.YtpkgfkhaiifooaaGreatDoorGX
import Derived.Laws.OwnMore
import Derived.Test.YtpkgfkhaiifooaaGreatDoorMadeP
import Derived.Deep.RegionHeld3
/- Page tables: the reference's New. -/
namespace Go.Proofs.YtpkgfkhaiifooaaGreatDoor
open Go Go.Proofs Go.RowKit
set_option linter.unusedSimpArgs false
set_option linter.unusedVariables false
set_option maxRecDepth 100000

set_option maxHeartbeats 1000000 in
theorem rNew_bad (root : Int) (w : World) (h : badF root ≠ 0) :
    Calls Tryz.prog 38 #[.int .i64 root] w fun e w' => TbRes w w' tb0 2 e := by
  have hr : root < -1 ∨ 256 ≤ root := by unfold badF at h; split at h <;> simp_all
  clear h
  have kR := Bk.new w #[.int .i64 0, .slice none 0 0, .slice none 0 0] 26
  have hB1 := balloc (Below.refl _ w) (.cells #[.int .i64 0, .slice none 0 0, .slice none 0 0] 26)
  generalize hw1 : w.alloc (.cells #[.int .i64 0, .slice none 0 0, .slice none 0 0] 26) = w1 at *
  obtain ⟨cR, fR, lR⟩ := kR.facts
  rcases hr with hr | hr
  all_goals
    go_enter Tryz.func38, Tryz.ntmps38
    go_wp2_with fail
    have kF := kR.put3 (.int .i64 0) (.slice none 0 0) (.slice none 0 0)
    have hBF := below_put3 hB1 (g := w.heap.size) (Nat.le_refl _) (.int .i64 0) (.slice none 0 0) (.slice none 0 0)
    exact bodyPost_ret (kF.res2 (P := Tryz.prog) rfl _ rfl (by kernel_rfl) (by kernel_rfl)) rfl ⟨_, rfl, TbV.zero _, TLoc.zero _ _, hBF⟩

set_option maxHeartbeats 2000000 in
theorem rNew_ok (r : Int) (w : World) (h : badF r = 0) :
    Calls Tryz.prog 38 #[.int .i64 r] w fun e w' => TbRes w w' (r, List.replicate 8 (-1), List.replicate 64 0) 0 e := by
  obtain ⟨hr1, hr2⟩ := badF_zero h
  clear h
  have kR := Bk.new w #[.int .i64 0, .slice none 0 0, .slice none 0 0] 26
  have hB1 := balloc (Below.refl _ w) (.cells #[.int .i64 0, .slice none 0 0, .slice none 0 0] 26)
  generalize hw1 : w.alloc (.cells #[.int .i64 0, .slice none 0 0, .slice none 0 0] 26) = w1 at *
  obtain ⟨cR, fR, lR⟩ := kR.facts
  have hme : madeCells #[.int .u64 0] 64 = (uw (List.replicate 64 0)).toArray := by kernel_rfl
  have hmk := run_make_row' (P := Tryz.prog) 24 85 (.int .u64 0) 8 Tryz.underlying24 infoU64 rfl .i64 .i64 64 (by omega) (by omega)
  have h64 : ((64 : Nat) : Int) = 64 := rfl
  rw [h64, hme] at hmk
  have hl64 : (List.replicate 64 (0 : Nat)).length = 64 := by decide
  obtain ⟨z64, hz64⟩ : ∃ z, z = List.replicate 64 (0 : Nat) := ⟨_, rfl⟩
  rw [← hz64] at hmk hl64 ⊢
  clear hme hz64 h64
  obtain ⟨i0, hi, hz0, hz1, hz2⟩ := info_parts infoInt
  go_enter Tryz.func38, Tryz.ntmps38
  go_upto_region 4 with fail
  have hE := (Rd.new (w := w1) (sz := 1) (n := 64) (uw z64).toArray 85 (by simp [uw_len, hl64])).alloc (.cells #[.int .i64 r, .slice none 0 0, .slice (some ⟨w1.heap.size, 0, none⟩) 64 64] 26)
  simp only at hE
  have kX := Bk.new (w1.alloc (.cells (uw z64).toArray 85)) #[.int .i64 r, .slice none 0 0, .slice (some ⟨w1.heap.size, 0, none⟩) 64 64] 26
  rw [World.size_alloc] at kX
  have hB4 := balloc (balloc hB1 (.cells (uw z64).toArray 85)) (.cells #[.int .i64 r, .slice none 0 0, .slice (some ⟨w1.heap.size, 0, none⟩) 64 64] 26)
  have hs4 : ((w1.alloc (.cells (uw z64).toArray 85)).alloc (.cells #[.int .i64 r, .slice none 0 0, .slice (some ⟨w1.heap.size, 0, none⟩) 64 64] 26)).heap.size = w1.heap.size + 1 + 1 := by simp
  replace kR := (kR.alloc (.cells (uw z64).toArray 85)).alloc (.cells #[.int .i64 r, .slice none 0 0, .slice (some ⟨w1.heap.size, 0, none⟩) 64 64] 26)
  generalize hw4 : (w1.alloc (.cells (uw z64).toArray 85)).alloc (.cells #[.int .i64 r, .slice none 0 0, .slice (some ⟨w1.heap.size, 0, none⟩) 64 64] 26) = w4 at *
  clear hmk hw1 hw4 cR fR
  go_wp2_with fail
  go_loopw [5] (fun i wr => ∃ (k : Nat) (v : Value), k ≤ 8 ∧ i = .int .i64 k ∧ Bk wr (w1.heap.size + 1) #[.int .i64 r, v, .slice (some ⟨w1.heap.size, 0, none⟩) 64 64] 26 ∧ wr.ownsRow w4.heap.size 3 1 v k (iw (List.replicate k (-1))) ∧ Below (w1.heap.size + 1) w4 wr) (fun i _ => 8 - (intOf i).toNat)
  case atStart => exact ⟨0, _, by omega, rfl, kX, World.ownsRow_nil _ _ _ _, Below.refl _ _⟩
  case round =>
    obtain ⟨k, v, hk, rfl, kXr, hown, hBx⟩ := hrel
    have hsx := hBx.size
    have lX := kXr.lt
    by_cases hlt : k < 8
    · have x0 := kXr.cell 0
      have x1 := kXr.cell 1
      have x2 := kXr.cell 2
      simp at x0 x1 x2
      have fX := kXr.frozen 1
      go_wp2_with (first
        | (at_builtin; refine wpList_append_own _ rfl _ _ 23 rfl w4.heap.size 3 i0 (.int .i64 0) 1 8 Tryz.underlying23 hi hz0 hz1 hz2 rfl (by decide) _ _ _ rfl (hown.alloc _) ⟨wr.heap.size, 0, none⟩ 1 1 [.int .i64 (-1)] rfl rfl (cell_one_new _ _ _) (by simp [Value.oneCell']) (by simp only [maxLen]; omega) (by omega) (by simp; omega) ?_; intro v' w9 hown' hgrow _
           have hne : ∀ j, j < w4.heap.size → some j ≠ v.ownBlock := fun j hj e' => by have := (hown.lt j e'.symm).1; omega
           have kX9 : Bk w9 (w1.heap.size + 1) #[.int .i64 r, v, .slice (some ⟨w1.heap.size, 0, none⟩) 64 64] 26 :=
             (hgrow.block (w1.heap.size + 1) (by simp; omega) (hne _ (by omega))).trans (kXr.alloc _)
           have hB9 : Below (w1.heap.size + 1) w4 w9 := (hBx.alloc (by omega) _).grown hgrow (by simp; omega) (fun q e => by have := (hown.lt q e).1; omega)
           have hown9 : w9.ownsRow w4.heap.size 3 1 v' (k + 1) (iw (List.replicate (k + 1) (-1))) := by
             have e1 : iw (List.replicate (k + 1) (-1)) = iw (List.replicate k (-1)) ++ [.int .i64 (-1)] := by rw [List.replicate_succ']; simp [iw]
             rw [e1]; exact hown'
           obtain ⟨A9, c9, rfl, _⟩ := own_slice hown9
           clear hown' hgrow hne
           have y1 := kX9.cell 1
           simp at y1
           have fX9 := kX9.frozen 1
           have lX9 := kX9.lt))
      have kX10 := kX9.put 1 (.slice A9 (k + 1) c9)
      have hB10 := hB9.setCell (p := ⟨w1.heap.size + 1, 1, none⟩) (Nat.le_refl _) (.slice A9 (k + 1) c9)
      have hown10 := own_far (p := ⟨w1.heap.size + 1, 1, none⟩) hown9 (by show w1.heap.size + 1 < w4.heap.size; omega) (.slice A9 (k + 1) c9)
      go_roundw
      case rel => exact ⟨k + 1, _, by omega, by go_num, kX10, hown10, hB10⟩
      case measure => simp [intOf]; omega
    · obtain rfl : k = 8 := by omega
      obtain ⟨AI, cI, rfl, _⟩ := own_slice hown
      have hcI : 8 ≤ cI := by
        rcases hown.2 with ⟨h, h0⟩ | ⟨g, cap, cur, h, _, _, hnc, _⟩
        · omega
        · injection h with _ _ h; omega
      have kR2 : Bk wr w.heap.size _ _ := kR.below hBx (by omega)
      obtain ⟨cX, fX, _⟩ := kXr.facts
      obtain ⟨cR, fR, _⟩ := kR2.facts
      have hB2 : Below w.heap.size w wr := hB4.trans (hBx.mono (by omega))
      have hE2 : RdIn wr (w.heap.size + 1) (w1.heap.size + 1) 1 (some ⟨w1.heap.size, 0, none⟩) 64 (uw z64) := by
        refine ⟨?_, fun b off _ e => by injection e with e; injection e with e; omega⟩
        obtain ⟨b, off, e, hb, hc⟩ := hE.2 (by omega)
        injection e with e
        injection e with e1 e2
        subst e1 e2
        exact ⟨hE.1, fun _ => ⟨w1.heap.size, 0, rfl, by omega, fun j u hu => (hBx.cell (p := ⟨w1.heap.size, 0 + j, none⟩) (Nat.lt_succ_self _)).trans (hc j u hu)⟩⟩
      have hA2 : RdIn wr w4.heap.size wr.heap.size 1 AI 8 (iw (List.replicate 8 (-1))) := RdIn.of hown
      go_wp2_with fail
      have kF := kR2.put3 (.int .i64 r) (.slice AI 8 cI) (.slice (some ⟨w1.heap.size, 0, none⟩) 64 64)
      have hBF := below_put3 hB2 (g := w.heap.size) (Nat.le_refl _) (.int .i64 r) (.slice AI 8 cI) (.slice (some ⟨w1.heap.size, 0, none⟩) 64 64)
      have hEF := rdin_put3 hE2 (g := w.heap.size) (by omega) (.int .i64 r) (.slice AI 8 cI) (.slice (some ⟨w1.heap.size, 0, none⟩) 64 64)
      have hAF := rdin_put3 hA2 (g := w.heap.size) (by omega) (.int .i64 r) (.slice AI 8 cI) (.slice (some ⟨w1.heap.size, 0, none⟩) 64 64)
      refine bodyPost_ret (kF.res2 (P := Tryz.prog) rfl _ rfl (by kernel_rfl) (by kernel_rfl)) rfl ⟨_, rfl, ⟨AI, cI, some ⟨w1.heap.size, 0, none⟩, 64, ?_, hAF.1, ?_, hcI⟩, ?_, hBF⟩
      · simp [tabV, hl64]
      · simpa [hl64] using hEF.1
      · intro r' A' n' c' B' m' d' h
        simp only [tabV, Value.agg.injEq, Array.mk.injEq, List.cons.injEq, Value.slice.injEq] at h
        obtain ⟨_, ⟨rfl, rfl, rfl⟩, ⟨rfl, rfl, rfl⟩, _⟩ := h
        exact ⟨fun b off hb e => by have := (hA2.2 b off hb e).1; omega, fun b off hb e => by have := (hE2.2 b off hb e).1; omega⟩
theorem rNew_any (root : Int) (w : World) :
    Calls Tryz.prog 38 #[.int .i64 root] w fun e w' => TbRes w w' (newR root).1 (newR root).2 e := by
  unfold newR
  by_cases h : badF root = 0
  · rw [if_neg (by simp [h])]
    exact rNew_ok root w h
  · rw [if_pos h]
    exact rNew_bad root w h
end Go.Proofs.YtpkgfkhaiifooaaGreatDoor
/- Page tables: the reference's own copy, whose rows may be written. -/
namespace Go.Proofs.YtpkgfkhaiifooaaGreatDoor
open Go Go.Proofs Go.RowKit
set_option linter.unusedSimpArgs false
set_option linter.unusedVariables false
set_option maxRecDepth 100000

theorem step_append_own {P : Program} {ops : Array Oper} {o : Oper} {a : Act} {w : World} {K : Act → World → Prop} {Q : Exit → Act → World → Prop} {E : Prop}
    (hg : o.guard = none) (s x : Operand) (t : TypeId) (hop : o.op = Op.call { callee := Callee.builtin Builtin.append, args := #[s, x], argTypes := #[t, t] })
    (e : TypeId) (i : TypeInfo) (z : Value) (size bytes : Nat) (h1 : P.underlying t = some (.slice e)) (h2 : P.info? e = some i) (h3 : i.zero = some z) (h4 : i.size = size) (h5 : i.bytes = bytes) (h6 : z.cells.size = size) (h7 : 0 < size)
    (g : Addr) (hs : a.eval s = .slice (some g) 0 0)
    (A : Option Addr) (m c : Nat) (news : List Value) (hx : a.eval x = .slice A m c) (hr : Rd w size A m news) (h1c : ∀ u ∈ news, u.oneCell' = true)
    (b1 : m ≤ maxLen) (b2 : m * bytes ≤ 140737488355328) (h0 : 0 < m)
    (hK : ∀ (g' c' : Nat) w', w'.ownsRow w.heap.size e size (.slice (some ⟨g', 0, none⟩) m c') m news → Below w.heap.size w w' → K (a.put o.dst (.slice (some ⟨g', 0, none⟩) m c')) w') :
    if Region.wanted o (yielded ops a.tmps) = true then Oper.wp P o a w K Q else E := by
  obtain ⟨b, off, rfl, hb, hc⟩ := hr.2 h0
  refine step_append_grows hg s x t hop e i z size bytes h1 h2 h3 h4 h5 h6 h7 (some g) 0 0 [] hs (fun h => by cases h) (by simp) (fun _ _ j u hu => by simp at hu) ⟨b, off, none⟩ m c news hx hr.1 (fun j u hu => by rw [Addr.add_mid]; exact hc j u hu) h1c (by omega) (by simpa using b1) (by simpa using b2) ?_
  intro v' w' hown hgrow
  rw [Nat.zero_add, List.nil_append] at hown
  obtain ⟨g', cap, hv, _, hlt⟩ := hown.form h0
  subst hv
  exact hK _ _ _ hown ((Below.refl _ w).grown hgrow (Nat.le_refl _) (fun k e => by cases e))

/-- A table of a call's own: its rows may be written. -/
structure Own2 (w : World) (base gA cA gB cB : Nat) (ls : List Int) (es : List Nat) : Prop where
  a : w.ownsRow base 3 1 (.slice (some ⟨gA, 0, none⟩) 8 cA) 8 (iw ls)
  b : w.ownsRow base 85 1 (.slice (some ⟨gB, 0, none⟩) 64 cB) 64 (uw es)
  ne : gA ≠ gB
section
variable {w : World} {base gA cA gB cB : Nat} {ls : List Int} {es : List Nat}
theorem Own2.to {w' : World} (h : Own2 w base gA cA gB cB ls es) (hb : Below w.heap.size w w') : Own2 w' base gA cA gB cB ls es := ⟨own_below h.a hb, own_below h.b hb, h.ne⟩
theorem Own2.alloc (h : Own2 w base gA cA gB cB ls es) (o : Obj) : Own2 (w.alloc o) base gA cA gB cB ls es := h.to (balloc (Below.refl _ _) o)
theorem Own2.drew (h : Own2 w base gA cA gB cB ls es) : Own2 w.drew base gA cA gB cB ls es := h.to (below_drew (Below.refl _ _))
theorem Own2.less {base' : Nat} (h : Own2 w base gA cA gB cB ls es) (hb : base' ≤ base) : Own2 w base' gA cA gB cB ls es := ⟨own_less h.a hb, own_less h.b hb, h.ne⟩
theorem Own2.lt (h : Own2 w base gA cA gB cB ls es) : (base ≤ gA ∧ gA < w.heap.size) ∧ base ≤ gB ∧ gB < w.heap.size := ⟨h.a.lt gA rfl, h.b.lt gB rfl⟩
theorem Own2.lens (h : Own2 w base gA cA gB cB ls es) : ls.length = 8 ∧ es.length = 64 := ⟨by have := h.a.1; rw [iw_len] at this; omega, by have := h.b.1; rw [uw_len] at this; omega⟩
theorem iw_set (ls : List Int) (j : Nat) (z : Int) : (iw ls).set j (.int .i64 z) = iw (ls.set j z) := by simp [iw, List.map_set]
theorem uw_set (es : List Nat) (j : Nat) (x : Nat) : (uw es).set j (.int .u64 (x : Int)) = uw (es.set j x) := by simp [uw, List.map_set]
theorem Own2.leaf (h : Own2 w base gA cA gB cB ls es) (j : Nat) (z : Int) : Own2 (w.setCell ⟨gA, j, none⟩ (.int .i64 z)) base gA cA gB cB (ls.set j z) es := by
  refine ⟨?_, own_side (p := ⟨gA, j, none⟩) h.b h.ne _, h.ne⟩
  have := (h.a.stored j (.int .i64 z)).1
  rwa [iw_set] at this
theorem Own2.entry (h : Own2 w base gA cA gB cB ls es) (j : Nat) (x : Nat) : Own2 (w.setCell ⟨gB, j, none⟩ (.int .u64 (x : Int))) base gA cA gB cB ls (es.set j x) := by
  refine ⟨own_side (p := ⟨gB, j, none⟩) h.a (fun e => h.ne e.symm) _, ?_, h.ne⟩
  have := (h.b.stored j (.int .u64 (x : Int))).1
  rwa [uw_set] at this
theorem Own2.far (h : Own2 w base gA cA gB cB ls es) {p : Addr} (hp : p.block < base) (u : Value) : Own2 (w.setCell p u) base gA cA gB cB ls es := ⟨own_far h.a hp u, own_far h.b hp u, h.ne⟩
theorem Own2.cap (h : Own2 w base gA cA gB cB ls es) : 8 ≤ cA := by
  rcases h.a.2 with ⟨h0, _⟩ | ⟨g2, cap2, cur, h1, _, _, hnc, _⟩
  · cases h0
  · injection h1 with _ _ h1; omega
theorem Own2.tbv (h : Own2 w base gA cA gB cB ls es) (r : Int) : TbV w (.agg #[.int .i64 r, .slice (some ⟨gA, 0, none⟩) 8 cA, .slice (some ⟨gB, 0, none⟩) 64 cB]) (r, ls, es) := by
  obtain ⟨h1, h2⟩ := h.lens
  have ha := Rd.own h.a
  have hb := Rd.own h.b
  refine ⟨some ⟨gA, 0, none⟩, cA, some ⟨gB, 0, none⟩, cB, by simp only [tabV, h1, h2], by rw [h1]; exact ha, by rw [h2]; exact hb, by rw [h1]; exact h.cap⟩
theorem Own2.leafAt (h : Own2 w base gA cA gB cB ls es) (j : Nat) (hj : j < 8) : w.cell? ⟨gA, j, none⟩ = some (.int .i64 (ls.getD j 0)) ∧ w.frozen? ⟨gA, j, none⟩ = false := by
  refine ⟨?_, h.a.frozenAt j⟩
  rw [h.a.cellAt j (by omega)]
  have := h.lens.1
  simp [iw, List.getElem?_eq_getElem (show j < ls.length by omega)]
theorem Own2.entryAt (h : Own2 w base gA cA gB cB ls es) (j : Nat) (hj : j < 64) : w.cell? ⟨gB, j, none⟩ = some (.int .u64 (es.getD j 0 : Nat)) ∧ w.frozen? ⟨gB, j, none⟩ = false := by
  refine ⟨?_, h.b.frozenAt j⟩
  rw [h.b.cellAt j (by omega)]
  have := h.lens.2
  simp [uw, List.getElem?_eq_getElem (show j < es.length by omega)]
end

set_option maxHeartbeats 4000000 in
theorem rOwn2_any (r : Int) (ls : List Int) (es : List Nat) (A B : Option Addr) (c d : Nat) (w : World) (hA : Rd w 1 A ls.length (iw ls)) (hB : Rd w 1 B es.length (uw es)) (hn : ls.length = 8) (hm : es.length = 64) :
    Calls Tryz.prog 68 #[tabV r A ls.length c B es.length d] w fun e w' => ∃ gA cA gB cB, e = .returned (.agg #[.int .i64 r, .slice (some ⟨gA, 0, none⟩) 8 cA, .slice (some ⟨gB, 0, none⟩) 64 cB]) ∧ Own2 w' w.heap.size gA cA gB cB ls es ∧ Below w.heap.size w w' := by
  have hn1 : ls.length ≤ 1000 ∧ 0 < ls.length := by omega
  have hm1 : es.length ≤ 1000 ∧ 0 < es.length := by omega
  have HN := Lib.hid hn
  have HM := Lib.hid hm
  clear hn hm
  obtain ⟨i0, hi, hz0, hz1, hz2⟩ := info_parts infoInt
  obtain ⟨j0, hj, hy0, hy1, hy2⟩ := info_parts infoU64
  unfold tabV
  have kT := (Bk.new w #[.int .i64 r, .slice A ls.length c, .slice B es.length d] 26).alloc (.cells #[.int .i64 0, .slice none 0 0, .slice none 0 0] 26)
  have kR := Bk.new (w.alloc (.cells #[.int .i64 r, .slice A ls.length c, .slice B es.length d] 26)) #[.int .i64 0, .slice none 0 0, .slice none 0 0] 26
  rw [World.size_alloc] at kR
  have hB1 := balloc (balloc (Below.refl _ w) (.cells #[.int .i64 r, .slice A ls.length c, .slice B es.length d] 26)) (.cells #[.int .i64 0, .slice none 0 0, .slice none 0 0] 26)
  generalize hw1 : (w.alloc (.cells #[.int .i64 r, .slice A ls.length c, .slice B es.length d] 26)).alloc (.cells #[.int .i64 0, .slice none 0 0, .slice none 0 0] 26) = w1 at *
  have hA1 := hA.below hB1 (Nat.le_refl _)
  have hE1 := hB.below hB1 (Nat.le_refl _)
  have c0 := kT.cell 0
  have c1 := kT.cell 1
  have c2 := kT.cell 2
  simp at c0 c1 c2
  have hsR := kR.lt
  go_enter Tryz.func68, Tryz.ntmps68
  go_wp2_with fail
  go_region_held3 (fun w' => w'.cell? ⟨w.heap.size, 0, none⟩ = some (.int .i64 r) ∧ w'.cell? ⟨w.heap.size, 1, none⟩ = some (.slice A ls.length c) ∧ w'.cell? ⟨w.heap.size, 2, none⟩ = some (.slice B es.length d))
    (refine ⟨?_, ?_, ?_⟩ <;> (repeat (with_reducible first | exact c0 | exact c1 | exact c2 | refine cell_drew ?_ | refine cell_later hbI ?_ | refine cell_later hbU ?_ | refine cell_alloc _ ?_ | refine cell_far ?_ (by simp) _)))
    (first
      | (refine step_append_own rfl _ _ 23 rfl 3 i0 (.int .i64 0) 1 8 Tryz.underlying23 hi hz0 hz1 hz2 rfl (by decide) _ rfl A ls.length c (iw ls) rfl (by repeat (with_reducible first | exact hA1 | refine Rd.drew1 ?_ | refine Rd.to ?_ hbU | refine Rd.alloc ?_ _)) (oneCells_int _ _) (by simp only [maxLen]; omega) (by omega) (by omega) ?_
         intro gI cI wI hoI hbI
         have hsI : w1.heap.size ≤ wI.heap.size := Nat.le_trans (by (try simp only [World.size_alloc, World.size_drew]); omega) hbI.size
         have hlI := hoI.lt gI rfl
         have kRI : Bk wI (w.heap.size + 1) #[.int .i64 0, .slice none 0 0, .slice none 0 0] 26 := by repeat (with_reducible first | exact kR | refine Bk.to ?_ hbI | refine Bk.to ?_ hbU | refine Bk.drew ?_ | refine Bk.alloc ?_ _)
         obtain ⟨cRI, fRI, lRI⟩ := kRI.facts)
      | (refine step_append_own rfl _ _ 24 rfl 85 j0 (.int .u64 0) 1 8 Tryz.underlying24 hj hy0 hy1 hy2 rfl (by decide) _ rfl B es.length d (uw es) rfl (by repeat (with_reducible first | exact hE1 | refine Rd.drew1 ?_ | refine Rd.to ?_ hbI | refine Rd.alloc ?_ _)) (oneCells_uw _) (by simp only [maxLen]; omega) (by omega) (by omega) ?_
         intro gU cU wU hoU hbU
         have hlU := hoU.lt gU rfl
         have kRU : Bk wU (w.heap.size + 1) #[.int .i64 0, .slice none 0 0, .slice none 0 0] 26 := by repeat (with_reducible first | exact kR | refine Bk.to ?_ hbU | refine Bk.to ?_ hbI | refine Bk.drew ?_ | refine Bk.alloc ?_ _)
         obtain ⟨cRU, fRU, lRU⟩ := kRU.facts))
  all_goals
    have hBU : Below w.heap.size w wU := by repeat (with_reducible first | exact hB1 | refine bnext ?_ hbU | refine bnext ?_ hbI | refine below_drew ?_ | refine balloc ?_ _)
    simp only [World.size_alloc, World.size_drew] at hlI hlU
    have hn := HN.out
    have hm := HM.out
    have hoI1 := own_less (base' := w.heap.size + 1 + 1) hoI (by (try simp only [World.size_alloc, World.size_drew]); omega)
    have hoU1 := own_less (base' := w.heap.size + 1 + 1) hoU (by (try simp only [World.size_alloc, World.size_drew]); omega)
    have hoI2 : wU.ownsRow (w.heap.size + 1 + 1) 3 1 (.slice (some ⟨gI, 0, none⟩) ls.length cI) ls.length (iw ls) := by repeat (with_reducible first | exact hoI1 | refine own_below ?_ hbU | refine World.ownsRow.alloc ?_ _)
    rw [hn] at hoI2
    rw [hm] at hoU1
    have hO : Own2 wU (w.heap.size + 1 + 1) gI cI gU cU ls es := ⟨hoI2, hoU1, by omega⟩
    have kF := kRU.put3 (.int .i64 r) (.slice (some ⟨gI, 0, none⟩) ls.length cI) (.slice (some ⟨gU, 0, none⟩) es.length cU)
    have hBF := below_put3 hBU (g := w.heap.size + 1) (by omega) (.int .i64 r) (.slice (some ⟨gI, 0, none⟩) ls.length cI) (.slice (some ⟨gU, 0, none⟩) es.length cU)
    have hOF := ((hO.far (p := ⟨w.heap.size + 1, 0, none⟩) (by show _ < _; simp only; omega) (.int .i64 r)).far (p := ⟨w.heap.size + 1, 1, none⟩) (by show _ < _; simp only; omega) (.slice (some ⟨gI, 0, none⟩) ls.length cI)).far (p := ⟨w.heap.size + 1, 2, none⟩) (by show _ < _; simp only; omega) (.slice (some ⟨gU, 0, none⟩) es.length cU)
    clear hn hm
    go_wp2_with fail
    have hn := HN.out
    have hm := HM.out
    rw [hn, hm] at kF hBF hOF
    try rw [hn]
    try rw [hm]
    exact bodyPost_ret (kF.res1 (P := Tryz.prog) rfl _ rfl (by kernel_rfl) (by kernel_rfl)) rfl ⟨_, _, _, _, rfl, hOF.less (by omega), hBF⟩
end Go.Proofs.YtpkgfkhaiifooaaGreatDoor
/- Page tables: the reference's Put, SetLeaf, empty, Clear and Trim. -/
namespace Go.Proofs.YtpkgfkhaiifooaaGreatDoor
open Go Go.Proofs Go.RowKit
set_option linter.unusedSimpArgs false
set_option linter.unusedVariables false
set_option maxRecDepth 100000

theorem Own2.tloc {w : World} {base gA cA gB cB : Nat} {ls : List Int} {es : List Nat} (h : Own2 w base gA cA gB cB ls es) (r : Int) {lo : Nat} (hl : lo ≤ base) : TLoc lo (.agg #[.int .i64 r, .slice (some ⟨gA, 0, none⟩) 8 cA, .slice (some ⟨gB, 0, none⟩) 64 cB]) := by
  have h1 := h.lt
  intro r' A n c B m d e
  unfold tabV at e
  simp only [Value.agg.injEq, Array.mk.injEq, List.cons.injEq, Value.slice.injEq, and_true] at e
  obtain ⟨_, ⟨rfl, rfl, rfl⟩, rfl, rfl, rfl⟩ := e
  constructor
  · intro b off _ e2
    simp only [Option.some.injEq, Addr.mk.injEq, and_true] at e2
    omega
  · intro b off _ e2
    simp only [Option.some.injEq, Addr.mk.injEq, and_true] at e2
    omega

theorem uses_mem (r : Int) (ls : List Int) (f : Int) (h : ls.length = 8) : usesB r ls 8 f = true ↔ (f = r ∨ f ∈ ls) := by
  rw [usesB_iff]
  constructor
  · rintro (h1 | ⟨j, hj, h1⟩)
    · exact .inl h1.symm
    · rw [List.getD_eq_getElem?_getD, List.getElem?_eq_getElem (by omega)] at h1
      refine .inr ?_
      rw [← h1]
      simp
  · rintro (h1 | h1)
    · exact .inl h1.symm
    · obtain ⟨j, hj, h2⟩ := List.getElem_of_mem h1
      refine .inr ⟨j, by omega, ?_⟩
      rw [List.getD_eq_getElem?_getD, List.getElem?_eq_getElem hj]
      exact h2
theorem leafR_of (r : Int) (ls : List Int) (es : List Nat) (leaf frame : Int) (x : Int) (h : leafE r ls es leaf frame = x) (hx : x ≠ 0) : leafR r ls es leaf frame = (tb0, x) := by
  unfold leafR
  rw [if_pos (by rw [h]; exact hx), h]
theorem emptyB_no (es : List Nat) (leaf k : Nat) (hk : k < 8) (h : unpK (es.getD (leaf * 8 + k) 0) ≠ 0) : emptyB es leaf = false := by
  rw [Bool.eq_false_iff]
  intro h1
  have := List.all_eq_true.1 h1 k (List.mem_range.2 hk)
  exact h (by simpa using this)
theorem emptyB_yes (es : List Nat) (leaf : Nat) (h : ∀ k, k < 8 → unpK (es.getD (leaf * 8 + k) 0) = 0) : emptyB es leaf = true :=
  List.all_eq_true.2 fun k hk => by simpa using h k (List.mem_range.1 hk)
set_option maxHeartbeats 1000000 in
theorem rEmpty_any (r : Int) (es : List Nat) (A B : Option Addr) (n c d leaf : Nat) (w : World) (hB : Rd w 1 B 64 (uw es)) (hs : wsmall es) (hl : leaf < 8) :
    Calls Tryz.prog 69 #[.agg #[.int .i64 r, .slice A n c, .slice B 64 d], .int .i64 leaf] w fun e w' => e = .returned (.bool (emptyB es leaf)) ∧ Below w.heap.size w w' := by
  have kT := Bk.new w #[.int .i64 r, .slice A n c, .slice B 64 d] 26
  have hB1 := balloc (Below.refl _ w) (.cells #[.int .i64 r, .slice A n c, .slice B 64 d] 26)
  generalize hw1 : w.alloc (.cells #[.int .i64 r, .slice A n c, .slice B 64 d] 26) = w1 at *
  replace hB := hB.below hB1 (Nat.le_refl _)
  go_enter Tryz.func69, Tryz.ntmps69
  go_wp2_with fail
  go_loopw [5] (fun i wr => ∃ k : Nat, k ≤ 8 ∧ i = .int .i64 k ∧ Hid (∀ j, j < k → unpK (es.getD (leaf * 8 + j) 0) = 0) ∧ Below w1.heap.size w1 wr) (fun i _ => 8 - (intOf i).toNat)
  case atStart => exact ⟨0, by omega, rfl, Lib.hid (fun j h => by omega), Below.refl _ _⟩
  case round =>
    obtain ⟨k, hk, rfl, Hno, hBx⟩ := hrel
    obtain ⟨cT, fT, lT⟩ := (kT.to hBx).facts
    by_cases hlt : k < 8
    · obtain ⟨g, off, x, rfl, hg, hx, hxs, hc⟩ := (hB.below hBx (Nat.le_refl _)).word hs (show leaf * 8 + k < 64 by omega)
      have hkI : (k : Int) < 8 := by omega
      have hi1 : (0 : Int) ≤ (leaf : Int) * 8 + (k : Int) := by omega
      have hi2 : (leaf : Int) * 8 + (k : Int) < 64 := by omega
      rcases hu : unpR x with ⟨⟨ek, en, ea, eb, ec⟩, er⟩
      have hkx : unpK (es.getD (leaf * 8 + k) 0) = ek := by rw [hx]; unfold unpK; rw [hu]
      have HU := Lib.hid (rUnpack_any x)
      rw [hu] at HU
      clear hu hx
      by_cases hek : ek = 0
      · have d1 : (ek != 0) = false := by simpa using hek
        have HN : Hid (∀ j, j < k + 1 → unpK (es.getD (leaf * 8 + j) 0) = 0) := Lib.hid (fun j h => by
          rcases Nat.lt_or_ge j k with h' | h'
          · exact Hno.out j h'
          · rw [show j = k by omega, hkx]; exact hek)
        clear hek hkx
        go_wp2_with (first | (go_at_call 67; refine (HU.out _ hxs).mono ?_; rintro e w3 ⟨rfl, hb3⟩; simp only))
        go_roundw
        case rel => first | exact ⟨k + 1, by omega, by go_num, HN, balloc (bnext hBx hb3) _⟩ | ((repeat apply Exists.intro); exact ⟨⟨k + 1, by omega, by go_num, HN, balloc (bnext hBx hb3) _⟩, rfl⟩)
        case measure => simp [intOf]; omega
      · have d1 : (ek != 0) = true := by simpa using hek
        have HV : Hid (emptyB es leaf = false) := Lib.hid (emptyB_no es leaf k hlt (by rw [hkx]; exact hek))
        clear hek hkx
        go_wp2_with (first | (go_at_call 67; refine (HU.out _ hxs).mono ?_; rintro e w3 ⟨rfl, hb3⟩; simp only))
        go_ret
        exact ⟨by rw [HV.out]; rfl, balloc (bnext (bnext hB1 hBx) hb3) _⟩
    · have HV : Hid (emptyB es leaf = true) := Lib.hid (emptyB_yes es leaf (fun j hj => Hno.out j (by omega)))
      have hkI : ¬ (k : Int) < 8 := by omega
      go_wp2_with fail
      go_ret
      exact ⟨by rw [HV.out]; rfl, bnext hB1 hBx⟩

set_option maxHeartbeats 1000000 in
theorem rClear_bad1 (r : Int) (ls : List Int) (es : List Nat) (v : Value) (page : Int) (w : World) (hv : TbV w v (r, ls, es)) (hs : wsmall es) (hE : askE r ls es page ≠ 0) :
    Calls Tryz.prog 33 #[v, .int .i64 page] w fun e w' => TbRes3L w w' tb0 0 (askE r ls es page) e := by
  have hget : getR r ls es page = ((0, 0, false, false, false), askE r ls es page) := by unfold getR; rw [if_pos hE]
  have hd : (askE r ls es page != 0) = true := by simpa using hE
  have hd2 : (askE r ls es page == 0) = false := by simpa using hE
  clear hE
  obtain ⟨A, c, B, d, rfl, hA, hB, hcc⟩ := id hv
  simp only at hA hB hcc
  unfold tabV at hv ⊢
  simp only at hv ⊢
  have kT := (Bk.new (w) #[.int .i64 r, .slice A ls.length c, .slice B es.length d] 26).alloc (.cells #[.int .i64 0, .slice none 0 0, .slice none 0 0] 26)
  have kR := Bk.new (w.alloc (.cells #[.int .i64 r, .slice A ls.length c, .slice B es.length d] 26)) #[.int .i64 0, .slice none 0 0, .slice none 0 0] 26
  simp only [World.size_alloc] at kR
  have hB1 := balloc (balloc (Below.refl _ w) (.cells #[.int .i64 r, .slice A ls.length c, .slice B es.length d] 26)) (.cells #[.int .i64 0, .slice none 0 0, .slice none 0 0] 26)
  generalize hw_w1 : (w.alloc (.cells #[.int .i64 r, .slice A ls.length c, .slice B es.length d] 26)).alloc (.cells #[.int .i64 0, .slice none 0 0, .slice none 0 0] 26) = w1 at *
  obtain ⟨cT, fT, lT⟩ := kT.facts
  obtain ⟨cR, fR, lR⟩ := kR.facts
  go_enter Tryz.func33, Tryz.ntmps33
  go_wp2_with fail
  refine (rGet_any r ls es _ page _ (hv.to hB1) hs).mono ?_
  rw [hget]
  rintro e w2 ⟨rfl, hb2⟩
  simp only
  clear hw_w1
  replace kT := kT.to hb2
  replace kR := kR.to hb2
  clear cT fT lT cR fR lR
  obtain ⟨cT, fT, lT⟩ := kT.facts
  obtain ⟨cR, fR, lR⟩ := kR.facts
  replace hB1 := bnext hB1 hb2
  go_upto_region 2 with fail
  replace kT := kT.alloc (.cells #[.int .i64 0, .int .i64 0, .bool false, .bool false, .bool false] 57)
  replace kR := kR.alloc (.cells #[.int .i64 0, .int .i64 0, .bool false, .bool false, .bool false] 57)
  replace hB1 := balloc hB1 (.cells #[.int .i64 0, .int .i64 0, .bool false, .bool false, .bool false] 57)
  clear cT fT lT cR fR lR
  have kX := Bk.new w2 #[.int .i64 0, .int .i64 0, .bool false, .bool false, .bool false] 57
  generalize w2.alloc (.cells #[.int .i64 0, .int .i64 0, .bool false, .bool false, .bool false] 57) = wX at *
  obtain ⟨cR, fR, lR⟩ := kR.facts
  obtain ⟨cX, fX, lX⟩ := kX.facts
  go_wp2_with fail
  have kF := kR.put3 (.int .i64 0) (.slice none 0 0) (.slice none 0 0)
  have hBF := below_put3 (hB1) (g := w.heap.size + 1) (by omega) (.int .i64 0) (.slice none 0 0) (.slice none 0 0)
  exact bodyPost_ret (kF.res3 (P := Tryz.prog) rfl _ rfl (by kernel_rfl) (by kernel_rfl)) rfl ⟨_, rfl, TbV.zero _, TLoc.zero _ _, hBF⟩

set_option maxHeartbeats 1000000 in
theorem rClear_bad2 (r : Int) (ls : List Int) (es : List Nat) (v : Value) (page : Nat) (w : World) (hv : TbV w v (r, ls, es)) (hs : wsmall es) (hE : askE r ls es page = 0) (hk : unpK (es.getD page 0) = 0) :
    Calls Tryz.prog 33 #[v, .int .i64 page] w fun e w' => TbRes3L w w' tb0 0 6 e := by
  have hget : ∃ en ea eb ec, getR r ls es page = ((0, en, ea, eb, ec), 0) := by
    have h1 : unpE (es.getD page 0) = 0 := by
      obtain ⟨h1, p, hp, hp2⟩ := ask_zero hE
      have := (tab_zero h1).2.2.2.2.2.2.1 page (by omega)
      exact this
    unfold getR
    rw [if_neg (by simp [hE]), Int.toNat_natCast]
    unfold unpK at hk
    unfold unpR at hk ⊢
    rw [if_pos h1] at hk ⊢
    simp only at hk ⊢
    rw [hk]
    exact ⟨_, _, _, _, rfl⟩
  obtain ⟨en, ea, eb, ec, hget⟩ := hget
  clear hE hk
  obtain ⟨A, c, B, d, rfl, hA, hB, hcc⟩ := id hv
  simp only at hA hB hcc
  unfold tabV at hv ⊢
  simp only at hv ⊢
  have kT := (Bk.new (w) #[.int .i64 r, .slice A ls.length c, .slice B es.length d] 26).alloc (.cells #[.int .i64 0, .slice none 0 0, .slice none 0 0] 26)
  have kR := Bk.new (w.alloc (.cells #[.int .i64 r, .slice A ls.length c, .slice B es.length d] 26)) #[.int .i64 0, .slice none 0 0, .slice none 0 0] 26
  simp only [World.size_alloc] at kR
  have hB1 := balloc (balloc (Below.refl _ w) (.cells #[.int .i64 r, .slice A ls.length c, .slice B es.length d] 26)) (.cells #[.int .i64 0, .slice none 0 0, .slice none 0 0] 26)
  generalize hw_w1 : (w.alloc (.cells #[.int .i64 r, .slice A ls.length c, .slice B es.length d] 26)).alloc (.cells #[.int .i64 0, .slice none 0 0, .slice none 0 0] 26) = w1 at *
  obtain ⟨cT, fT, lT⟩ := kT.facts
  obtain ⟨cR, fR, lR⟩ := kR.facts
  go_enter Tryz.func33, Tryz.ntmps33
  go_wp2_with fail
  refine (rGet_any r ls es _ page _ (hv.to hB1) hs).mono ?_
  rw [hget]
  rintro e w2 ⟨rfl, hb2⟩
  simp only
  clear hw_w1
  replace kT := kT.to hb2
  replace kR := kR.to hb2
  clear cT fT lT cR fR lR
  obtain ⟨cT, fT, lT⟩ := kT.facts
  obtain ⟨cR, fR, lR⟩ := kR.facts
  replace hB1 := bnext hB1 hb2
  go_upto_region 2 with fail
  replace kT := kT.alloc (.cells #[.int .i64 0, .int .i64 en, .bool ea, .bool eb, .bool ec] 57)
  replace kR := kR.alloc (.cells #[.int .i64 0, .int .i64 en, .bool ea, .bool eb, .bool ec] 57)
  replace hB1 := balloc hB1 (.cells #[.int .i64 0, .int .i64 en, .bool ea, .bool eb, .bool ec] 57)
  clear cT fT lT cR fR lR
  have kX := Bk.new w2 #[.int .i64 0, .int .i64 en, .bool ea, .bool eb, .bool ec] 57
  generalize w2.alloc (.cells #[.int .i64 0, .int .i64 en, .bool ea, .bool eb, .bool ec] 57) = wX at *
  obtain ⟨cR, fR, lR⟩ := kR.facts
  obtain ⟨cX, fX, lX⟩ := kX.facts
  go_wp2_with fail
  have kF := kR.put3 (.int .i64 0) (.slice none 0 0) (.slice none 0 0)
  have hBF := below_put3 (hB1) (g := w.heap.size + 1) (by omega) (.int .i64 0) (.slice none 0 0) (.slice none 0 0)
  exact bodyPost_ret (kF.res3 (P := Tryz.prog) rfl _ rfl (by kernel_rfl) (by kernel_rfl)) rfl ⟨_, rfl, TbV.zero _, TLoc.zero _ _, hBF⟩

set_option maxHeartbeats 4000000 in
theorem rClear_ok (r : Int) (ls : List Int) (es : List Nat) (v : Value) (page : Nat) (w : World) (hv : TbV w v (r, ls, es)) (hs : wsmall es) (hE : tabE r ls es = 0) (hp : page < 64) (hk : unpK (es.getD page 0) ≠ 0) :
    Calls Tryz.prog 33 #[v, .int .i64 page] w fun e w' => TbRes3L w w' (if emptyB (es.set page 0) (page / 8) then ((r, ls.set (page / 8) (-1), es.set page 0) : Tb) else (r, ls, es.set page 0)) (if emptyB (es.set page 0) (page / 8) then ls.getD (page / 8) 0 else -1) 0 e := by
  obtain ⟨h1, h2, _, _, _, _, hUn, _⟩ := tab_zero hE
  have hask : askE r ls es page = 0 := by unfold askE; rw [orE_r _ hE, if_neg (by omega)]
  have hget : ∃ ek en ea eb ec, getR r ls es page = ((ek, en, ea, eb, ec), 0) ∧ ek ≠ 0 := by
    have h1 : unpE (es.getD page 0) = 0 := hUn page hp
    unfold getR
    rw [if_neg (by simp [hask]), Int.toNat_natCast]
    unfold unpK at hk
    unfold unpR at hk ⊢
    rw [if_pos h1] at hk ⊢
    exact ⟨_, _, _, _, _, rfl, hk⟩
  obtain ⟨ek, en, ea, eb, ec, hget, hek⟩ := hget
  have hd : (ek == 0) = false := by simpa using hek
  have hpI : ((page / 8 : Nat) : Int) < 8 := by omega
  have hp8 : page / 8 < 8 := by omega
  rcases hem : emptyB (es.set page 0) (page / 8) with _ | _
  all_goals
    simp only [if_true, if_false, Bool.false_eq_true]
    clear hE hUn hask hk hek
    obtain ⟨A, c, B, d, rfl, hA, hB, hcc⟩ := id hv
    simp only at hA hB hcc
    unfold tabV at hv ⊢
    simp only at hv ⊢
    rw [h1, h2] at hv ⊢
    have kT := (Bk.new (w) #[.int .i64 r, .slice A 8 c, .slice B 64 d] 26).alloc (.cells #[.int .i64 0, .slice none 0 0, .slice none 0 0] 26)
    have kR := Bk.new (w.alloc (.cells #[.int .i64 r, .slice A 8 c, .slice B 64 d] 26)) #[.int .i64 0, .slice none 0 0, .slice none 0 0] 26
    simp only [World.size_alloc] at kR
    have hB1 := balloc (balloc (Below.refl _ w) (.cells #[.int .i64 r, .slice A 8 c, .slice B 64 d] 26)) (.cells #[.int .i64 0, .slice none 0 0, .slice none 0 0] 26)
    generalize hw_w1 : (w.alloc (.cells #[.int .i64 r, .slice A 8 c, .slice B 64 d] 26)).alloc (.cells #[.int .i64 0, .slice none 0 0, .slice none 0 0] 26) = w1 at *
    obtain ⟨cT, fT, lT⟩ := kT.facts
    obtain ⟨cR, fR, lR⟩ := kR.facts
    rw [h1] at hA
    rw [h2] at hB
    have HA := Lib.hid h1
    have HB := Lib.hid h2
    clear h1 h2
    have HO : Hid (∀ W, Rd W 1 A 8 (iw ls) → Rd W 1 B 64 (uw es) → Calls Tryz.prog 68 #[.agg #[.int .i64 r, .slice A 8 c, .slice B 64 d]] W fun e w' => ∃ gA cA gB cB, e = .returned (.agg #[.int .i64 r, .slice (some ⟨gA, 0, none⟩) 8 cA, .slice (some ⟨gB, 0, none⟩) 64 cB]) ∧ Own2 w' W.heap.size gA cA gB cB ls es ∧ Below W.heap.size W w') := Lib.hid (fun W q1 q2 => by
      have := rOwn2_any r ls es A B c d W (by rw [HA.out]; exact q1) (by rw [HB.out]; exact q2) HA.out HB.out
      rw [HA.out, HB.out] at this
      exact this)
    go_enter Tryz.func33, Tryz.ntmps33
    go_wp2_with fail
    refine (rGet_any r ls es _ page _ (hv.to hB1) hs).mono ?_
    rw [hget]
    rintro e w2 ⟨rfl, hb2⟩
    simp only
    clear hw_w1
    replace kT := kT.to hb2
    replace kR := kR.to hb2
    clear cT fT lT cR fR lR
    obtain ⟨cT, fT, lT⟩ := kT.facts
    obtain ⟨cR, fR, lR⟩ := kR.facts
    replace hB1 := bnext hB1 hb2
    clear hget
    go_upto_region 2 with fail
    have kX := Bk.new w2 #[.int .i64 ek, .int .i64 en, .bool ea, .bool eb, .bool ec] 57
    replace kT := kT.alloc (.cells #[.int .i64 ek, .int .i64 en, .bool ea, .bool eb, .bool ec] 57)
    replace kR := kR.alloc (.cells #[.int .i64 ek, .int .i64 en, .bool ea, .bool eb, .bool ec] 57)
    replace hB1 := balloc hB1 (.cells #[.int .i64 ek, .int .i64 en, .bool ea, .bool eb, .bool ec] 57)
    clear cT fT lT cR fR lR
    generalize w2.alloc (.cells #[.int .i64 ek, .int .i64 en, .bool ea, .bool eb, .bool ec] 57) = wX at *
    obtain ⟨cT, fT, lT⟩ := kT.facts
    obtain ⟨cX, fX, lX⟩ := kX.facts
    go_upto_region 6 with fail
    clear cX fX lX kX
    obtain ⟨cR, fR, lR⟩ := kR.facts
    go_wp2_with fail
    refine (HO.out _ (hA.below hB1 (Nat.le_refl _)) (hB.below hB1 (Nat.le_refl _))).mono ?_
    rintro e w4 ⟨gA, cA, gB, cB, rfl, hO, hb4⟩
    replace kR := kR.to hb4
    replace kT := kT.to hb4
    have hsz := hB1.size
    have hs4 := hb4.size
    have hltR := lR
    clear cT fT lT cR fR lR
    replace hB1 := bnext hB1 hb4
    go_upto_region 7 with fail
    have kO := Bk.new w4 #[.int .i64 r, .slice (some ⟨gA, 0, none⟩) 8 cA, .slice (some ⟨gB, 0, none⟩) 64 cB] 26
    replace kR := kR.alloc (.cells #[.int .i64 r, .slice (some ⟨gA, 0, none⟩) 8 cA, .slice (some ⟨gB, 0, none⟩) 64 cB] 26)
    replace kT := kT.alloc (.cells #[.int .i64 r, .slice (some ⟨gA, 0, none⟩) 8 cA, .slice (some ⟨gB, 0, none⟩) 64 cB] 26)
    replace hB1 := balloc hB1 (.cells #[.int .i64 r, .slice (some ⟨gA, 0, none⟩) 8 cA, .slice (some ⟨gB, 0, none⟩) 64 cB] 26)
    have hlt := hO.lt
    replace hO := hO.alloc (.cells #[.int .i64 r, .slice (some ⟨gA, 0, none⟩) 8 cA, .slice (some ⟨gB, 0, none⟩) 64 cB] 26)
    generalize w4.alloc (.cells #[.int .i64 r, .slice (some ⟨gA, 0, none⟩) 8 cA, .slice (some ⟨gB, 0, none⟩) 64 cB] 26) = wO at *
    obtain ⟨cO, fO, lO⟩ := kO.facts
    have hlt := hO.lt
    obtain ⟨cE, fE⟩ := hO.entryAt page hp
    go_upto_region 8 with fail
    replace kO := kO.far (p := ⟨gB, page, none⟩) (by show _ ≠ _; simp only; omega) (.int .u64 0)
    replace kR := kR.far (p := ⟨gB, page, none⟩) (by show _ ≠ _; simp only; omega) (.int .u64 0)
    replace kT := kT.far (p := ⟨gB, page, none⟩) (by show _ ≠ _; simp only; omega) (.int .u64 0)
    replace hB1 := hB1.setCell (p := ⟨gB, page, none⟩) (by show _ ≤ _; simp only; omega) (.int .u64 0)
    have hO2 : Own2 (wO.setCell ⟨gB, page, none⟩ (.int .u64 0)) _ gA cA gB cB ls (es.set page 0) := hO.entry page 0
    clear cO fO lO cE fE hO
    generalize wO.setCell ⟨gB, page, none⟩ (.int .u64 0) = wS at *
    obtain ⟨cO, fO, lO⟩ := kO.facts
    obtain ⟨cR, fR, lR⟩ := kR.facts
    obtain ⟨cT, fT, lT⟩ := kT.facts
    have hO := hO2
    clear hO2
    go_upto_region 9 with fail
    go_wp2_with fail
    have hEm := rEmpty_any r (es.set page 0) (some ⟨gA, 0, none⟩) (some ⟨gB, 0, none⟩) 8 cA cB (page / 8) wS (Rd.own hO.b) (wsmall_set hs page (by decide)) (by omega)
    rw [hem] at hEm
    refine hEm.mono ?_
    rintro e w5 ⟨rfl, hb5⟩
    clear hEm
    replace kO := kO.to hb5
    replace kR := kR.to hb5
    replace kT := kT.to hb5
    replace hO := hO.to hb5
    replace hB1 := bnext hB1 hb5
    clear cT fT lT cR fR lR cO fO lO
  · obtain ⟨cO, fO, lO⟩ := kO.facts
    obtain ⟨cR, fR, lR⟩ := kR.facts
    go_wp2_with fail
    have kF := kR.put3 (.int .i64 r) (.slice (some ⟨gA, 0, none⟩) 8 cA) (.slice (some ⟨gB, 0, none⟩) 64 cB)
    have hBF := below_put3 hB1 (g := w.heap.size + 1) (by omega) (.int .i64 r) (.slice (some ⟨gA, 0, none⟩) 8 cA) (.slice (some ⟨gB, 0, none⟩) 64 cB)
    have hOF := ((hO.far (p := ⟨w.heap.size + 1, 0, none⟩) (by show _ < _; simp only; omega) (.int .i64 r)).far (p := ⟨w.heap.size + 1, 1, none⟩) (by show _ < _; simp only; omega) (.slice (some ⟨gA, 0, none⟩) 8 cA)).far (p := ⟨w.heap.size + 1, 2, none⟩) (by show _ < _; simp only; omega) (.slice (some ⟨gB, 0, none⟩) 64 cB)
    exact bodyPost_ret (kF.res3 (P := Tryz.prog) rfl _ rfl (by kernel_rfl) (by kernel_rfl)) rfl ⟨_, rfl, hOF.tbv r, hOF.tloc r (by omega), hBF⟩
  · obtain ⟨cO, fO, lO⟩ := kO.facts
    obtain ⟨cE, fE⟩ := hO.leafAt (page / 8) hp8
    have hlt := hO.lt
    go_upto_region 12 with fail
    replace kO := kO.far (p := ⟨gA, page / 8, none⟩) (by show _ ≠ _; simp only; omega) (.int .i64 (-1))
    replace kR := kR.far (p := ⟨gA, page / 8, none⟩) (by show _ ≠ _; simp only; omega) (.int .i64 (-1))
    replace kT := kT.far (p := ⟨gA, page / 8, none⟩) (by show _ ≠ _; simp only; omega) (.int .i64 (-1))
    replace hB1 := hB1.setCell (p := ⟨gA, page / 8, none⟩) (by show _ ≤ _; simp only; omega) (.int .i64 (-1))
    replace hO := hO.leaf (page / 8) (-1)
    clear cO fO lO cE fE
    generalize w5.setCell ⟨gA, page / 8, none⟩ (.int .i64 (-1)) = wU at *
    obtain ⟨gl, ol, z, rfl, hgl, hz, hcl⟩ := (hA.below hB1 (Nat.le_refl _)).numb hp8
    have HZ := Lib.hid hz
    have hgw : gl < w.heap.size := by
      obtain ⟨b, off, e, hb, _⟩ := hA.2 (by omega)
      injection e with e
      injection e with e1 _
      omega
    clear hz
    obtain ⟨cO, fO, lO⟩ := kO.facts
    obtain ⟨cR, fR, lR⟩ := kR.facts
    obtain ⟨cT, fT, lT⟩ := kT.facts
    go_region
    all_goals
      go_wp2_with fail
      have kF := kR.drew.put3 (.int .i64 r) (.slice (some ⟨gA, 0, none⟩) 8 cA) (.slice (some ⟨gB, 0, none⟩) 64 cB)
      have hBF := below_put3 (below_drew hB1) (g := w.heap.size + 1) (by omega) (.int .i64 r) (.slice (some ⟨gA, 0, none⟩) 8 cA) (.slice (some ⟨gB, 0, none⟩) 64 cB)
      have hOF := ((hO.drew.far (p := ⟨w.heap.size + 1, 0, none⟩) (by show _ < _; simp only; omega) (.int .i64 r)).far (p := ⟨w.heap.size + 1, 1, none⟩) (by show _ < _; simp only; omega) (.slice (some ⟨gA, 0, none⟩) 8 cA)).far (p := ⟨w.heap.size + 1, 2, none⟩) (by show _ < _; simp only; omega) (.slice (some ⟨gB, 0, none⟩) 64 cB)
      rw [HZ.out]
      exact bodyPost_ret (kF.res3 (P := Tryz.prog) rfl _ rfl (by kernel_rfl) (by kernel_rfl)) rfl ⟨_, rfl, hOF.tbv r, hOF.tloc r (by omega), hBF⟩

theorem rClear_any (r : Int) (ls : List Int) (es : List Nat) (v : Value) (page : Int) (w : World) (hv : TbV w v (r, ls, es)) (hs : wsmall es) :
    Calls Tryz.prog 33 #[v, .int .i64 page] w fun e w' => TbRes3L w w' (clearR r ls es page).1 (clearR r ls es page).2.1 (clearR r ls es page).2.2 e := by
  by_cases h : askE r ls es page = 0
  · obtain ⟨h1, p, rfl, hp⟩ := ask_zero h
    by_cases hk : unpK (es.getD p 0) = 0
    · have hE : clearE r ls es p = 6 := by unfold clearE; rw [orE_r _ h, Int.toNat_natCast, if_pos hk]
      have hR : clearR r ls es p = (tb0, 0, 6) := by unfold clearR; rw [if_pos (by omega), hE]
      rw [hR]
      exact rClear_bad2 r ls es v p w hv hs h hk
    · have hE : clearE r ls es p = 0 := by unfold clearE; rw [orE_r _ h, Int.toNat_natCast, if_neg hk]
      have hR : clearR r ls es p = ((if emptyB (es.set p 0) (p / 8) then ((r, ls.set (p / 8) (-1), es.set p 0) : Tb) else (r, ls, es.set p 0)), (if emptyB (es.set p 0) (p / 8) then ls.getD (p / 8) 0 else -1), 0) := by
        unfold clearR
        rw [if_neg (by omega), Int.toNat_natCast]
        rcases emptyB (es.set p 0) (p / 8) with _ | _ <;> rfl
      rw [hR]
      exact rClear_ok r ls es v p w hv hs h1 hp hk
  · have hE : clearE r ls es page = askE r ls es page := by unfold clearE; rw [orE_l _ h]
    have hR : clearR r ls es page = (tb0, 0, askE r ls es page) := by unfold clearR; rw [if_pos (by rw [hE]; exact h), hE]
    rw [hR]
    exact rClear_bad1 r ls es v page w hv hs h
theorem Own2.keep {w w' : World} {B' base gA cA gB cB : Nat} {ls : List Int} {es : List Nat} (h : Own2 w base gA cA gB cB ls es) (hb : Below B' w w') (h1 : gA < B') (h2 : gB < B') : Own2 w' base gA cA gB cB ls es := by
  refine ⟨⟨h.a.1, ?_⟩, ⟨h.b.1, ?_⟩, h.ne⟩
  · rcases h.a.2 with hn | ⟨g, cap, cur, hv, hbg, hg, rest⟩
    · exact .inl hn
    · have e : g = gA := by injection hv with hv; injection hv with hv; injection hv with hv; exact hv.symm
      exact .inr ⟨g, cap, cur, hv, hbg, (hb.block g (by omega)).trans hg, rest⟩
  · rcases h.b.2 with hn | ⟨g, cap, cur, hv, hbg, hg, rest⟩
    · exact .inl hn
    · have e : g = gB := by injection hv with hv; injection hv with hv; injection hv with hv; exact hv.symm
      exact .inr ⟨g, cap, cur, hv, hbg, (hb.block g (by omega)).trans hg, rest⟩
theorem trimG_yes (ls : List Int) (es : List Nat) (k : Nat) (h : goneB ls es k = true) : trimG ls es (k + 1) = trimG ls es k ++ [ls.getD k 0] := by simp [trimG, List.range_succ, h]
theorem trimG_no (ls : List Int) (es : List Nat) (k : Nat) (h : goneB ls es k = false) : trimG ls es (k + 1) = trimG ls es k := by simp [trimG, List.range_succ, h]
theorem trimL_yes (ls : List Int) (es : List Nat) (k : Nat) (h : goneB ls es k = true) : trimL ls es (k + 1) = (trimL ls es k).set k (-1) := by simp [trimL, h]
theorem trimL_no (ls : List Int) (es : List Nat) (k : Nat) (h : goneB ls es k = false) : trimL ls es (k + 1) = trimL ls es k := by simp [trimL, h]
def TrimRel (w3 : World) (lo s3 gO gA cA gB cB : Nat) (r : Int) (ls : List Int) (es : List Nat) (v i : Value) (wr : World) : Prop :=
  ∃ k : Nat, k ≤ 8 ∧ i = .int .i64 k ∧ Own2 wr s3 gA cA gB cB (trimL ls es k) es ∧ Bk wr gO #[.int .i64 r, .slice (some ⟨gA, 0, none⟩) 8 cA, .slice (some ⟨gB, 0, none⟩) 64 cB] 26 ∧ wr.ownsRow lo 3 1 v (trimG ls es k).length (iw (trimG ls es k)) ∧ Below w3.heap.size w3 wr ∧ lo ≤ wr.heap.size

end Go.Proofs.YtpkgfkhaiifooaaGreatDoor
