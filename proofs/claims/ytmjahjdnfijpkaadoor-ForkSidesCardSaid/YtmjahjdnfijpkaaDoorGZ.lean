/- Several texts in one. -/
import Derived.Test.YtmjahjdnfijpkaaDoorGY
import Derived.Deep.OwnRows
import Derived.Test.YtmjahjdnfijpkaaDoorGX
import Derived.Laws.OwnMore
import Derived.Test.YtmjahjdnfijpkaaDoorMadeP
import Derived.Deep.RegionHeld3
/- Page tables: the reference's New. -/
namespace Go.Proofs.YtmjahjdnfijpkaaDoor
open Go Go.Proofs Go.RowKit
set_option linter.unusedSimpArgs false
set_option linter.unusedVariables false
set_option maxRecDepth 100000

end Go.Proofs.YtmjahjdnfijpkaaDoor
/- Page tables: the reference's own copy, whose rows may be written. -/
namespace Go.Proofs.YtmjahjdnfijpkaaDoor
open Go Go.Proofs Go.RowKit
set_option linter.unusedSimpArgs false
set_option linter.unusedVariables false
set_option maxRecDepth 100000

theorem step_append_own {P : Program} {ops : Array Oper} {o : Oper} {a : Act} {w : World} {K : Act → World → Prop} {Q : Exit → Act → World → Prop} {E : Prop}
    (hg : o.guard = none) (s x : Operand) (t : TypeId) (hop : o.op = Op.call { callee := Callee.builtin Builtin.append, args := #[s, x], argTypes := #[t, t] })
    (e : TypeId) (i : TypeInfo) (z : Value) (size bytes : Nat) (h1 : P.underlying t = some (.slice e)) (h2 : P.info? e = some i) (h3 : i.zero = some z) (h4 : i.size = size) (h5 : i.bytes = bytes) (h6 : z.cells.size = size) (h7 : 0 < size)
    (g : Addr) (hs : a.eval s = .slice (some g) 0 0)
    (A : Option Addr) (m c : Nat) (news : List Value) (hx : a.eval x = .slice A m c) (hr : Rd w size A m news) (h1c : ∀ u ∈ news, u.oneCell' = true)
    (b1 : m ≤ maxLen) (b2 : m * bytes ≤ 140737488355328) (h0 : 0 < m)
    (hK : ∀ (g' c' : Nat) w', w'.ownsRow w.heap.size e size (.slice (some ⟨g', 0, none⟩) m c') m news → Below w.heap.size w w' → K (a.put o.dst (.slice (some ⟨g', 0, none⟩) m c')) w') :
    if Region.wanted o (yielded ops a.tmps) = true then Oper.wp P o a w K Q else E := by
  obtain ⟨b, off, rfl, hb, hc⟩ := hr.2 h0
  refine step_append_grows hg s x t hop e i z size bytes h1 h2 h3 h4 h5 h6 h7 (some g) 0 0 [] hs (fun h => by cases h) (by simp) (fun _ _ j u hu => by simp at hu) ⟨b, off, none⟩ m c news hx hr.1 (fun j u hu => by rw [Addr.add_mid]; exact hc j u hu) h1c (by omega) (by simpa using b1) (by simpa using b2) ?_
  intro v' w' hown hgrow
  rw [Nat.zero_add, List.nil_append] at hown
  obtain ⟨g', cap, hv, _, hlt⟩ := hown.form h0
  subst hv
  exact hK _ _ _ hown ((Below.refl _ w).grown hgrow (Nat.le_refl _) (fun k e => by cases e))

/-- A table of a call's own: its rows may be written. -/
structure Own2 (w : World) (base gA cA gB cB : Nat) (ls : List Int) (es : List Nat) : Prop where
  a : w.ownsRow base 3 1 (.slice (some ⟨gA, 0, none⟩) 8 cA) 8 (iw ls)
  b : w.ownsRow base 55 1 (.slice (some ⟨gB, 0, none⟩) 64 cB) 64 (uw es)
  ne : gA ≠ gB
section
variable {w : World} {base gA cA gB cB : Nat} {ls : List Int} {es : List Nat}
theorem Own2.to {w' : World} (h : Own2 w base gA cA gB cB ls es) (hb : Below w.heap.size w w') : Own2 w' base gA cA gB cB ls es := ⟨own_below h.a hb, own_below h.b hb, h.ne⟩
theorem Own2.alloc (h : Own2 w base gA cA gB cB ls es) (o : Obj) : Own2 (w.alloc o) base gA cA gB cB ls es := h.to (balloc (Below.refl _ _) o)
theorem Own2.drew (h : Own2 w base gA cA gB cB ls es) : Own2 w.drew base gA cA gB cB ls es := h.to (below_drew (Below.refl _ _))
theorem Own2.less {base' : Nat} (h : Own2 w base gA cA gB cB ls es) (hb : base' ≤ base) : Own2 w base' gA cA gB cB ls es := ⟨own_less h.a hb, own_less h.b hb, h.ne⟩
theorem Own2.lt (h : Own2 w base gA cA gB cB ls es) : (base ≤ gA ∧ gA < w.heap.size) ∧ base ≤ gB ∧ gB < w.heap.size := ⟨h.a.lt gA rfl, h.b.lt gB rfl⟩
theorem Own2.lens (h : Own2 w base gA cA gB cB ls es) : ls.length = 8 ∧ es.length = 64 := ⟨by have := h.a.1; rw [iw_len] at this; omega, by have := h.b.1; rw [uw_len] at this; omega⟩
theorem iw_set (ls : List Int) (j : Nat) (z : Int) : (iw ls).set j (.int .i64 z) = iw (ls.set j z) := by simp [iw, List.map_set]
theorem uw_set (es : List Nat) (j : Nat) (x : Nat) : (uw es).set j (.int .u64 (x : Int)) = uw (es.set j x) := by simp [uw, List.map_set]
theorem Own2.leaf (h : Own2 w base gA cA gB cB ls es) (j : Nat) (z : Int) : Own2 (w.setCell ⟨gA, j, none⟩ (.int .i64 z)) base gA cA gB cB (ls.set j z) es := by
  refine ⟨?_, own_side (p := ⟨gA, j, none⟩) h.b h.ne _, h.ne⟩
  have := (h.a.stored j (.int .i64 z)).1
  rwa [iw_set] at this
theorem Own2.entry (h : Own2 w base gA cA gB cB ls es) (j : Nat) (x : Nat) : Own2 (w.setCell ⟨gB, j, none⟩ (.int .u64 (x : Int))) base gA cA gB cB ls (es.set j x) := by
  refine ⟨own_side (p := ⟨gB, j, none⟩) h.a (fun e => h.ne e.symm) _, ?_, h.ne⟩
  have := (h.b.stored j (.int .u64 (x : Int))).1
  rwa [uw_set] at this
theorem Own2.far (h : Own2 w base gA cA gB cB ls es) {p : Addr} (hp : p.block < base) (u : Value) : Own2 (w.setCell p u) base gA cA gB cB ls es := ⟨own_far h.a hp u, own_far h.b hp u, h.ne⟩
theorem Own2.cap (h : Own2 w base gA cA gB cB ls es) : 8 ≤ cA := by
  rcases h.a.2 with ⟨h0, _⟩ | ⟨g2, cap2, cur, h1, _, _, hnc, _⟩
  · cases h0
  · injection h1 with _ _ h1; omega
theorem Own2.tbv (h : Own2 w base gA cA gB cB ls es) (r : Int) : TbV w (.agg #[.int .i64 r, .slice (some ⟨gA, 0, none⟩) 8 cA, .slice (some ⟨gB, 0, none⟩) 64 cB]) (r, ls, es) := by
  obtain ⟨h1, h2⟩ := h.lens
  have ha := Rd.own h.a
  have hb := Rd.own h.b
  refine ⟨some ⟨gA, 0, none⟩, cA, some ⟨gB, 0, none⟩, cB, by simp only [tabV, h1, h2], by rw [h1]; exact ha, by rw [h2]; exact hb, by rw [h1]; exact h.cap⟩
theorem Own2.leafAt (h : Own2 w base gA cA gB cB ls es) (j : Nat) (hj : j < 8) : w.cell? ⟨gA, j, none⟩ = some (.int .i64 (ls.getD j 0)) ∧ w.frozen? ⟨gA, j, none⟩ = false := by
  refine ⟨?_, h.a.frozenAt j⟩
  rw [h.a.cellAt j (by omega)]
  have := h.lens.1
  simp [iw, List.getElem?_eq_getElem (show j < ls.length by omega)]
theorem Own2.entryAt (h : Own2 w base gA cA gB cB ls es) (j : Nat) (hj : j < 64) : w.cell? ⟨gB, j, none⟩ = some (.int .u64 (es.getD j 0 : Nat)) ∧ w.frozen? ⟨gB, j, none⟩ = false := by
  refine ⟨?_, h.b.frozenAt j⟩
  rw [h.b.cellAt j (by omega)]
  have := h.lens.2
  simp [uw, List.getElem?_eq_getElem (show j < es.length by omega)]
end

end Go.Proofs.YtmjahjdnfijpkaaDoor
/- Page tables: the reference's Put, SetLeaf, empty, Clear and Trim. -/
namespace Go.Proofs.YtmjahjdnfijpkaaDoor
open Go Go.Proofs Go.RowKit
set_option linter.unusedSimpArgs false
set_option linter.unusedVariables false
set_option maxRecDepth 100000

theorem Own2.tloc {w : World} {base gA cA gB cB : Nat} {ls : List Int} {es : List Nat} (h : Own2 w base gA cA gB cB ls es) (r : Int) {lo : Nat} (hl : lo ≤ base) : TLoc lo (.agg #[.int .i64 r, .slice (some ⟨gA, 0, none⟩) 8 cA, .slice (some ⟨gB, 0, none⟩) 64 cB]) := by
  have h1 := h.lt
  intro r' A n c B m d e
  unfold tabV at e
  simp only [Value.agg.injEq, Array.mk.injEq, List.cons.injEq, Value.slice.injEq, and_true] at e
  obtain ⟨_, ⟨rfl, rfl, rfl⟩, rfl, rfl, rfl⟩ := e
  constructor
  · intro b off _ e2
    simp only [Option.some.injEq, Addr.mk.injEq, and_true] at e2
    omega
  · intro b off _ e2
    simp only [Option.some.injEq, Addr.mk.injEq, and_true] at e2
    omega

theorem uses_mem (r : Int) (ls : List Int) (f : Int) (h : ls.length = 8) : usesB r ls 8 f = true ↔ (f = r ∨ f ∈ ls) := by
  rw [usesB_iff]
  constructor
  · rintro (h1 | ⟨j, hj, h1⟩)
    · exact .inl h1.symm
    · rw [List.getD_eq_getElem?_getD, List.getElem?_eq_getElem (by omega)] at h1
      refine .inr ?_
      rw [← h1]
      simp
  · rintro (h1 | h1)
    · exact .inl h1.symm
    · obtain ⟨j, hj, h2⟩ := List.getElem_of_mem h1
      refine .inr ⟨j, by omega, ?_⟩
      rw [List.getD_eq_getElem?_getD, List.getElem?_eq_getElem hj]
      exact h2
theorem leafR_of (r : Int) (ls : List Int) (es : List Nat) (leaf frame : Int) (x : Int) (h : leafE r ls es leaf frame = x) (hx : x ≠ 0) : leafR r ls es leaf frame = (tb0, x) := by
  unfold leafR
  rw [if_pos (by rw [h]; exact hx), h]
theorem emptyB_no (es : List Nat) (leaf k : Nat) (hk : k < 8) (h : unpK (es.getD (leaf * 8 + k) 0) ≠ 0) : emptyB es leaf = false := by
  rw [Bool.eq_false_iff]
  intro h1
  have := List.all_eq_true.1 h1 k (List.mem_range.2 hk)
  exact h (by simpa using this)
theorem emptyB_yes (es : List Nat) (leaf : Nat) (h : ∀ k, k < 8 → unpK (es.getD (leaf * 8 + k) 0) = 0) : emptyB es leaf = true :=
  List.all_eq_true.2 fun k hk => by simpa using h k (List.mem_range.1 hk)
theorem Own2.keep {w w' : World} {B' base gA cA gB cB : Nat} {ls : List Int} {es : List Nat} (h : Own2 w base gA cA gB cB ls es) (hb : Below B' w w') (h1 : gA < B') (h2 : gB < B') : Own2 w' base gA cA gB cB ls es := by
  refine ⟨⟨h.a.1, ?_⟩, ⟨h.b.1, ?_⟩, h.ne⟩
  · rcases h.a.2 with hn | ⟨g, cap, cur, hv, hbg, hg, rest⟩
    · exact .inl hn
    · have e : g = gA := by injection hv with hv; injection hv with hv; injection hv with hv; exact hv.symm
      exact .inr ⟨g, cap, cur, hv, hbg, (hb.block g (by omega)).trans hg, rest⟩
  · rcases h.b.2 with hn | ⟨g, cap, cur, hv, hbg, hg, rest⟩
    · exact .inl hn
    · have e : g = gB := by injection hv with hv; injection hv with hv; injection hv with hv; exact hv.symm
      exact .inr ⟨g, cap, cur, hv, hbg, (hb.block g (by omega)).trans hg, rest⟩
theorem trimG_yes (ls : List Int) (es : List Nat) (k : Nat) (h : goneB ls es k = true) : trimG ls es (k + 1) = trimG ls es k ++ [ls.getD k 0] := by simp [trimG, List.range_succ, h]
theorem trimG_no (ls : List Int) (es : List Nat) (k : Nat) (h : goneB ls es k = false) : trimG ls es (k + 1) = trimG ls es k := by simp [trimG, List.range_succ, h]
theorem trimL_yes (ls : List Int) (es : List Nat) (k : Nat) (h : goneB ls es k = true) : trimL ls es (k + 1) = (trimL ls es k).set k (-1) := by simp [trimL, h]
theorem trimL_no (ls : List Int) (es : List Nat) (k : Nat) (h : goneB ls es k = false) : trimL ls es (k + 1) = trimL ls es k := by simp [trimL, h]
def TrimRel (w3 : World) (lo s3 gO gA cA gB cB : Nat) (r : Int) (ls : List Int) (es : List Nat) (v i : Value) (wr : World) : Prop :=
  ∃ k : Nat, k ≤ 8 ∧ i = .int .i64 k ∧ Own2 wr s3 gA cA gB cB (trimL ls es k) es ∧ Bk wr gO #[.int .i64 r, .slice (some ⟨gA, 0, none⟩) 8 cA, .slice (some ⟨gB, 0, none⟩) 64 cB] 26 ∧ wr.ownsRow lo 3 1 v (trimG ls es k).length (iw (trimG ls es k)) ∧ Below w3.heap.size w3 wr ∧ lo ≤ wr.heap.size

end Go.Proofs.YtmjahjdnfijpkaaDoor
