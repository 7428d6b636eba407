/- Page tables: the reference's own copy, whose rows may be written. -/
import Derived.Test.YtnmknbnidfmmoaaDoorTab20
import Derived.Laws.OwnMore
namespace Go.Proofs.YtnmknbnidfmmoaaDoor
open Go Go.Proofs Go.RowKit
set_option linter.unusedSimpArgs false
set_option linter.unusedVariables false
set_option maxRecDepth 100000

theorem step_append_own {P : Program} {ops : Array Oper} {o : Oper} {a : Act} {w : World} {K : Act → World → Prop} {Q : Exit → Act → World → Prop} {E : Prop}
    (hg : o.guard = none) (s x : Operand) (t : TypeId) (hop : o.op = Op.call { callee := Callee.builtin Builtin.append, args := #[s, x], argTypes := #[t, t] })
    (e : TypeId) (i : TypeInfo) (z : Value) (size bytes : Nat) (h1 : P.underlying t = some (.slice e)) (h2 : P.info? e = some i) (h3 : i.zero = some z) (h4 : i.size = size) (h5 : i.bytes = bytes) (h6 : z.cells.size = size) (h7 : 0 < size)
    (g : Addr) (hs : a.eval s = .slice (some g) 0 0)
    (A : Option Addr) (m c : Nat) (news : List Value) (hx : a.eval x = .slice A m c) (hr : Rd w size A m news) (h1c : ∀ u ∈ news, u.oneCell' = true)
    (b1 : m ≤ maxLen) (b2 : m * bytes ≤ 140737488355328) (h0 : 0 < m)
    (hK : ∀ (g' c' : Nat) w', w'.ownsRow w.heap.size e size (.slice (some ⟨g', 0, none⟩) m c') m news → Below w.heap.size w w' → K (a.put o.dst (.slice (some ⟨g', 0, none⟩) m c')) w') :
    if Region.wanted o (yielded ops a.tmps) = true then Oper.wp P o a w K Q else E := by
  obtain ⟨b, off, rfl, hb, hc⟩ := hr.2 h0
  refine step_append_grows hg s x t hop e i z size bytes h1 h2 h3 h4 h5 h6 h7 (some g) 0 0 [] hs (fun h => by cases h) (by simp) (fun _ _ j u hu => by simp at hu) ⟨b, off, none⟩ m c news hx hr.1 (fun j u hu => by rw [Addr.add_mid]; exact hc j u hu) h1c (by omega) (by simpa using b1) (by simpa using b2) ?_
  intro v' w' hown hgrow
  rw [Nat.zero_add, List.nil_append] at hown
  obtain ⟨g', cap, hv, _, hlt⟩ := hown.form h0
  subst hv
  exact hK _ _ _ hown ((Below.refl _ w).grown hgrow (Nat.le_refl _) (fun k e => by cases e))

/-- A table of a call's own: its rows may be written. -/
structure Own2 (w : World) (base gA cA gB cB : Nat) (ls : List Int) (es : List Nat) : Prop where
  a : w.ownsRow base 3 1 (.slice (some ⟨gA, 0, none⟩) 8 cA) 8 (iw ls)
  b : w.ownsRow base 66 1 (.slice (some ⟨gB, 0, none⟩) 64 cB) 64 (uw es)
  ne : gA ≠ gB
section
variable {w : World} {base gA cA gB cB : Nat} {ls : List Int} {es : List Nat}
theorem Own2.to {w' : World} (h : Own2 w base gA cA gB cB ls es) (hb : Below w.heap.size w w') : Own2 w' base gA cA gB cB ls es := ⟨own_below h.a hb, own_below h.b hb, h.ne⟩
theorem Own2.alloc (h : Own2 w base gA cA gB cB ls es) (o : Obj) : Own2 (w.alloc o) base gA cA gB cB ls es := h.to (balloc (Below.refl _ _) o)
theorem Own2.drew (h : Own2 w base gA cA gB cB ls es) : Own2 w.drew base gA cA gB cB ls es := h.to (below_drew (Below.refl _ _))
theorem Own2.less {base' : Nat} (h : Own2 w base gA cA gB cB ls es) (hb : base' ≤ base) : Own2 w base' gA cA gB cB ls es := ⟨own_less h.a hb, own_less h.b hb, h.ne⟩
theorem Own2.lt (h : Own2 w base gA cA gB cB ls es) : (base ≤ gA ∧ gA < w.heap.size) ∧ base ≤ gB ∧ gB < w.heap.size := ⟨h.a.lt gA rfl, h.b.lt gB rfl⟩
theorem Own2.lens (h : Own2 w base gA cA gB cB ls es) : ls.length = 8 ∧ es.length = 64 := ⟨by have := h.a.1; rw [iw_len] at this; omega, by have := h.b.1; rw [uw_len] at this; omega⟩
theorem iw_set (ls : List Int) (j : Nat) (z : Int) : (iw ls).set j (.int .i64 z) = iw (ls.set j z) := by simp [iw, List.map_set]
theorem uw_set (es : List Nat) (j : Nat) (x : Nat) : (uw es).set j (.int .u64 (x : Int)) = uw (es.set j x) := by simp [uw, List.map_set]
theorem Own2.leaf (h : Own2 w base gA cA gB cB ls es) (j : Nat) (z : Int) : Own2 (w.setCell ⟨gA, j, none⟩ (.int .i64 z)) base gA cA gB cB (ls.set j z) es := by
  refine ⟨?_, own_side (p := ⟨gA, j, none⟩) h.b h.ne _, h.ne⟩
  have := (h.a.stored j (.int .i64 z)).1
  rwa [iw_set] at this
theorem Own2.entry (h : Own2 w base gA cA gB cB ls es) (j : Nat) (x : Nat) : Own2 (w.setCell ⟨gB, j, none⟩ (.int .u64 (x : Int))) base gA cA gB cB ls (es.set j x) := by
  refine ⟨own_side (p := ⟨gB, j, none⟩) h.a (fun e => h.ne e.symm) _, ?_, h.ne⟩
  have := (h.b.stored j (.int .u64 (x : Int))).1
  rwa [uw_set] at this
theorem Own2.far (h : Own2 w base gA cA gB cB ls es) {p : Addr} (hp : p.block < base) (u : Value) : Own2 (w.setCell p u) base gA cA gB cB ls es := ⟨own_far h.a hp u, own_far h.b hp u, h.ne⟩
theorem Own2.cap (h : Own2 w base gA cA gB cB ls es) : 8 ≤ cA := by
  rcases h.a.2 with ⟨h0, _⟩ | ⟨g2, cap2, cur, h1, _, _, hnc, _⟩
  · cases h0
  · injection h1 with _ _ h1; omega
theorem Own2.tbv (h : Own2 w base gA cA gB cB ls es) (r : Int) : TbV w (.agg #[.int .i64 r, .slice (some ⟨gA, 0, none⟩) 8 cA, .slice (some ⟨gB, 0, none⟩) 64 cB]) (r, ls, es) := by
  obtain ⟨h1, h2⟩ := h.lens
  have ha := Rd.own h.a
  have hb := Rd.own h.b
  refine ⟨some ⟨gA, 0, none⟩, cA, some ⟨gB, 0, none⟩, cB, by simp only [tabV, h1, h2], by rw [h1]; exact ha, by rw [h2]; exact hb, by rw [h1]; exact h.cap⟩
theorem Own2.leafAt (h : Own2 w base gA cA gB cB ls es) (j : Nat) (hj : j < 8) : w.cell? ⟨gA, j, none⟩ = some (.int .i64 (ls.getD j 0)) ∧ w.frozen? ⟨gA, j, none⟩ = false := by
  refine ⟨?_, h.a.frozenAt j⟩
  rw [h.a.cellAt j (by omega)]
  have := h.lens.1
  simp [iw, List.getElem?_eq_getElem (show j < ls.length by omega)]
theorem Own2.entryAt (h : Own2 w base gA cA gB cB ls es) (j : Nat) (hj : j < 64) : w.cell? ⟨gB, j, none⟩ = some (.int .u64 (es.getD j 0 : Nat)) ∧ w.frozen? ⟨gB, j, none⟩ = false := by
  refine ⟨?_, h.b.frozenAt j⟩
  rw [h.b.cellAt j (by omega)]
  have := h.lens.2
  simp [uw, List.getElem?_eq_getElem (show j < es.length by omega)]
end

set_option maxHeartbeats 4000000 in
theorem rOwn2_any (r : Int) (ls : List Int) (es : List Nat) (A B : Option Addr) (c d : Nat) (w : World) (hA : Rd w 1 A ls.length (iw ls)) (hB : Rd w 1 B es.length (uw es)) (hn : ls.length = 8) (hm : es.length = 64) :
    Calls Tryd.prog 56 #[tabV r A ls.length c B es.length d] w fun e w' => ∃ gA cA gB cB, e = .returned (.agg #[.int .i64 r, .slice (some ⟨gA, 0, none⟩) 8 cA, .slice (some ⟨gB, 0, none⟩) 64 cB]) ∧ Own2 w' w.heap.size gA cA gB cB ls es ∧ Below w.heap.size w w' := by
  have hn1 : ls.length ≤ 1000 ∧ 0 < ls.length := by omega
  have hm1 : es.length ≤ 1000 ∧ 0 < es.length := by omega
  have HN := Lib.hid hn
  have HM := Lib.hid hm
  clear hn hm
  obtain ⟨i0, hi, hz0, hz1, hz2⟩ := info_parts infoInt
  obtain ⟨j0, hj, hy0, hy1, hy2⟩ := info_parts infoU64
  unfold tabV
  have kT := (Bk.new w #[.int .i64 r, .slice A ls.length c, .slice B es.length d] 25).alloc (.cells #[.int .i64 0, .slice none 0 0, .slice none 0 0] 25)
  have kR := Bk.new (w.alloc (.cells #[.int .i64 r, .slice A ls.length c, .slice B es.length d] 25)) #[.int .i64 0, .slice none 0 0, .slice none 0 0] 25
  rw [World.size_alloc] at kR
  have hB1 := balloc (balloc (Below.refl _ w) (.cells #[.int .i64 r, .slice A ls.length c, .slice B es.length d] 25)) (.cells #[.int .i64 0, .slice none 0 0, .slice none 0 0] 25)
  generalize hw1 : (w.alloc (.cells #[.int .i64 r, .slice A ls.length c, .slice B es.length d] 25)).alloc (.cells #[.int .i64 0, .slice none 0 0, .slice none 0 0] 25) = w1 at *
  have hA1 := hA.below hB1 (Nat.le_refl _)
  have hE1 := hB.below hB1 (Nat.le_refl _)
  have c0 := kT.cell 0
  have c1 := kT.cell 1
  have c2 := kT.cell 2
  simp at c0 c1 c2
  have hsR := kR.lt
  go_enter Tryd.func56, Tryd.ntmps56
  go_wp2_with fail
  go_region_held3 (fun w' => w'.cell? ⟨w.heap.size, 0, none⟩ = some (.int .i64 r) ∧ w'.cell? ⟨w.heap.size, 1, none⟩ = some (.slice A ls.length c) ∧ w'.cell? ⟨w.heap.size, 2, none⟩ = some (.slice B es.length d))
    (refine ⟨?_, ?_, ?_⟩ <;> (repeat (with_reducible first | exact c0 | exact c1 | exact c2 | refine cell_drew ?_ | refine cell_later hbI ?_ | refine cell_later hbU ?_ | refine cell_alloc _ ?_ | refine cell_far ?_ (by simp) _)))
    (first
      | (refine step_append_own rfl _ _ 22 rfl 3 i0 (.int .i64 0) 1 8 Tryd.underlying22 hi hz0 hz1 hz2 rfl (by decide) _ rfl A ls.length c (iw ls) rfl (by repeat (with_reducible first | exact hA1 | refine Rd.drew1 ?_ | refine Rd.to ?_ hbU | refine Rd.alloc ?_ _)) (oneCells_int _ _) (by simp only [maxLen]; omega) (by omega) (by omega) ?_
         intro gI cI wI hoI hbI
         have hsI : w1.heap.size ≤ wI.heap.size := Nat.le_trans (by (try simp only [World.size_alloc, World.size_drew]); omega) hbI.size
         have hlI := hoI.lt gI rfl
         have kRI : Bk wI (w.heap.size + 1) #[.int .i64 0, .slice none 0 0, .slice none 0 0] 25 := by repeat (with_reducible first | exact kR | refine Bk.to ?_ hbI | refine Bk.to ?_ hbU | refine Bk.drew ?_ | refine Bk.alloc ?_ _)
         obtain ⟨cRI, fRI, lRI⟩ := kRI.facts)
      | (refine step_append_own rfl _ _ 23 rfl 66 j0 (.int .u64 0) 1 8 Tryd.underlying23 hj hy0 hy1 hy2 rfl (by decide) _ rfl B es.length d (uw es) rfl (by repeat (with_reducible first | exact hE1 | refine Rd.drew1 ?_ | refine Rd.to ?_ hbI | refine Rd.alloc ?_ _)) (oneCells_uw _) (by simp only [maxLen]; omega) (by omega) (by omega) ?_
         intro gU cU wU hoU hbU
         have hlU := hoU.lt gU rfl
         have kRU : Bk wU (w.heap.size + 1) #[.int .i64 0, .slice none 0 0, .slice none 0 0] 25 := by repeat (with_reducible first | exact kR | refine Bk.to ?_ hbU | refine Bk.to ?_ hbI | refine Bk.drew ?_ | refine Bk.alloc ?_ _)
         obtain ⟨cRU, fRU, lRU⟩ := kRU.facts))
  all_goals
    have hBU : Below w.heap.size w wU := by repeat (with_reducible first | exact hB1 | refine bnext ?_ hbU | refine bnext ?_ hbI | refine below_drew ?_ | refine balloc ?_ _)
    simp only [World.size_alloc, World.size_drew] at hlI hlU
    have hn := HN.out
    have hm := HM.out
    have hoI1 := own_less (base' := w.heap.size + 1 + 1) hoI (by (try simp only [World.size_alloc, World.size_drew]); omega)
    have hoU1 := own_less (base' := w.heap.size + 1 + 1) hoU (by (try simp only [World.size_alloc, World.size_drew]); omega)
    have hoI2 : wU.ownsRow (w.heap.size + 1 + 1) 3 1 (.slice (some ⟨gI, 0, none⟩) ls.length cI) ls.length (iw ls) := by repeat (with_reducible first | exact hoI1 | refine own_below ?_ hbU | refine World.ownsRow.alloc ?_ _)
    rw [hn] at hoI2
    rw [hm] at hoU1
    have hO : Own2 wU (w.heap.size + 1 + 1) gI cI gU cU ls es := ⟨hoI2, hoU1, by omega⟩
    have kF := kRU.put3 (.int .i64 r) (.slice (some ⟨gI, 0, none⟩) ls.length cI) (.slice (some ⟨gU, 0, none⟩) es.length cU)
    have hBF := below_put3 hBU (g := w.heap.size + 1) (by omega) (.int .i64 r) (.slice (some ⟨gI, 0, none⟩) ls.length cI) (.slice (some ⟨gU, 0, none⟩) es.length cU)
    have hOF := ((hO.far (p := ⟨w.heap.size + 1, 0, none⟩) (by show _ < _; simp only; omega) (.int .i64 r)).far (p := ⟨w.heap.size + 1, 1, none⟩) (by show _ < _; simp only; omega) (.slice (some ⟨gI, 0, none⟩) ls.length cI)).far (p := ⟨w.heap.size + 1, 2, none⟩) (by show _ < _; simp only; omega) (.slice (some ⟨gU, 0, none⟩) es.length cU)
    clear hn hm
    go_wp2_with fail
    have hn := HN.out
    have hm := HM.out
    rw [hn, hm] at kF hBF hOF
    try rw [hn]
    try rw [hm]
    exact bodyPost_ret (kF.res1 (P := Tryd.prog) rfl _ rfl (by kernel_rfl) (by kernel_rfl)) rfl ⟨_, _, _, _, rfl, hOF.less (by omega), hBF⟩
end Go.Proofs.YtnmknbnidfmmoaaDoor
