/- Several texts in one. -/
import Derived.Test.YtpkgfkhaiifooaaDoorGY
import Derived.Deep.OwnRows
import Derived.Test.YtpkgfkhaiifooaaDoorGX
import Derived.Laws.OwnMore
import Derived.Test.YtpkgfkhaiifooaaDoorMadeP
import Derived.Deep.RegionHeld3
/- Page tables: the reference's New. -/
namespace Go.Proofs.YtpkgfkhaiifooaaDoor
open Go Go.Proofs Go.RowKit
set_option linter.unusedSimpArgs false
set_option linter.unusedVariables false
set_option maxRecDepth 100000

end Go.Proofs.YtpkgfkhaiifooaaDoor
/- Page tables: the reference's own copy, whose rows may be written. -/
namespace Go.Proofs.YtpkgfkhaiifooaaDoor
open Go Go.Proofs Go.RowKit
set_option linter.unusedSimpArgs false
set_option linter.unusedVariables false
set_option maxRecDepth 100000

theorem step_append_own {P : Program} {ops : Array Oper} {o : Oper} {a : Act} {w : World} {K : Act → World → Prop} {Q : Exit → Act → World → Prop} {E : Prop}
    (hg : o.guard = none) (s x : Operand) (t : TypeId) (hop : o.op = Op.call { callee := Callee.builtin Builtin.append, args := #[s, x], argTypes := #[t, t] })
    (e : TypeId) (i : TypeInfo) (z : Value) (size bytes : Nat) (h1 : P.underlying t = some (.slice e)) (h2 : P.info? e = some i) (h3 : i.zero = some z) (h4 : i.size = size) (h5 : i.bytes = bytes) (h6 : z.cells.size = size) (h7 : 0 < size)
    (g : Addr) (hs : a.eval s = .slice (some g) 0 0)
    (A : Option Addr) (m c : Nat) (news : List Value) (hx : a.eval x = .slice A m c) (hr : Rd w size A m news) (h1c : ∀ u ∈ news, u.oneCell' = true)
    (b1 : m ≤ maxLen) (b2 : m * bytes ≤ 140737488355328) (h0 : 0 < m)
    (hK : ∀ (g' c' : Nat) w', w'.ownsRow w.heap.size e size (.slice (some ⟨g', 0, none⟩) m c') m news → Below w.heap.size w w' → K (a.put o.dst (.slice (some ⟨g', 0, none⟩) m c')) w') :
    if Region.wanted o (yielded ops a.tmps) = true then Oper.wp P o a w K Q else E := by
  obtain ⟨b, off, rfl, hb, hc⟩ := hr.2 h0
  refine step_append_grows hg s x t hop e i z size bytes h1 h2 h3 h4 h5 h6 h7 (some g) 0 0 [] hs (fun h => by cases h) (by simp) (fun _ _ j u hu => by simp at hu) ⟨b, off, none⟩ m c news hx hr.1 (fun j u hu => by rw [Addr.add_mid]; exact hc j u hu) h1c (by omega) (by simpa using b1) (by simpa using b2) ?_
  intro v' w' hown hgrow
  rw [Nat.zero_add, List.nil_append] at hown
  obtain ⟨g', cap, hv, _, hlt⟩ := hown.form h0
  subst hv
  exact hK _ _ _ hown ((Below.refl _ w).grown hgrow (Nat.le_refl _) (fun k e => by cases e))

/-- A table of a call's own: its rows may be written. -/
structure Own2 (w : World) (base gA cA gB cB : Nat) (ls : List Int) (es : List Nat) : Prop where
  a : w.ownsRow base 3 1 (.slice (some ⟨gA, 0, none⟩) 8 cA) 8 (iw ls)
  b : w.ownsRow base 92 1 (.slice (some ⟨gB, 0, none⟩) 64 cB) 64 (uw es)
  ne : gA ≠ gB
section
variable {w : World} {base gA cA gB cB : Nat} {ls : List Int} {es : List Nat}
theorem Own2.to {w' : World} (h : Own2 w base gA cA gB cB ls es) (hb : Below w.heap.size w w') : Own2 w' base gA cA gB cB ls es := ⟨own_below h.a hb, own_below h.b hb, h.ne⟩
theorem Own2.alloc (h : Own2 w base gA cA gB cB ls es) (o : Obj) : Own2 (w.alloc o) base gA cA gB cB ls es := h.to (balloc (Below.refl _ _) o)
theorem Own2.drew (h : Own2 w base gA cA gB cB ls es) : Own2 w.drew base gA cA gB cB ls es := h.to (below_drew (Below.refl _ _))
theorem Own2.less {base' : Nat} (h : Own2 w base gA cA gB cB ls es) (hb : base' ≤ base) : Own2 w base' gA cA gB cB ls es := ⟨own_less h.a hb, own_less h.b hb, h.ne⟩
theorem Own2.lt (h : Own2 w base gA cA gB cB ls es) : (base ≤ gA ∧ gA < w.heap.size) ∧ base ≤ gB ∧ gB < w.heap.size := ⟨h.a.lt gA rfl, h.b.lt gB rfl⟩
theorem Own2.lens (h : Own2 w base gA cA gB cB ls es) : ls.length = 8 ∧ es.length = 64 := ⟨by have := h.a.1; rw [iw_len] at this; omega, by have := h.b.1; rw [uw_len] at this; omega⟩
theorem iw_set (ls : List Int) (j : Nat) (z : Int) : (iw ls).set j (.int .i64 z) = iw (ls.set j z) := by simp [iw, List.map_set]
theorem uw_set (es : List Nat) (j : Nat) (x : Nat) : (uw es).set j (.int .u64 (x : Int)) = uw (es.set j x) := by simp [uw, List.map_set]
theorem Own2.leaf (h : Own2 w base gA cA gB cB ls es) (j : Nat) (z : Int) : Own2 (w.setCell ⟨gA, j, none⟩ (.int .i64 z)) base gA cA gB cB (ls.set j z) es := by
  refine ⟨?_, own_side (p := ⟨gA, j, none⟩) h.b h.ne _, h.ne⟩
  have := (h.a.stored j (.int .i64 z)).1
  rwa [iw_set] at this
theorem Own2.entry (h : Own2 w base gA cA gB cB ls es) (j : Nat) (x : Nat) : Own2 (w.setCell ⟨gB, j, none⟩ (.int .u64 (x : Int))) base gA cA gB cB ls (es.set j x) := by
  refine ⟨own_side (p := ⟨gB, j, none⟩) h.a (fun e => h.ne e.symm) _, ?_, h.ne⟩
  have := (h.b.stored j (.int .u64 (x : Int))).1
  rwa [uw_set] at this
theorem Own2.far (h : Own2 w base gA cA gB cB ls es) {p : Addr} (hp : p.block < base) (u : Value) : Own2 (w.setCell p u) base gA cA gB cB ls es := ⟨own_far h.a hp u, own_far h.b hp u, h.ne⟩
theorem Own2.cap (h : Own2 w base gA cA gB cB ls es) : 8 ≤ cA := by
  rcases h.a.2 with ⟨h0, _⟩ | ⟨g2, cap2, cur, h1, _, _, hnc, _⟩
  · cases h0
  · injection h1 with _ _ h1; omega
theorem Own2.tbv (h : Own2 w base gA cA gB cB ls es) (r : Int) : TbV w (.agg #[.int .i64 r, .slice (some ⟨gA, 0, none⟩) 8 cA, .slice (some ⟨gB, 0, none⟩) 64 cB]) (r, ls, es) := by
  obtain ⟨h1, h2⟩ := h.lens
  have ha := Rd.own h.a
  have hb := Rd.own h.b
  refine ⟨some ⟨gA, 0, none⟩, cA, some ⟨gB, 0, none⟩, cB, by simp only [tabV, h1, h2], by rw [h1]; exact ha, by rw [h2]; exact hb, by rw [h1]; exact h.cap⟩
theorem Own2.leafAt (h : Own2 w base gA cA gB cB ls es) (j : Nat) (hj : j < 8) : w.cell? ⟨gA, j, none⟩ = some (.int .i64 (ls.getD j 0)) ∧ w.frozen? ⟨gA, j, none⟩ = false := by
  refine ⟨?_, h.a.frozenAt j⟩
  rw [h.a.cellAt j (by omega)]
  have := h.lens.1
  simp [iw, List.getElem?_eq_getElem (show j < ls.length by omega)]
theorem Own2.entryAt (h : Own2 w base gA cA gB cB ls es) (j : Nat) (hj : j < 64) : w.cell? ⟨gB, j, none⟩ = some (.int .u64 (es.getD j 0 : Nat)) ∧ w.frozen? ⟨gB, j, none⟩ = false := by
  refine ⟨?_, h.b.frozenAt j⟩
  rw [h.b.cellAt j (by omega)]
  have := h.lens.2
  simp [uw, List.getElem?_eq_getElem (show j < es.length by omega)]
end

set_option maxHeartbeats 4000000 in
theorem rOwn2_any (r : Int) (ls : List Int) (es : List Nat) (A B : Option Addr) (c d : Nat) (w : World) (hA : Rd w 1 A ls.length (iw ls)) (hB : Rd w 1 B es.length (uw es)) (hn : ls.length = 8) (hm : es.length = 64) :
    Calls Tryd.prog 87 #[tabV r A ls.length c B es.length d] w fun e w' => ∃ gA cA gB cB, e = .returned (.agg #[.int .i64 r, .slice (some ⟨gA, 0, none⟩) 8 cA, .slice (some ⟨gB, 0, none⟩) 64 cB]) ∧ Own2 w' w.heap.size gA cA gB cB ls es ∧ Below w.heap.size w w' := by
  have hn1 : ls.length ≤ 1000 ∧ 0 < ls.length := by omega
  have hm1 : es.length ≤ 1000 ∧ 0 < es.length := by omega
  have HN := Lib.hid hn
  have HM := Lib.hid hm
  clear hn hm
  obtain ⟨i0, hi, hz0, hz1, hz2⟩ := info_parts infoInt
  obtain ⟨j0, hj, hy0, hy1, hy2⟩ := info_parts infoU64
  unfold tabV
  have kT := (Bk.new w #[.int .i64 r, .slice A ls.length c, .slice B es.length d] 26).alloc (.cells #[.int .i64 0, .slice none 0 0, .slice none 0 0] 26)
  have kR := Bk.new (w.alloc (.cells #[.int .i64 r, .slice A ls.length c, .slice B es.length d] 26)) #[.int .i64 0, .slice none 0 0, .slice none 0 0] 26
  rw [World.size_alloc] at kR
  have hB1 := balloc (balloc (Below.refl _ w) (.cells #[.int .i64 r, .slice A ls.length c, .slice B es.length d] 26)) (.cells #[.int .i64 0, .slice none 0 0, .slice none 0 0] 26)
  generalize hw1 : (w.alloc (.cells #[.int .i64 r, .slice A ls.length c, .slice B es.length d] 26)).alloc (.cells #[.int .i64 0, .slice none 0 0, .slice none 0 0] 26) = w1 at *
  have hA1 := hA.below hB1 (Nat.le_refl _)
  have hE1 := hB.below hB1 (Nat.le_refl _)
  have c0 := kT.cell 0
  have c1 := kT.cell 1
  have c2 := kT.cell 2
  simp at c0 c1 c2
  have hsR := kR.lt
  go_enter Tryd.func87, Tryd.ntmps87
  go_wp2_with fail
  go_region_held3 (fun w' => w'.cell? ⟨w.heap.size, 0, none⟩ = some (.int .i64 r) ∧ w'.cell? ⟨w.heap.size, 1, none⟩ = some (.slice A ls.length c) ∧ w'.cell? ⟨w.heap.size, 2, none⟩ = some (.slice B es.length d))
    (refine ⟨?_, ?_, ?_⟩ <;> (repeat (with_reducible first | exact c0 | exact c1 | exact c2 | refine cell_drew ?_ | refine cell_later hbI ?_ | refine cell_later hbU ?_ | refine cell_alloc _ ?_ | refine cell_far ?_ (by simp) _)))
    (first
      | (refine step_append_own rfl _ _ 22 rfl 3 i0 (.int .i64 0) 1 8 Tryd.underlying22 hi hz0 hz1 hz2 rfl (by decide) _ rfl A ls.length c (iw ls) rfl (by repeat (with_reducible first | exact hA1 | refine Rd.drew1 ?_ | refine Rd.to ?_ hbU | refine Rd.alloc ?_ _)) (oneCells_int _ _) (by simp only [maxLen]; omega) (by omega) (by omega) ?_
         intro gI cI wI hoI hbI
         have hsI : w1.heap.size ≤ wI.heap.size := Nat.le_trans (by (try simp only [World.size_alloc, World.size_drew]); omega) hbI.size
         have hlI := hoI.lt gI rfl
         have kRI : Bk wI (w.heap.size + 1) #[.int .i64 0, .slice none 0 0, .slice none 0 0] 26 := by repeat (with_reducible first | exact kR | refine Bk.to ?_ hbI | refine Bk.to ?_ hbU | refine Bk.drew ?_ | refine Bk.alloc ?_ _)
         obtain ⟨cRI, fRI, lRI⟩ := kRI.facts)
      | (refine step_append_own rfl _ _ 24 rfl 92 j0 (.int .u64 0) 1 8 Tryd.underlying24 hj hy0 hy1 hy2 rfl (by decide) _ rfl B es.length d (uw es) rfl (by repeat (with_reducible first | exact hE1 | refine Rd.drew1 ?_ | refine Rd.to ?_ hbI | refine Rd.alloc ?_ _)) (oneCells_uw _) (by simp only [maxLen]; omega) (by omega) (by omega) ?_
         intro gU cU wU hoU hbU
         have hlU := hoU.lt gU rfl
         have kRU : Bk wU (w.heap.size + 1) #[.int .i64 0, .slice none 0 0, .slice none 0 0] 26 := by repeat (with_reducible first | exact kR | refine Bk.to ?_ hbU | refine Bk.to ?_ hbI | refine Bk.drew ?_ | refine Bk.alloc ?_ _)
         obtain ⟨cRU, fRU, lRU⟩ := kRU.facts))
  all_goals
    have hBU : Below w.heap.size w wU := by repeat (with_reducible first | exact hB1 | refine bnext ?_ hbU | refine bnext ?_ hbI | refine below_drew ?_ | refine balloc ?_ _)
    simp only [World.size_alloc, World.size_drew] at hlI hlU
    have hn := HN.out
    have hm := HM.out
    have hoI1 := own_less (base' := w.heap.size + 1 + 1) hoI (by (try simp only [World.size_alloc, World.size_drew]); omega)
    have hoU1 := own_less (base' := w.heap.size + 1 + 1) hoU (by (try simp only [World.size_alloc, World.size_drew]); omega)
    have hoI2 : wU.ownsRow (w.heap.size + 1 + 1) 3 1 (.slice (some ⟨gI, 0, none⟩) ls.length cI) ls.length (iw ls) := by repeat (with_reducible first | exact hoI1 | refine own_below ?_ hbU | refine World.ownsRow.alloc ?_ _)
    rw [hn] at hoI2
    rw [hm] at hoU1
    have hO : Own2 wU (w.heap.size + 1 + 1) gI cI gU cU ls es := ⟨hoI2, hoU1, by omega⟩
    have kF := kRU.put3 (.int .i64 r) (.slice (some ⟨gI, 0, none⟩) ls.length cI) (.slice (some ⟨gU, 0, none⟩) es.length cU)
    have hBF := below_put3 hBU (g := w.heap.size + 1) (by omega) (.int .i64 r) (.slice (some ⟨gI, 0, none⟩) ls.length cI) (.slice (some ⟨gU, 0, none⟩) es.length cU)
    have hOF := ((hO.far (p := ⟨w.heap.size + 1, 0, none⟩) (by show _ < _; simp only; omega) (.int .i64 r)).far (p := ⟨w.heap.size + 1, 1, none⟩) (by show _ < _; simp only; omega) (.slice (some ⟨gI, 0, none⟩) ls.length cI)).far (p := ⟨w.heap.size + 1, 2, none⟩) (by show _ < _; simp only; omega) (.slice (some ⟨gU, 0, none⟩) es.length cU)
    clear hn hm
    go_wp2_with fail
    have hn := HN.out
    have hm := HM.out
    rw [hn, hm] at kF hBF hOF
    try rw [hn]
    try rw [hm]
    exact bodyPost_ret (kF.res1 (P := Tryd.prog) rfl _ rfl (by kernel_rfl) (by kernel_rfl)) rfl ⟨_, _, _, _, rfl, hOF.less (by omega), hBF⟩
end Go.Proofs.YtpkgfkhaiifooaaDoor
/- Page tables: the reference's Put, SetLeaf, empty, Clear and Trim. -/
namespace Go.Proofs.YtpkgfkhaiifooaaDoor
open Go Go.Proofs Go.RowKit
set_option linter.unusedSimpArgs false
set_option linter.unusedVariables false
set_option maxRecDepth 100000

theorem Own2.tloc {w : World} {base gA cA gB cB : Nat} {ls : List Int} {es : List Nat} (h : Own2 w base gA cA gB cB ls es) (r : Int) {lo : Nat} (hl : lo ≤ base) : TLoc lo (.agg #[.int .i64 r, .slice (some ⟨gA, 0, none⟩) 8 cA, .slice (some ⟨gB, 0, none⟩) 64 cB]) := by
  have h1 := h.lt
  intro r' A n c B m d e
  unfold tabV at e
  simp only [Value.agg.injEq, Array.mk.injEq, List.cons.injEq, Value.slice.injEq, and_true] at e
  obtain ⟨_, ⟨rfl, rfl, rfl⟩, rfl, rfl, rfl⟩ := e
  constructor
  · intro b off _ e2
    simp only [Option.some.injEq, Addr.mk.injEq, and_true] at e2
    omega
  · intro b off _ e2
    simp only [Option.some.injEq, Addr.mk.injEq, and_true] at e2
    omega

set_option maxHeartbeats 1000000 in
theorem rPut_bad1 (r : Int) (ls : List Int) (es : List Nat) (v : Value) (page k n : Int) (a b f : Bool) (w : World) (hv : TbV w v (r, ls, es)) (hs : wsmall es) (hE : askE r ls es page ≠ 0) :
    Calls Tryd.prog 53 #[v, .int .i64 page, .agg #[.int .i64 k, .int .i64 n, .bool a, .bool b, .bool f]] w fun e w' => TbRes w w' tb0 (askE r ls es page) e := by
  have hlk : lackR r ls es page = (false, askE r ls es page) := by unfold lackR; rw [if_pos hE]
  have hd : (askE r ls es page != 0) = true := by simpa using hE
  clear hE
  obtain ⟨A, c, B, d, rfl, hA, hB, hcc⟩ := id hv
  simp only at hA hB hcc
  unfold tabV at hv ⊢
  simp only at hv ⊢
  have kT := ((Bk.new (w) #[.int .i64 r, .slice A ls.length c, .slice B es.length d] 26).alloc (.cells #[.int .i64 k, .int .i64 n, .bool a, .bool b, .bool f] 38)).alloc (.cells #[.int .i64 0, .slice none 0 0, .slice none 0 0] 26)
  have kX := (Bk.new (w.alloc (.cells #[.int .i64 r, .slice A ls.length c, .slice B es.length d] 26)) #[.int .i64 k, .int .i64 n, .bool a, .bool b, .bool f] 38).alloc (.cells #[.int .i64 0, .slice none 0 0, .slice none 0 0] 26)
  simp only [World.size_alloc] at kX
  have kR := Bk.new ((w.alloc (.cells #[.int .i64 r, .slice A ls.length c, .slice B es.length d] 26)).alloc (.cells #[.int .i64 k, .int .i64 n, .bool a, .bool b, .bool f] 38)) #[.int .i64 0, .slice none 0 0, .slice none 0 0] 26
  simp only [World.size_alloc] at kR
  have hB1 := balloc (balloc (balloc (Below.refl _ w) (.cells #[.int .i64 r, .slice A ls.length c, .slice B es.length d] 26)) (.cells #[.int .i64 k, .int .i64 n, .bool a, .bool b, .bool f] 38)) (.cells #[.int .i64 0, .slice none 0 0, .slice none 0 0] 26)
  generalize hw_w1 : ((w.alloc (.cells #[.int .i64 r, .slice A ls.length c, .slice B es.length d] 26)).alloc (.cells #[.int .i64 k, .int .i64 n, .bool a, .bool b, .bool f] 38)).alloc (.cells #[.int .i64 0, .slice none 0 0, .slice none 0 0] 26) = w1 at *
  obtain ⟨cT, fT, lT⟩ := kT.facts
  obtain ⟨cX, fX, lX⟩ := kX.facts
  obtain ⟨cR, fR, lR⟩ := kR.facts
  go_enter Tryd.func53, Tryd.ntmps53
  go_wp2_with fail
  refine (rLacks_any r ls es _ page _ (hv.to hB1) hs).mono ?_
  rw [hlk]
  rintro e w2 ⟨rfl, hb2⟩
  clear hw_w1
  replace kT := kT.to hb2
  replace kX := kX.to hb2
  replace kR := kR.to hb2
  clear cT fT lT cX fX lX cR fR lR
  obtain ⟨cT, fT, lT⟩ := kT.facts
  obtain ⟨cX, fX, lX⟩ := kX.facts
  obtain ⟨cR, fR, lR⟩ := kR.facts
  replace hB1 := bnext hB1 hb2
  go_wp2_with fail
  have kF := kR.put3 (.int .i64 0) (.slice none 0 0) (.slice none 0 0)
  have hBF := below_put3 (hB1) (g := w.heap.size + 1 + 1) (by omega) (.int .i64 0) (.slice none 0 0) (.slice none 0 0)
  exact bodyPost_ret (kF.res2 (P := Tryd.prog) rfl _ rfl (by kernel_rfl) (by kernel_rfl)) rfl ⟨_, rfl, TbV.zero _, TLoc.zero _ _, hBF⟩

set_option maxHeartbeats 1000000 in
theorem rPut_bad2 (r : Int) (ls : List Int) (es : List Nat) (v : Value) (page k n : Int) (a b f : Bool) (w : World) (hv : TbV w v (r, ls, es)) (hs : wsmall es) (hE : askE r ls es page = 0) (hP : (packR k n a b f).2 ≠ 0) :
    Calls Tryd.prog 53 #[v, .int .i64 page, .agg #[.int .i64 k, .int .i64 n, .bool a, .bool b, .bool f]] w fun e w' => TbRes w w' tb0 (packR k n a b f).2 e := by
  obtain ⟨x, pe, hpk⟩ : ∃ x pe, packR k n a b f = (x, pe) := ⟨_, _, rfl⟩
  rw [hpk] at hP ⊢
  simp only at hP ⊢
  obtain ⟨lk, hlk⟩ : ∃ lk, lackR r ls es page = (lk, 0) := ⟨_, by unfold lackR; rw [if_neg (by simp [hE])]⟩
  have hd : (pe != 0) = true := by simpa using hP
  clear hE hP
  obtain ⟨A, c, B, d, rfl, hA, hB, hcc⟩ := id hv
  simp only at hA hB hcc
  unfold tabV at hv ⊢
  simp only at hv ⊢
  have kT := ((Bk.new (w) #[.int .i64 r, .slice A ls.length c, .slice B es.length d] 26).alloc (.cells #[.int .i64 k, .int .i64 n, .bool a, .bool b, .bool f] 38)).alloc (.cells #[.int .i64 0, .slice none 0 0, .slice none 0 0] 26)
  have kX := (Bk.new (w.alloc (.cells #[.int .i64 r, .slice A ls.length c, .slice B es.length d] 26)) #[.int .i64 k, .int .i64 n, .bool a, .bool b, .bool f] 38).alloc (.cells #[.int .i64 0, .slice none 0 0, .slice none 0 0] 26)
  simp only [World.size_alloc] at kX
  have kR := Bk.new ((w.alloc (.cells #[.int .i64 r, .slice A ls.length c, .slice B es.length d] 26)).alloc (.cells #[.int .i64 k, .int .i64 n, .bool a, .bool b, .bool f] 38)) #[.int .i64 0, .slice none 0 0, .slice none 0 0] 26
  simp only [World.size_alloc] at kR
  have hB1 := balloc (balloc (balloc (Below.refl _ w) (.cells #[.int .i64 r, .slice A ls.length c, .slice B es.length d] 26)) (.cells #[.int .i64 k, .int .i64 n, .bool a, .bool b, .bool f] 38)) (.cells #[.int .i64 0, .slice none 0 0, .slice none 0 0] 26)
  generalize hw_w1 : ((w.alloc (.cells #[.int .i64 r, .slice A ls.length c, .slice B es.length d] 26)).alloc (.cells #[.int .i64 k, .int .i64 n, .bool a, .bool b, .bool f] 38)).alloc (.cells #[.int .i64 0, .slice none 0 0, .slice none 0 0] 26) = w1 at *
  obtain ⟨cT, fT, lT⟩ := kT.facts
  obtain ⟨cX, fX, lX⟩ := kX.facts
  obtain ⟨cR, fR, lR⟩ := kR.facts
  go_enter Tryd.func53, Tryd.ntmps53
  go_wp2_with fail
  refine (rLacks_any r ls es _ page _ (hv.to hB1) hs).mono ?_
  rw [hlk]
  rintro e w2 ⟨rfl, hb2⟩
  clear hw_w1
  replace kT := kT.to hb2
  replace kX := kX.to hb2
  replace kR := kR.to hb2
  clear cT fT lT cX fX lX cR fR lR
  obtain ⟨cT, fT, lT⟩ := kT.facts
  obtain ⟨cX, fX, lX⟩ := kX.facts
  obtain ⟨cR, fR, lR⟩ := kR.facts
  replace hB1 := bnext hB1 hb2
  go_wp2_with fail
  refine (rPack_any k n a b f _).mono ?_
  rw [hpk]
  rintro e w3 ⟨rfl, hb3⟩
  replace kT := kT.to hb3
  replace kX := kX.to hb3
  replace kR := kR.to hb3
  clear cT fT lT cX fX lX cR fR lR
  obtain ⟨cT, fT, lT⟩ := kT.facts
  obtain ⟨cX, fX, lX⟩ := kX.facts
  obtain ⟨cR, fR, lR⟩ := kR.facts
  replace hB1 := bnext hB1 hb3
  go_wp2_with fail
  have kF := kR.put3 (.int .i64 0) (.slice none 0 0) (.slice none 0 0)
  have hBF := below_put3 (hB1) (g := w.heap.size + 1 + 1) (by omega) (.int .i64 0) (.slice none 0 0) (.slice none 0 0)
  exact bodyPost_ret (kF.res2 (P := Tryd.prog) rfl _ rfl (by kernel_rfl) (by kernel_rfl)) rfl ⟨_, rfl, TbV.zero _, TLoc.zero _ _, hBF⟩

set_option maxHeartbeats 1000000 in
theorem rPut_bad3 (r : Int) (ls : List Int) (es : List Nat) (v : Value) (page k n : Int) (a b f : Bool) (w : World) (hv : TbV w v (r, ls, es)) (hs : wsmall es) (hE : askE r ls es page = 0) (hP : (packR k n a b f).2 = 0) (hl : ls.getD (page.toNat / 8) 0 = -1) (hk : k ≠ 0) :
    Calls Tryd.prog 53 #[v, .int .i64 page, .agg #[.int .i64 k, .int .i64 n, .bool a, .bool b, .bool f]] w fun e w' => TbRes w w' tb0 9 e := by
  obtain ⟨x, hpk⟩ : ∃ x, packR k n a b f = (x, 0) := ⟨_, Prod.ext rfl hP⟩
  have hlk : lackR r ls es page = (true, 0) := by unfold lackR; rw [if_neg (by simp [hE]), decide_eq_true hl]
  have hd : (k != 0) = true := by simpa using hk
  clear hE hP hl hk
  obtain ⟨A, c, B, d, rfl, hA, hB, hcc⟩ := id hv
  simp only at hA hB hcc
  unfold tabV at hv ⊢
  simp only at hv ⊢
  have kT := ((Bk.new (w) #[.int .i64 r, .slice A ls.length c, .slice B es.length d] 26).alloc (.cells #[.int .i64 k, .int .i64 n, .bool a, .bool b, .bool f] 38)).alloc (.cells #[.int .i64 0, .slice none 0 0, .slice none 0 0] 26)
  have kX := (Bk.new (w.alloc (.cells #[.int .i64 r, .slice A ls.length c, .slice B es.length d] 26)) #[.int .i64 k, .int .i64 n, .bool a, .bool b, .bool f] 38).alloc (.cells #[.int .i64 0, .slice none 0 0, .slice none 0 0] 26)
  simp only [World.size_alloc] at kX
  have kR := Bk.new ((w.alloc (.cells #[.int .i64 r, .slice A ls.length c, .slice B es.length d] 26)).alloc (.cells #[.int .i64 k, .int .i64 n, .bool a, .bool b, .bool f] 38)) #[.int .i64 0, .slice none 0 0, .slice none 0 0] 26
  simp only [World.size_alloc] at kR
  have hB1 := balloc (balloc (balloc (Below.refl _ w) (.cells #[.int .i64 r, .slice A ls.length c, .slice B es.length d] 26)) (.cells #[.int .i64 k, .int .i64 n, .bool a, .bool b, .bool f] 38)) (.cells #[.int .i64 0, .slice none 0 0, .slice none 0 0] 26)
  generalize hw_w1 : ((w.alloc (.cells #[.int .i64 r, .slice A ls.length c, .slice B es.length d] 26)).alloc (.cells #[.int .i64 k, .int .i64 n, .bool a, .bool b, .bool f] 38)).alloc (.cells #[.int .i64 0, .slice none 0 0, .slice none 0 0] 26) = w1 at *
  obtain ⟨cT, fT, lT⟩ := kT.facts
  obtain ⟨cX, fX, lX⟩ := kX.facts
  obtain ⟨cR, fR, lR⟩ := kR.facts
  go_enter Tryd.func53, Tryd.ntmps53
  go_wp2_with fail
  refine (rLacks_any r ls es _ page _ (hv.to hB1) hs).mono ?_
  rw [hlk]
  rintro e w2 ⟨rfl, hb2⟩
  clear hw_w1
  replace kT := kT.to hb2
  replace kX := kX.to hb2
  replace kR := kR.to hb2
  clear cT fT lT cX fX lX cR fR lR
  obtain ⟨cT, fT, lT⟩ := kT.facts
  obtain ⟨cX, fX, lX⟩ := kX.facts
  obtain ⟨cR, fR, lR⟩ := kR.facts
  replace hB1 := bnext hB1 hb2
  go_wp2_with fail
  refine (rPack_any k n a b f _).mono ?_
  rw [hpk]
  rintro e w3 ⟨rfl, hb3⟩
  replace kT := kT.to hb3
  replace kX := kX.to hb3
  replace kR := kR.to hb3
  clear cT fT lT cX fX lX cR fR lR
  obtain ⟨cT, fT, lT⟩ := kT.facts
  obtain ⟨cX, fX, lX⟩ := kX.facts
  obtain ⟨cR, fR, lR⟩ := kR.facts
  replace hB1 := bnext hB1 hb3
  go_wp2_with fail
  have kF := kR.put3 (.int .i64 0) (.slice none 0 0) (.slice none 0 0)
  have hBF := below_put3 (hB1) (g := w.heap.size + 1 + 1) (by omega) (.int .i64 0) (.slice none 0 0) (.slice none 0 0)
  exact bodyPost_ret (kF.res2 (P := Tryd.prog) rfl _ rfl (by kernel_rfl) (by kernel_rfl)) rfl ⟨_, rfl, TbV.zero _, TLoc.zero _ _, hBF⟩

set_option maxHeartbeats 2000000 in
theorem rPut_ok (r : Int) (ls : List Int) (es : List Nat) (v : Value) (page : Nat) (k n : Int) (a b f : Bool) (w : World) (hv : TbV w v (r, ls, es)) (hs : wsmall es) (hE : tabE r ls es = 0) (hp : page < 64) (x : Nat) (hpk : packR k n a b f = ((x : Int), 0)) (hl : ¬ (ls.getD (page / 8) 0 = -1 ∧ k ≠ 0)) :
    Calls Tryd.prog 53 #[v, .int .i64 page, .agg #[.int .i64 k, .int .i64 n, .bool a, .bool b, .bool f]] w fun e w' => TbRes w w' (r, ls, es.set page x) 0 e := by
  obtain ⟨h1, h2, _⟩ := tab_zero hE
  have hlk := lack_at hE page hp
  have hd : decide (ls.getD (page / 8) 0 = -1) = true → (k != 0) = false := by
    intro h
    have := of_decide_eq_true h
    simp only [bne_eq_false_iff_eq]
    exact Classical.byContradiction fun h0 => hl ⟨this, h0⟩
  generalize decide (ls.getD (page / 8) 0 = -1) = lk at *
  clear hE hl
  obtain ⟨A, c, B, d, rfl, hA, hB, hcc⟩ := id hv
  simp only at hA hB hcc
  unfold tabV at hv ⊢
  simp only at hv ⊢
  rw [h1, h2] at hv ⊢
  have kT := ((Bk.new (w) #[.int .i64 r, .slice A 8 c, .slice B 64 d] 26).alloc (.cells #[.int .i64 k, .int .i64 n, .bool a, .bool b, .bool f] 38)).alloc (.cells #[.int .i64 0, .slice none 0 0, .slice none 0 0] 26)
  have kX := (Bk.new (w.alloc (.cells #[.int .i64 r, .slice A 8 c, .slice B 64 d] 26)) #[.int .i64 k, .int .i64 n, .bool a, .bool b, .bool f] 38).alloc (.cells #[.int .i64 0, .slice none 0 0, .slice none 0 0] 26)
  simp only [World.size_alloc] at kX
  have kR := Bk.new ((w.alloc (.cells #[.int .i64 r, .slice A 8 c, .slice B 64 d] 26)).alloc (.cells #[.int .i64 k, .int .i64 n, .bool a, .bool b, .bool f] 38)) #[.int .i64 0, .slice none 0 0, .slice none 0 0] 26
  simp only [World.size_alloc] at kR
  have hB1 := balloc (balloc (balloc (Below.refl _ w) (.cells #[.int .i64 r, .slice A 8 c, .slice B 64 d] 26)) (.cells #[.int .i64 k, .int .i64 n, .bool a, .bool b, .bool f] 38)) (.cells #[.int .i64 0, .slice none 0 0, .slice none 0 0] 26)
  generalize hw_w1 : ((w.alloc (.cells #[.int .i64 r, .slice A 8 c, .slice B 64 d] 26)).alloc (.cells #[.int .i64 k, .int .i64 n, .bool a, .bool b, .bool f] 38)).alloc (.cells #[.int .i64 0, .slice none 0 0, .slice none 0 0] 26) = w1 at *
  obtain ⟨cT, fT, lT⟩ := kT.facts
  obtain ⟨cX, fX, lX⟩ := kX.facts
  obtain ⟨cR, fR, lR⟩ := kR.facts
  rw [h1] at hA
  rw [h2] at hB
  have HA := Lib.hid h1
  have HB := Lib.hid h2
  clear h1 h2
  go_enter Tryd.func53, Tryd.ntmps53
  go_wp2_with fail
  refine (rLacks_any r ls es _ page _ (hv.to hB1) hs).mono ?_
  rw [hlk]
  rintro e w2 ⟨rfl, hb2⟩
  clear hw_w1
  replace kT := kT.to hb2
  replace kX := kX.to hb2
  replace kR := kR.to hb2
  clear cT fT lT cX fX lX cR fR lR
  obtain ⟨cT, fT, lT⟩ := kT.facts
  obtain ⟨cX, fX, lX⟩ := kX.facts
  obtain ⟨cR, fR, lR⟩ := kR.facts
  replace hB1 := bnext hB1 hb2
  go_wp2_with fail
  refine (rPack_any k n a b f _).mono ?_
  rw [hpk]
  rintro e w3 ⟨rfl, hb3⟩
  replace kT := kT.to hb3
  replace kX := kX.to hb3
  replace kR := kR.to hb3
  clear cT fT lT cX fX lX cR fR lR
  obtain ⟨cT, fT, lT⟩ := kT.facts
  obtain ⟨cX, fX, lX⟩ := kX.facts
  obtain ⟨cR, fR, lR⟩ := kR.facts
  replace hB1 := bnext hB1 hb3
  have HO : Hid (∀ W, Rd W 1 A 8 (iw ls) → Rd W 1 B 64 (uw es) → Calls Tryd.prog 87 #[.agg #[.int .i64 r, .slice A 8 c, .slice B 64 d]] W fun e w' => ∃ gA cA gB cB, e = .returned (.agg #[.int .i64 r, .slice (some ⟨gA, 0, none⟩) 8 cA, .slice (some ⟨gB, 0, none⟩) 64 cB]) ∧ Own2 w' W.heap.size gA cA gB cB ls es ∧ Below W.heap.size W w') := Lib.hid (fun W q1 q2 => by
    have := rOwn2_any r ls es A B c d W (by rw [HA.out]; exact q1) (by rw [HB.out]; exact q2) HA.out HB.out
    rw [HA.out, HB.out] at this
    exact this)
  have hn : (lk = true ∧ (k != 0) = false) ∨ lk = false := by cases lk with | true => exact Or.inl ⟨rfl, hd rfl⟩ | false => exact Or.inr rfl
  clear hd hlk
  rcases hn with ⟨rfl, hd⟩ | rfl
  all_goals
  
    go_wp2_with fail
    refine (HO.out _ (hA.below hB1 (Nat.le_refl _)) (hB.below hB1 (Nat.le_refl _))).mono ?_
    rintro e w4 ⟨gA, cA, gB, cB, rfl, hO, hb4⟩
    replace kR := kR.to hb4
    replace kT := kT.to hb4
    have hsz := hB1.size
    have hs4 := hb4.size
    have hltR := lR
    clear cT fT lT cX fX lX cR fR lR
    replace hB1 := bnext hB1 hb4
    go_upto_region 10 with fail
    have kO := Bk.new w4 #[.int .i64 r, .slice (some ⟨gA, 0, none⟩) 8 cA, .slice (some ⟨gB, 0, none⟩) 64 cB] 26
    replace kR := kR.alloc (.cells #[.int .i64 r, .slice (some ⟨gA, 0, none⟩) 8 cA, .slice (some ⟨gB, 0, none⟩) 64 cB] 26)
    replace kT := kT.alloc (.cells #[.int .i64 r, .slice (some ⟨gA, 0, none⟩) 8 cA, .slice (some ⟨gB, 0, none⟩) 64 cB] 26)
    replace hB1 := balloc hB1 (.cells #[.int .i64 r, .slice (some ⟨gA, 0, none⟩) 8 cA, .slice (some ⟨gB, 0, none⟩) 64 cB] 26)
    have hlt := hO.lt
    replace hO := hO.alloc (.cells #[.int .i64 r, .slice (some ⟨gA, 0, none⟩) 8 cA, .slice (some ⟨gB, 0, none⟩) 64 cB] 26)
    generalize w4.alloc (.cells #[.int .i64 r, .slice (some ⟨gA, 0, none⟩) 8 cA, .slice (some ⟨gB, 0, none⟩) 64 cB] 26) = wO at *
    obtain ⟨cO, fO, lO⟩ := kO.facts
    have hlt := hO.lt
    obtain ⟨cE, fE⟩ := hO.entryAt page hp
    go_upto_region 11 with fail
    replace kO := kO.far (p := ⟨gB, page, none⟩) (by show _ ≠ _; simp only; omega) (.int .u64 (x : Int))
    replace kR := kR.far (p := ⟨gB, page, none⟩) (by show _ ≠ _; simp only; omega) (.int .u64 (x : Int))
    replace hB1 := hB1.setCell (p := ⟨gB, page, none⟩) (by show _ ≤ _; simp only; omega) (.int .u64 (x : Int))
    replace hO := hO.entry page x
    clear cO fO lO cE fE
    generalize wO.setCell ⟨gB, page, none⟩ (.int .u64 (x : Int)) = wS at *
    obtain ⟨cO, fO, lO⟩ := kO.facts
    obtain ⟨cR, fR, lR⟩ := kR.facts
    go_wp2_with fail
    have kF := kR.put3 (.int .i64 r) (.slice (some ⟨gA, 0, none⟩) 8 cA) (.slice (some ⟨gB, 0, none⟩) 64 cB)
    have hBF := below_put3 hB1 (g := w.heap.size + 1 + 1) (by omega) (.int .i64 r) (.slice (some ⟨gA, 0, none⟩) 8 cA) (.slice (some ⟨gB, 0, none⟩) 64 cB)
    have hOF := ((hO.far (p := ⟨w.heap.size + 1 + 1, 0, none⟩) (by show _ < _; simp only; omega) (.int .i64 r)).far (p := ⟨w.heap.size + 1 + 1, 1, none⟩) (by show _ < _; simp only; omega) (.slice (some ⟨gA, 0, none⟩) 8 cA)).far (p := ⟨w.heap.size + 1 + 1, 2, none⟩) (by show _ < _; simp only; omega) (.slice (some ⟨gB, 0, none⟩) 64 cB)
    exact bodyPost_ret (kF.res2 (P := Tryd.prog) rfl _ rfl (by kernel_rfl) (by kernel_rfl)) rfl ⟨_, rfl, hOF.tbv r, hOF.tloc r (by omega), hBF⟩

theorem rPut_any (r : Int) (ls : List Int) (es : List Nat) (v : Value) (page k n : Int) (a b f : Bool) (w : World) (hv : TbV w v (r, ls, es)) (hs : wsmall es) :
    Calls Tryd.prog 53 #[v, .int .i64 page, .agg #[.int .i64 k, .int .i64 n, .bool a, .bool b, .bool f]] w fun e w' => TbRes w w' (putR r ls es page k n a b f).1 (putR r ls es page k n a b f).2 e := by
  by_cases hE : askE r ls es page = 0
  · obtain ⟨h1, p, rfl, hp⟩ := ask_zero hE
    by_cases hP : (packR k n a b f).2 = 0
    · by_cases hl : ls.getD (p / 8) 0 = -1 ∧ k ≠ 0
      · have e1 : putR r ls es p k n a b f = (tb0, 9) := by
          have : putE r ls es p k n a b f = 9 := by unfold putE; rw [orE_r _ hE, orE_r _ hP, Int.toNat_natCast, if_pos hl]
          unfold putR
          rw [if_pos (by omega), this]
        rw [e1]
        exact rPut_bad3 r ls es v p k n a b f w hv hs hE hP (by rw [Int.toNat_natCast]; exact hl.1) hl.2
      · obtain ⟨x, hx, hx2⟩ := packR_nat k n a b f hP
        have e1 : putR r ls es p k n a b f = ((r, ls, es.set p x), 0) := by
          have : putE r ls es p k n a b f = 0 := by unfold putE; rw [orE_r _ hE, orE_r _ hP, Int.toNat_natCast, if_neg hl]
          unfold putR
          rw [if_neg (by omega), hx, Int.toNat_natCast, Int.toNat_natCast]
        rw [e1]
        exact rPut_ok r ls es v p k n a b f w hv hs h1 hp x (Prod.ext hx hP) hl
    · have e1 : putR r ls es p k n a b f = (tb0, (packR k n a b f).2) := by
        have : putE r ls es p k n a b f = (packR k n a b f).2 := by unfold putE; rw [orE_r _ hE, orE_l _ hP]
        unfold putR
        rw [if_pos (by rw [this]; exact hP), this]
      rw [e1]
      exact rPut_bad2 r ls es v p k n a b f w hv hs hE hP
  · have e1 : putR r ls es page k n a b f = (tb0, askE r ls es page) := by
      have : putE r ls es page k n a b f = askE r ls es page := by unfold putE; rw [orE_l _ hE]
      unfold putR
      rw [if_pos (by rw [this]; exact hE), this]
    rw [e1]
    exact rPut_bad1 r ls es v page k n a b f w hv hs hE

theorem uses_mem (r : Int) (ls : List Int) (f : Int) (h : ls.length = 8) : usesB r ls 8 f = true ↔ (f = r ∨ f ∈ ls) := by
  rw [usesB_iff]
  constructor
  · rintro (h1 | ⟨j, hj, h1⟩)
    · exact .inl h1.symm
    · rw [List.getD_eq_getElem?_getD, List.getElem?_eq_getElem (by omega)] at h1
      refine .inr ?_
      rw [← h1]
      simp
  · rintro (h1 | h1)
    · exact .inl h1.symm
    · obtain ⟨j, hj, h2⟩ := List.getElem_of_mem h1
      refine .inr ⟨j, by omega, ?_⟩
      rw [List.getD_eq_getElem?_getD, List.getElem?_eq_getElem hj]
      exact h2
theorem leafR_of (r : Int) (ls : List Int) (es : List Nat) (leaf frame : Int) (x : Int) (h : leafE r ls es leaf frame = x) (hx : x ≠ 0) : leafR r ls es leaf frame = (tb0, x) := by
  unfold leafR
  rw [if_pos (by rw [h]; exact hx), h]
theorem emptyB_no (es : List Nat) (leaf k : Nat) (hk : k < 8) (h : unpK (es.getD (leaf * 8 + k) 0) ≠ 0) : emptyB es leaf = false := by
  rw [Bool.eq_false_iff]
  intro h1
  have := List.all_eq_true.1 h1 k (List.mem_range.2 hk)
  exact h (by simpa using this)
theorem emptyB_yes (es : List Nat) (leaf : Nat) (h : ∀ k, k < 8 → unpK (es.getD (leaf * 8 + k) 0) = 0) : emptyB es leaf = true :=
  List.all_eq_true.2 fun k hk => by simpa using h k (List.mem_range.1 hk)
theorem Own2.keep {w w' : World} {B' base gA cA gB cB : Nat} {ls : List Int} {es : List Nat} (h : Own2 w base gA cA gB cB ls es) (hb : Below B' w w') (h1 : gA < B') (h2 : gB < B') : Own2 w' base gA cA gB cB ls es := by
  refine ⟨⟨h.a.1, ?_⟩, ⟨h.b.1, ?_⟩, h.ne⟩
  · rcases h.a.2 with hn | ⟨g, cap, cur, hv, hbg, hg, rest⟩
    · exact .inl hn
    · have e : g = gA := by injection hv with hv; injection hv with hv; injection hv with hv; exact hv.symm
      exact .inr ⟨g, cap, cur, hv, hbg, (hb.block g (by omega)).trans hg, rest⟩
  · rcases h.b.2 with hn | ⟨g, cap, cur, hv, hbg, hg, rest⟩
    · exact .inl hn
    · have e : g = gB := by injection hv with hv; injection hv with hv; injection hv with hv; exact hv.symm
      exact .inr ⟨g, cap, cur, hv, hbg, (hb.block g (by omega)).trans hg, rest⟩
theorem trimG_yes (ls : List Int) (es : List Nat) (k : Nat) (h : goneB ls es k = true) : trimG ls es (k + 1) = trimG ls es k ++ [ls.getD k 0] := by simp [trimG, List.range_succ, h]
theorem trimG_no (ls : List Int) (es : List Nat) (k : Nat) (h : goneB ls es k = false) : trimG ls es (k + 1) = trimG ls es k := by simp [trimG, List.range_succ, h]
theorem trimL_yes (ls : List Int) (es : List Nat) (k : Nat) (h : goneB ls es k = true) : trimL ls es (k + 1) = (trimL ls es k).set k (-1) := by simp [trimL, h]
theorem trimL_no (ls : List Int) (es : List Nat) (k : Nat) (h : goneB ls es k = false) : trimL ls es (k + 1) = trimL ls es k := by simp [trimL, h]
def TrimRel (w3 : World) (lo s3 gO gA cA gB cB : Nat) (r : Int) (ls : List Int) (es : List Nat) (v i : Value) (wr : World) : Prop :=
  ∃ k : Nat, k ≤ 8 ∧ i = .int .i64 k ∧ Own2 wr s3 gA cA gB cB (trimL ls es k) es ∧ Bk wr gO #[.int .i64 r, .slice (some ⟨gA, 0, none⟩) 8 cA, .slice (some ⟨gB, 0, none⟩) 64 cB] 26 ∧ wr.ownsRow lo 3 1 v (trimG ls es k).length (iw (trimG ls es k)) ∧ Below w3.heap.size w3 wr ∧ lo ≤ wr.heap.size

end Go.Proofs.YtpkgfkhaiifooaaDoor
