/- Several texts in one. -/
import Derived.Test.YtpkgfkhaiifooaaGreatDoorGW
import Derived.Test.YtpkgfkhaiifooaaGreatDoorBox
import Derived.Test.YtpkgfkhaiifooaaGreatDoorSame0
import Derived.Deep.RegionHeld3
import Derived.Deep.RegionLawGrows
/- Page tables in new memory, equal tables. -/
namespace Go.Proofs.YtpkgfkhaiifooaaGreatDoor
open Go Go.Proofs Go.RowKit
set_option linter.unusedSimpArgs false
set_option linter.unusedVariables false
set_option maxRecDepth 100000

theorem infoU64 : (Tryz.prog.info? 85).map (fun i => (i.zero, i.size, i.bytes)) = some (some (.int .u64 0), 1, 8) := by kernel_rfl

theorem rdin_put3 {w : World} {lo hi sz n g : Nat} {A : Option Addr} {xs : List Value} (h : RdIn w lo hi sz A n xs) (hg : g < lo) (x y z : Value) :
    RdIn (((w.setCell ⟨g, 0, none⟩ x).setCell ⟨g, 1, none⟩ y).setCell ⟨g, 2, none⟩ z) lo hi sz A n xs := by
  have key : ∀ b off, 0 < n → A = some ⟨b, off, none⟩ → b ≠ g := fun b off hn e => by have := h.2 b off hn e; omega
  exact ⟨((h.1.far (p := ⟨g, 0, none⟩) key x).far (p := ⟨g, 1, none⟩) key y).far (p := ⟨g, 2, none⟩) key z, h.2⟩
/-- append of a whole slice onto an empty one without room, as one step of a region that draws its order. -/
theorem step_append_new {P : Program} {ops : Array Oper} {o : Oper} {a : Act} {w : World} {K : Act → World → Prop} {Q : Exit → Act → World → Prop} {E : Prop}
    (hg : o.guard = none) (s x : Operand) (t : TypeId) (hop : o.op = Op.call { callee := Callee.builtin Builtin.append, args := #[s, x], argTypes := #[t, t] })
    (e : TypeId) (i : TypeInfo) (z : Value) (size bytes : Nat) (h1 : P.underlying t = some (.slice e)) (h2 : P.info? e = some i) (h3 : i.zero = some z) (h4 : i.size = size) (h5 : i.bytes = bytes) (h6 : z.cells.size = size) (h7 : 0 < size)
    (g : Addr) (hs : a.eval s = .slice (some g) 0 0)
    (A : Option Addr) (m c : Nat) (news : List Value) (hx : a.eval x = .slice A m c) (hr : Rd w size A m news) (h1c : ∀ u ∈ news, u.oneCell' = true)
    (b1 : m ≤ maxLen) (b2 : m * bytes ≤ 140737488355328) (lo : Nat) (hlo : lo ≤ w.heap.size)
    (hK : ∀ A' c' w', RdIn w' lo w'.heap.size size A' m news → m ≤ c' → Below w.heap.size w w' → K (a.put o.dst (.slice A' m c')) w') :
    if Region.wanted o (yielded ops a.tmps) = true then Oper.wp P o a w K Q else E := by
  rcases Nat.eq_zero_or_pos m with h0 | h0
  · subst h0
    have hn : news = [] := List.eq_nil_of_length_eq_zero (by simpa using hr.1)
    subst hn
    have hw : Region.wanted o (yielded ops a.tmps) = true := by simp [Region.wanted, hg]
    rw [if_pos hw]
    have hrun : (Builtin.append_ #[t, t] o.type #[.slice (some g) 0 0, .slice A 0 c]).run P w = .ok (.slice (some g) 0 0) w := by
      rcases A with _ | ad
      · simp [Builtin.append_, run_underlying h1, sizeOf, typeInfo, h2, Builtin.lenOf, Builtin.firstCells, storeCells]
      · simp [Builtin.append_, run_underlying h1, sizeOf, typeInfo, h2, Builtin.lenOf, Builtin.firstCells, storeCells, loadCells, loadCellsFrom]
    unfold Oper.wp
    simp [execOp, hop, resolve, invoke, builtin, hs, hx, hrun, Result.andThen]
    exact hK (some g) 0 w ⟨Rd.zero _, fun b off h => absurd h (by omega)⟩ (Nat.le_refl _) (Below.refl _ _)
  · obtain ⟨b, off, rfl, hb, hc⟩ := hr.2 h0
    refine step_append_grows hg s x t hop e i z size bytes h1 h2 h3 h4 h5 h6 h7 (some g) 0 0 [] hs (fun h => by cases h) (by simp) (fun _ _ j u hu => by simp at hu) ⟨b, off, none⟩ m c news hx hr.1 (fun j u hu => by rw [Addr.add_mid]; exact hc j u hu) h1c (by omega) (by simpa using b1) (by simpa using b2) ?_
    intro v' w' hown hgrow
    rw [Nat.zero_add, List.nil_append] at hown
    obtain ⟨g', cap, hv, _, hlt⟩ := hown.form h0
    have hcap : m ≤ cap := by
      rcases hown.2 with ⟨h, _⟩ | ⟨g2, cap2, cur, h, _, _, hnc, _⟩
      · rw [hv] at h; cases h
      · rw [hv] at h; injection h with _ _ h; omega
    subst hv
    exact hK _ _ _ ⟨(RdIn.of hown).1, fun b off hb e => ⟨Nat.le_trans hlo ((RdIn.of hown).2 b off hb e).1, ((RdIn.of hown).2 b off hb e).2⟩⟩ hcap ((Below.refl _ w).grown hgrow (Nat.le_refl _) (fun k e => by cases e))

set_option maxHeartbeats 4000000 in
theorem OwnTableL_any (r : Int) (ls : List Int) (es : List Nat) (A B : Option Addr) (c d : Nat) (w : World) (hA : Rd w 1 A ls.length (iw ls)) (hB : Rd w 1 B es.length (uw es)) (hn : ls.length ≤ 1000) (hm : es.length ≤ 1000) :
    Calls Tryz.prog 19 #[tabV r A ls.length c B es.length d] w fun e w' => ∃ v, e = .returned v ∧ TbV w' v (r, ls, es) ∧ TLoc w.heap.size v ∧ Below w.heap.size w w' := by
  obtain ⟨i0, hi, hz0, hz1, hz2⟩ := info_parts infoInt
  obtain ⟨j0, hj, hy0, hy1, hy2⟩ := info_parts infoU64
  unfold tabV
  have kT := (Bk.new w #[.int .i64 r, .slice A ls.length c, .slice B es.length d] 26).alloc (.cells #[.int .i64 0, .slice none 0 0, .slice none 0 0] 26)
  have kR := Bk.new (w.alloc (.cells #[.int .i64 r, .slice A ls.length c, .slice B es.length d] 26)) #[.int .i64 0, .slice none 0 0, .slice none 0 0] 26
  rw [World.size_alloc] at kR
  have hB1 := balloc (balloc (Below.refl _ w) (.cells #[.int .i64 r, .slice A ls.length c, .slice B es.length d] 26)) (.cells #[.int .i64 0, .slice none 0 0, .slice none 0 0] 26)
  generalize hw1 : (w.alloc (.cells #[.int .i64 r, .slice A ls.length c, .slice B es.length d] 26)).alloc (.cells #[.int .i64 0, .slice none 0 0, .slice none 0 0] 26) = w1 at *
  have hA1 := hA.below hB1 (Nat.le_refl _)
  have hE1 := hB.below hB1 (Nat.le_refl _)
  have c0 := kT.cell 0
  have c1 := kT.cell 1
  have c2 := kT.cell 2
  simp at c0 c1 c2
  have hsR := kR.lt
  go_enter Tryz.func19, Tryz.ntmps19
  go_wp2_with fail
  go_region_held3 (fun w' => w'.cell? ⟨w.heap.size, 0, none⟩ = some (.int .i64 r) ∧ w'.cell? ⟨w.heap.size, 1, none⟩ = some (.slice A ls.length c) ∧ w'.cell? ⟨w.heap.size, 2, none⟩ = some (.slice B es.length d))
    (refine ⟨?_, ?_, ?_⟩ <;> (repeat (with_reducible first | exact c0 | exact c1 | exact c2 | refine cell_drew ?_ | refine cell_later hbI ?_ | refine cell_later hbU ?_ | refine cell_alloc _ ?_ | refine cell_far ?_ (by simp) _)))
    (first
      | (refine step_append_new rfl _ _ 23 rfl 3 i0 (.int .i64 0) 1 8 Tryz.underlying23 hi hz0 hz1 hz2 rfl (by decide) _ rfl A ls.length c (iw ls) rfl (by repeat (with_reducible first | exact hA1 | refine Rd.drew1 ?_ | refine Rd.to ?_ hbU | refine Rd.alloc ?_ _)) (oneCells_int _ _) (by simp only [maxLen]; omega) (by omega) (w.heap.size + 1 + 1) (by (try simp only [World.size_alloc, World.size_drew]); omega) ?_
         intro AI cI wI hrI hcI hbI
         have kRI : Bk wI (w.heap.size + 1) #[.int .i64 0, .slice none 0 0, .slice none 0 0] 26 := by repeat (with_reducible first | exact kR | refine Bk.to ?_ hbI | refine Bk.to ?_ hbU | refine Bk.drew ?_ | refine Bk.alloc ?_ _)
         obtain ⟨cRI, fRI, lRI⟩ := kRI.facts)
      | (refine step_append_new rfl _ _ 24 rfl 85 j0 (.int .u64 0) 1 8 Tryz.underlying24 hj hy0 hy1 hy2 rfl (by decide) _ rfl B es.length d (uw es) rfl (by repeat (with_reducible first | exact hE1 | refine Rd.drew1 ?_ | refine Rd.to ?_ hbI | refine Rd.alloc ?_ _)) (oneCells_uw _) (by simp only [maxLen]; omega) (by omega) (w.heap.size + 1 + 1) (by (try simp only [World.size_alloc, World.size_drew]); omega) ?_
         intro AU cU wU hrU hcU hbU
         have kRU : Bk wU (w.heap.size + 1) #[.int .i64 0, .slice none 0 0, .slice none 0 0] 26 := by repeat (with_reducible first | exact kR | refine Bk.to ?_ hbU | refine Bk.to ?_ hbI | refine Bk.drew ?_ | refine Bk.alloc ?_ _)
         obtain ⟨cRU, fRU, lRU⟩ := kRU.facts))
  all_goals
    have hBU : Below w.heap.size w wU := by repeat (with_reducible first | exact hB1 | refine bnext ?_ hbU | refine bnext ?_ hbI | refine below_drew ?_ | refine balloc ?_ _)
    have hrI2 : RdIn wU (w.heap.size + 1 + 1) wI.heap.size 1 AI ls.length (iw ls) := by repeat (with_reducible first | exact hrI | refine RdIn.to ?_ hbU | refine RdIn.alloc ?_ _)
    have kF := kRU.put3 (.int .i64 r) (.slice AI ls.length cI) (.slice AU es.length cU)
    have hBF := below_put3 hBU (g := w.heap.size + 1) (by omega) (.int .i64 r) (.slice AI ls.length cI) (.slice AU es.length cU)
    have hIF := rdin_put3 hrI2 (g := w.heap.size + 1) (by omega) (.int .i64 r) (.slice AI ls.length cI) (.slice AU es.length cU)
    have hUF := rdin_put3 hrU (g := w.heap.size + 1) (by omega) (.int .i64 r) (.slice AI ls.length cI) (.slice AU es.length cU)
    go_wp2_with fail
    exact bodyPost_ret (kF.res1 (P := Tryz.prog) rfl _ rfl (by kernel_rfl) (by kernel_rfl)) rfl ⟨_, rfl, ⟨AI, cI, AU, cU, rfl, hIF.1, hUF.1, hcI⟩, by
      intro r' A' n' c' B' m' d' h
      simp only [tabV, Value.agg.injEq, Array.mk.injEq, List.cons.injEq, Value.slice.injEq] at h
      obtain ⟨_, ⟨rfl, rfl, rfl⟩, ⟨rfl, rfl, rfl⟩, _⟩ := h
      exact ⟨fun b off h0 he => by have := hIF.2 b off h0 he; omega, fun b off h0 he => by have := hUF.2 b off h0 he; omega⟩, hBF⟩
theorem OwnTable_any (r : Int) (ls : List Int) (es : List Nat) (A B : Option Addr) (c d : Nat) (w : World) (hA : Rd w 1 A ls.length (iw ls)) (hB : Rd w 1 B es.length (uw es)) (hn : ls.length ≤ 1000) (hm : es.length ≤ 1000) :
    Calls Tryz.prog 19 #[tabV r A ls.length c B es.length d] w fun e w' => ∃ v, e = .returned v ∧ TbV w' v (r, ls, es) ∧ Below w.heap.size w w' :=
  (OwnTableL_any r ls es A B c d w hA hB hn hm).mono fun _ _ ⟨v, h1, h2, _, h4⟩ => ⟨v, h1, h2, h4⟩
end Go.Proofs.YtpkgfkhaiifooaaGreatDoor
/- Page tables: the reference's own. -/
namespace Go.Proofs.YtpkgfkhaiifooaaGreatDoor
open Go Go.Proofs Go.RowKit
set_option linter.unusedSimpArgs false
set_option linter.unusedVariables false
set_option maxRecDepth 100000

set_option maxHeartbeats 4000000 in
theorem rOwn_any (r : Int) (ls : List Int) (es : List Nat) (A B : Option Addr) (c d : Nat) (w : World) (hA : Rd w 1 A ls.length (iw ls)) (hB : Rd w 1 B es.length (uw es)) (hn : ls.length ≤ 1000) (hm : es.length ≤ 1000) :
    Calls Tryz.prog 68 #[tabV r A ls.length c B es.length d] w fun e w' => ∃ v, e = .returned v ∧ TbV w' v (r, ls, es) ∧ Below w.heap.size w w' := by
  obtain ⟨i0, hi, hz0, hz1, hz2⟩ := info_parts infoInt
  obtain ⟨j0, hj, hy0, hy1, hy2⟩ := info_parts infoU64
  unfold tabV
  have kT := (Bk.new w #[.int .i64 r, .slice A ls.length c, .slice B es.length d] 26).alloc (.cells #[.int .i64 0, .slice none 0 0, .slice none 0 0] 26)
  have kR := Bk.new (w.alloc (.cells #[.int .i64 r, .slice A ls.length c, .slice B es.length d] 26)) #[.int .i64 0, .slice none 0 0, .slice none 0 0] 26
  rw [World.size_alloc] at kR
  have hB1 := balloc (balloc (Below.refl _ w) (.cells #[.int .i64 r, .slice A ls.length c, .slice B es.length d] 26)) (.cells #[.int .i64 0, .slice none 0 0, .slice none 0 0] 26)
  generalize hw1 : (w.alloc (.cells #[.int .i64 r, .slice A ls.length c, .slice B es.length d] 26)).alloc (.cells #[.int .i64 0, .slice none 0 0, .slice none 0 0] 26) = w1 at *
  have hA1 := hA.below hB1 (Nat.le_refl _)
  have hE1 := hB.below hB1 (Nat.le_refl _)
  have c0 := kT.cell 0
  have c1 := kT.cell 1
  have c2 := kT.cell 2
  simp at c0 c1 c2
  have hsR := kR.lt
  go_enter Tryz.func68, Tryz.ntmps68
  go_wp2_with fail
  go_region_held3 (fun w' => w'.cell? ⟨w.heap.size, 0, none⟩ = some (.int .i64 r) ∧ w'.cell? ⟨w.heap.size, 1, none⟩ = some (.slice A ls.length c) ∧ w'.cell? ⟨w.heap.size, 2, none⟩ = some (.slice B es.length d))
    (refine ⟨?_, ?_, ?_⟩ <;> (repeat (with_reducible first | exact c0 | exact c1 | exact c2 | refine cell_drew ?_ | refine cell_later hbI ?_ | refine cell_later hbU ?_ | refine cell_alloc _ ?_ | refine cell_far ?_ (by simp) _)))
    (first
      | (refine step_append_new rfl _ _ 23 rfl 3 i0 (.int .i64 0) 1 8 Tryz.underlying23 hi hz0 hz1 hz2 rfl (by decide) _ rfl A ls.length c (iw ls) rfl (by repeat (with_reducible first | exact hA1 | refine Rd.drew1 ?_ | refine Rd.to ?_ hbU | refine Rd.alloc ?_ _)) (oneCells_int _ _) (by simp only [maxLen]; omega) (by omega) (w.heap.size + 1 + 1) (by (try simp only [World.size_alloc, World.size_drew]); omega) ?_
         intro AI cI wI hrI hcI hbI
         have kRI : Bk wI (w.heap.size + 1) #[.int .i64 0, .slice none 0 0, .slice none 0 0] 26 := by repeat (with_reducible first | exact kR | refine Bk.to ?_ hbI | refine Bk.to ?_ hbU | refine Bk.drew ?_ | refine Bk.alloc ?_ _)
         obtain ⟨cRI, fRI, lRI⟩ := kRI.facts)
      | (refine step_append_new rfl _ _ 24 rfl 85 j0 (.int .u64 0) 1 8 Tryz.underlying24 hj hy0 hy1 hy2 rfl (by decide) _ rfl B es.length d (uw es) rfl (by repeat (with_reducible first | exact hE1 | refine Rd.drew1 ?_ | refine Rd.to ?_ hbI | refine Rd.alloc ?_ _)) (oneCells_uw _) (by simp only [maxLen]; omega) (by omega) (w.heap.size + 1 + 1) (by (try simp only [World.size_alloc, World.size_drew]); omega) ?_
         intro AU cU wU hrU hcU hbU
         have kRU : Bk wU (w.heap.size + 1) #[.int .i64 0, .slice none 0 0, .slice none 0 0] 26 := by repeat (with_reducible first | exact kR | refine Bk.to ?_ hbU | refine Bk.to ?_ hbI | refine Bk.drew ?_ | refine Bk.alloc ?_ _)
         obtain ⟨cRU, fRU, lRU⟩ := kRU.facts))
  all_goals
    have hBU : Below w.heap.size w wU := by repeat (with_reducible first | exact hB1 | refine bnext ?_ hbU | refine bnext ?_ hbI | refine below_drew ?_ | refine balloc ?_ _)
    have hrI2 : RdIn wU (w.heap.size + 1 + 1) wI.heap.size 1 AI ls.length (iw ls) := by repeat (with_reducible first | exact hrI | refine RdIn.to ?_ hbU | refine RdIn.alloc ?_ _)
    have kF := kRU.put3 (.int .i64 r) (.slice AI ls.length cI) (.slice AU es.length cU)
    have hBF := below_put3 hBU (g := w.heap.size + 1) (by omega) (.int .i64 r) (.slice AI ls.length cI) (.slice AU es.length cU)
    have hIF := rdin_put3 hrI2 (g := w.heap.size + 1) (by omega) (.int .i64 r) (.slice AI ls.length cI) (.slice AU es.length cU)
    have hUF := rdin_put3 hrU (g := w.heap.size + 1) (by omega) (.int .i64 r) (.slice AI ls.length cI) (.slice AU es.length cU)
    go_wp2_with fail
    exact bodyPost_ret (kF.res1 (P := Tryz.prog) rfl _ rfl (by kernel_rfl) (by kernel_rfl)) rfl ⟨_, rfl, ⟨AI, cI, AU, cU, rfl, hIF.1, hUF.1, hcI⟩, hBF⟩
end Go.Proofs.YtpkgfkhaiifooaaGreatDoor
/- Equal page tables. -/
namespace Go.Proofs.YtpkgfkhaiifooaaGreatDoor
open Go Go.Proofs Go.RowKit
set_option linter.unusedSimpArgs false
set_option linter.unusedVariables false
set_option maxRecDepth 100000

theorem TbV.below {w w' : World} {v : Value} {t : Tb} (h : TbV w v t) (hb : Below w.heap.size w w') : TbV w' v t := h.to hb
theorem TbV.alloc {w : World} {v : Value} {t : Tb} (h : TbV w v t) (o : Obj) : TbV (w.alloc o) v t := h.to ((Below.refl _ _).alloc (Nat.le_refl _) _)
theorem TbV.drew {w : World} {v : Value} {t : Tb} (h : TbV w v t) : TbV w.drew v t := h.to (below_drew (Below.refl _ _))
theorem IsV.below {w w' : World} {v : Value} {zs : List Int} (h : IsV w v zs) (hb : Below w.heap.size w w') : IsV w' v zs := h.to hb
theorem IsV.alloc {w : World} {v : Value} {zs : List Int} (h : IsV w v zs) (o : Obj) : IsV (w.alloc o) v zs := h.to ((Below.refl _ _).alloc (Nat.le_refl _) _)
theorem IsV.drew {w : World} {v : Value} {zs : List Int} (h : IsV w v zs) : IsV w.drew v zs := h.to (below_drew (Below.refl _ _))
theorem IsV.new (w : World) (zs : List Int) (t : TypeId) : IsV (w.alloc (.cells (iw zs).toArray t)) (.slice (some ⟨w.heap.size, 0, none⟩) zs.length zs.length) zs :=
  ⟨some ⟨w.heap.size, 0, none⟩, zs.length, rfl, by have := Rd.new (w := w) (sz := 1) (n := zs.length) (iw zs).toArray t (by simp [iw]); simpa using this⟩

set_option maxHeartbeats 1000000 in
theorem SameTable_eq (r : Int) (ls : List Int) (es : List Nat) (v v2 : Value) (w : World) (hv : TbV w v (r, ls, es)) (hv2 : TbV w v2 (r, ls, es)) (hs : wsmall es) (hn : ls.length ≤ 1000) (hm : es.length ≤ 1000) :
    Calls Tryz.prog 27 #[v, v2] w fun e w' => e = .returned (.bool true) ∧ Below w.heap.size w w' := by
  obtain ⟨A, c, B, d, rfl, hA, hB, _⟩ := hv
  obtain ⟨A2, c2, B2, d2, rfl, hA2, hB2, _⟩ := hv2
  simp only at hA hB hA2 hB2
  unfold tabV
  simp only
  have k1 := (Bk.new w #[.int .i64 r, .slice A ls.length c, .slice B es.length d] 26).alloc (.cells #[.int .i64 r, .slice A2 ls.length c2, .slice B2 es.length d2] 26)
  have k2 := Bk.new (w.alloc (.cells #[.int .i64 r, .slice A ls.length c, .slice B es.length d] 26)) #[.int .i64 r, .slice A2 ls.length c2, .slice B2 es.length d2] 26
  rw [World.size_alloc] at k2
  have hB1 := balloc (balloc (Below.refl _ w) (.cells #[.int .i64 r, .slice A ls.length c, .slice B es.length d] 26)) (.cells #[.int .i64 r, .slice A2 ls.length c2, .slice B2 es.length d2] 26)
  generalize hw1 : (w.alloc (.cells #[.int .i64 r, .slice A ls.length c, .slice B es.length d] 26)).alloc (.cells #[.int .i64 r, .slice A2 ls.length c2, .slice B2 es.length d2] 26) = w1 at *
  obtain ⟨c1, f1, l1⟩ := k1.facts
  obtain ⟨c2', f2, l2⟩ := k2.facts
  have hSI := SameInts_eq A A2 ls.length c c2 ls w1 (hA.below hB1 (Nat.le_refl _)) (hA2.below hB1 (Nat.le_refl _)) (by omega)
  go_enter Tryz.func27, Tryz.ntmps27
  go_wp2_with (first
    | (go_at_call 15; refine hSI.mono ?_; rintro e w2 ⟨rfl, hb2⟩; obtain ⟨c3, f3, l3⟩ := (k1.to hb2).facts; obtain ⟨c4, f4, l4⟩ := (k2.to hb2).facts)
    | (go_at_call 62; refine (SameWords_eq B B2 es.length d d2 es _ (hB.below (bnext hB1 hb2) (Nat.le_refl _)) (hB2.below (bnext hB1 hb2) (Nat.le_refl _)) hs (by omega)).mono ?_; rintro e w3 ⟨rfl, hb3⟩))
  go_ret
  exact ⟨rfl, bnext (bnext hB1 hb2) hb3⟩
theorem SameInts_v (zs : List Int) (v v2 : Value) (w : World) (h : IsV w v zs) (h2 : IsV w v2 zs) (hn : zs.length ≤ 1000) :
    Calls Tryz.prog 15 #[v, v2] w fun e w' => e = .returned (.bool true) ∧ Below w.heap.size w w' := by
  obtain ⟨A, c, rfl, hA⟩ := h
  obtain ⟨B, d, rfl, hB⟩ := h2
  exact SameInts_eq A B zs.length c d zs w hA hB (by omega)
theorem tbv_put3 {w : World} {v : Value} {t : Tb} {lo g : Nat} (h : TbV w v t) (hl : TLoc lo v) (hg : g < lo) (x y z : Value) : TbV (((w.setCell ⟨g, 0, none⟩ x).setCell ⟨g, 1, none⟩ y).setCell ⟨g, 2, none⟩ z) v t := by
  obtain ⟨A, c, B, d, rfl, h1, h2, h3⟩ := h
  obtain ⟨l1, l2⟩ := hl _ _ _ _ _ _ _ rfl
  have k1 : ∀ b off, 0 < t.2.1.length → A = some ⟨b, off, none⟩ → b ≠ g := fun b off hn e => by have := l1 b off hn e; omega
  have k2 : ∀ b off, 0 < t.2.2.length → B = some ⟨b, off, none⟩ → b ≠ g := fun b off hn e => by have := l2 b off hn e; omega
  exact ⟨A, c, B, d, rfl, ((h1.far (p := ⟨g, 0, none⟩) k1 x).far (p := ⟨g, 1, none⟩) k1 y).far (p := ⟨g, 2, none⟩) k1 z, ((h2.far (p := ⟨g, 0, none⟩) k2 x).far (p := ⟨g, 1, none⟩) k2 y).far (p := ⟨g, 2, none⟩) k2 z, h3⟩
theorem Bk.newd (w : World) (cs : Array Value) (t : TypeId) : Bk (w.drew.alloc (.cells cs t)) w.heap.size cs t := Bk.new w.drew cs t
theorem TLoc.mono {lo lo' : Nat} {v : Value} (h : TLoc lo v) (hl : lo' ≤ lo) : TLoc lo' v := fun r A n c B m d e =>
  ⟨fun b off hn he => Nat.le_trans hl ((h r A n c B m d e).1 b off hn he), fun b off hn he => Nat.le_trans hl ((h r A n c B m d e).2 b off hn he)⟩
/-- A box with a table in it, whose slices lie in blocks from lo on. -/
def TbX (w : World) (p : Nat) (t : Tb) (lo : Nat) : Prop := ∃ A c B d, Bk w p #[.int .i64 t.1, .slice A t.2.1.length c, .slice B t.2.2.length d] 26 ∧ TbV w (.agg #[.int .i64 t.1, .slice A t.2.1.length c, .slice B t.2.2.length d]) t ∧ TLoc lo (.agg #[.int .i64 t.1, .slice A t.2.1.length c, .slice B t.2.2.length d])
end Go.Proofs.YtpkgfkhaiifooaaGreatDoor
