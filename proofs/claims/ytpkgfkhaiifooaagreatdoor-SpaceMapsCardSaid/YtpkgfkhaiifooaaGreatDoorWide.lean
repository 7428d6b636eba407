/- Wide values: rows of many cells that are loaded, built and stored at once. No program is in sight here. -/
import Derived.Test.YtpkgfkhaiifooaaGreatDoorBase
import Derived.StillTailTactics
import Derived.Deep.MidRow
import Derived.Deep.WholeRow
import Derived.Laws.CopyOwn
namespace Go.Proofs.YtpkgfkhaiifooaaGreatDoor
open Go Go.RowKit
set_option linter.unusedSimpArgs false
set_option linter.unusedVariables false

section
variable {P : Program}
theorem run_arrptr (w : World) (b o c : Nat) (t e : TypeId) (n : Nat) (hu : P.underlying t = some (.array n e)) :
    (Instr.arrayAt t (.slice (some ⟨b, o, none⟩) n c)).run P w = .ok (.pointer (some ⟨b, o, none⟩)) w := by
  simp [Instr.arrayAt, run_underlying hu]

theorem wpStill_load_mid {ops : Array Oper} {w : World} {Q : Act → Prop} {a : Act} {o : Oper} {rest : List Oper} (hw : Region.wanted o (yielded ops a.tmps) = true) (ty : TypeId) (x : Operand) (ho : o.op = .load ty x)
    (b of : Nat) (hx : a.eval x = .pointer (some ⟨b, of, none⟩)) (cs : List Value) (d : TypeDesc) (hc : w.rangeAt b of cs)
    (hu : P.underlying ty = some d) (hd : d.isRow = true) (hi : (P.info? ty).map (·.size) = some cs.length)
    (h : wpStill P ops w Q rest (a.put o.dst (.agg cs.toArray))) : wpStill P ops w Q (o :: rest) a := by
  refine wpStill_step fun K hK => ?_
  rw [if_pos hw]
  unfold Oper.still execOp
  simp only [ho, hx, Instr.loadAt, Instr.sureAddr, Sem.run_bind, Sem.run_pure, Result.andThen_ok, run_loadVar_mid w b of ty cs d hc hu hd hi]
  exact ⟨rfl, hK _ h⟩

theorem wpStill_build {ops : Array Oper} {w : World} {Q : Act → Prop} {a : Act} {o : Oper} {rest : List Oper} (hw : Region.wanted o (yielded ops a.tmps) = true) (t : TypeId) (parts : Array (Nat × Operand)) (ho : o.op = .build t parts)
    (cells : Array Value) (hf : P.built t (parts.map fun (i, x) => (i, a.eval x)).toList = some cells)
    (h : wpStill P ops w Q rest (a.put o.dst (.agg cells))) : wpStill P ops w Q (o :: rest) a := by
  refine wpStill_step fun K hK => ?_
  rw [if_pos hw]
  unfold Oper.still execOp
  simp only [ho, Sem.run_bind, run_build w t _ cells hf, Result.andThen_ok]
  exact ⟨rfl, hK _ h⟩
end

/-- Cells laid over a row, one after the other. -/
theorem fold_set (xs : List Value) : ∀ (k off : Nat) (pre mid post : List Value), pre.length = off + k → mid.length = xs.length →
    (xs.zipIdx k).foldl (fun (cs : Array Value) (p : Value × Nat) => cs.setIfInBounds (off + p.2) p.1) (pre ++ mid ++ post).toArray = (pre ++ xs ++ post).toArray := by
  induction xs with
  | nil =>
    intro k off pre mid post h1 h2
    have : mid = [] := List.eq_nil_of_length_eq_zero h2
    subst this
    simp
  | cons x xs ih =>
    intro k off pre mid post h1 h2
    cases mid with
    | nil => simp at h2
    | cons m mid =>
      rw [List.zipIdx_cons, List.foldl_cons]
      have e : ((pre ++ m :: mid ++ post).toArray.setIfInBounds (off + k) x) = ((pre ++ [x]) ++ mid ++ post).toArray := by
        rw [← h1]
        simp
      simp only [e]
      rw [ih (k + 1) off (pre ++ [x]) mid post (by simp; omega) (by simpa using h2)]
      simp
theorem fill_one (place : Nat → Option (Nat × Nat)) (i off : Nat) (v : Value) (xs pre mid post : List Value) (rest : List (Nat × Value)) (hp : place i = some (off, xs.length)) (hv : v.cells = xs.toArray)
    (h1 : pre.length = off) (h2 : mid.length = xs.length) :
    Instr.fill place (pre ++ mid ++ post).toArray ((i, v) :: rest) = Instr.fill place (pre ++ xs ++ post).toArray rest := by
  have := fold_set xs 0 off pre mid post (by omega) h2
  rw [Instr.fill]
  simp only [hp, hv]
  rw [if_neg (by simp; omega), ← this, ← Array.foldl_toList, Array.toList_zipIdx]

section
variable {w w' : World} {b g : Nat} {cs : Array Value} {t : TypeId}
theorem Bk.row (h : Bk w b cs t) (c' : Array Value) : Bk (w.setRow b c') b c' t := setRow_heap w b cs c' t (0, 0) h
theorem Bk.rowfar (h : Bk w b cs t) (hp : b ≠ g) (c' : Array Value) : Bk (w.setRow g c') b cs t := (setRow_other w g b c' hp).trans h
theorem below_row {a : World} (h : Below a.heap.size a w) (hg : a.heap.size ≤ g) (c' : Array Value) : Below a.heap.size a (w.setRow g c') := below_setRow h hg c'
theorem Bk.range (h : Bk w b cs t) : w.rangeAt b 0 cs.toList := fun j v hv => by
  rw [h.cell]
  simpa using hv
/-- A row that is read whole. -/
theorem Bk.loadVar {P : Program} (h : Bk w b cs t) (ty : TypeId) (hu : (P.underlying ty).map (·.isRow) = some true) (hi : (P.info? ty).map (·.size) = some cs.size) :
    (loadVar ty ⟨b, 0, none⟩).run P w = .ok (.agg cs) w := by
  obtain ⟨d, hu, hd⟩ := Option.map_eq_some_iff.1 hu
  have := run_loadVar_mid (P := P) w b 0 ty cs.toList d h.range hu hd (by simpa using hi)
  simpa using this
theorem Bk.put3 {x y z : Value} (h : Bk w b #[x, y, z] t) (u v q : Value) : Bk (((w.setCell ⟨b, 0, none⟩ u).setCell ⟨b, 1, none⟩ v).setCell ⟨b, 2, none⟩ q) b #[u, v, q] t := ((h.put 0 u).put 1 v).put 2 q
theorem Bk.far3 (h : Bk w b cs t) (hp : b ≠ g) (u v q : Value) : Bk (((w.setCell ⟨g, 0, none⟩ u).setCell ⟨g, 1, none⟩ v).setCell ⟨g, 2, none⟩ q) b cs t := ((h.far (p := ⟨g, 0, none⟩) hp u).far (p := ⟨g, 1, none⟩) hp v).far (p := ⟨g, 2, none⟩) hp q
theorem below_put3 {a : World} (h : Below a.heap.size a w) (hp : a.heap.size ≤ g) (u v q : Value) : Below a.heap.size a (((w.setCell ⟨g, 0, none⟩ u).setCell ⟨g, 1, none⟩ v).setCell ⟨g, 2, none⟩ q) :=
  ((h.setCell (p := ⟨g, 0, none⟩) hp u).setCell (p := ⟨g, 1, none⟩) hp v).setCell (p := ⟨g, 2, none⟩) hp q
theorem Bk.loadC {P : Program} (h : Bk w b cs t) (n : Nat) (hn : cs.size = n) : (loadCellsFrom ⟨b, 0, none⟩ 0 n #[]).run P w = .ok cs w := by
  subst hn
  have := run_loadCells_list (P := P) w ⟨b, 0, none⟩ cs.toList (fun j v hv => by
    rw [Addr.add_mid]
    exact h.range j v hv)
  simpa [loadCells] using this
theorem Bk.storeC {P : Program} (h : Bk w b cs t) (ty : TypeId) (c' : Array Value) (hi : (P.info? ty).map (·.size) = some c'.size) (ho : cs.size = c'.size) (h1 : c'.all (·.oneCell') = true) :
    (storeCells ⟨b, 0, none⟩ c'.toList 0).run P w = .ok () (w.setRow b c') := by
  have := run_storeVar_row (P := P) w b t ty cs c' h hi ho h1
  cases hq : P.info? ty with
  | none => simp [hq] at hi
  | some i =>
    have hs : c'.size = i.size := by simp [hq] at hi; omega
    simpa [storeVar, sizeOf, typeInfo, hq, Value.cells, hs] using this
/-- Results of which the first lies in a box. -/
theorem Bk.res1 {P : Program} {fn : Func} {p : Tmp} {ty : TypeId} (h : Bk w b cs t) (hf : fn.results = #[.cell p ty]) (tmps : Array Value) (hp : tmps.getD p undef = .pointer (some ⟨b, 0, none⟩))
    (hu : (P.underlying ty).map (·.isRow) = some true) (hi : (P.info? ty).map (·.size) = some cs.size) : (results fn tmps).run P w = .ok (.agg cs) w := by
  have hp' : tmps[p]?.getD undef = .pointer (some ⟨b, 0, none⟩) := by simpa using hp
  simp [results, hf, hp', asAddr, h.loadVar (P := P) ty hu hi]
theorem Bk.res2 {P : Program} {fn : Func} {p u : Tmp} {ty : TypeId} (h : Bk w b cs t) (hf : fn.results = #[.cell p ty, .tmp u]) (tmps : Array Value) (hp : tmps.getD p undef = .pointer (some ⟨b, 0, none⟩))
    (hu : (P.underlying ty).map (·.isRow) = some true) (hi : (P.info? ty).map (·.size) = some cs.size) : (results fn tmps).run P w = .ok (.tuple #[.agg cs, tmps.getD u undef]) w := by
  have hp' : tmps[p]?.getD undef = .pointer (some ⟨b, 0, none⟩) := by simpa using hp
  simp [results, hf, hp', asAddr, h.loadVar (P := P) ty hu hi]
theorem Bk.res3 {P : Program} {fn : Func} {p u v : Tmp} {ty : TypeId} (h : Bk w b cs t) (hf : fn.results = #[.cell p ty, .tmp u, .tmp v]) (tmps : Array Value) (hp : tmps.getD p undef = .pointer (some ⟨b, 0, none⟩))
    (hu : (P.underlying ty).map (·.isRow) = some true) (hi : (P.info? ty).map (·.size) = some cs.size) : (results fn tmps).run P w = .ok (.tuple #[.agg cs, tmps.getD u undef, tmps.getD v undef]) w := by
  have hp' : tmps[p]?.getD undef = .pointer (some ⟨b, 0, none⟩) := by simpa using hp
  simp [results, hf, hp', asAddr, h.loadVar (P := P) ty hu hi]
end
end Go.Proofs.YtpkgfkhaiifooaaGreatDoor
