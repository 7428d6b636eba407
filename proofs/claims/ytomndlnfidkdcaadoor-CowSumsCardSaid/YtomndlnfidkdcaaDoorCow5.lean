/- cow.shut: the words of all tables. -/
import Derived.Test.YtomndlnfidkdcaaDoorCow4
import Derived.Test.YtomndlnfidkdcaaDoorCowP
import Derived.Deep.OwnRows
namespace Go.Proofs.YtomndlnfidkdcaaDoor
open Go Go.Proofs Go.RowKit Go.Maps
set_option linter.unusedSimpArgs false
set_option linter.unusedVariables false
set_option maxRecDepth 100000

abbrev e0 : En5 := (0, 0, false, false, false)
theorem infoSl : (Tryd.prog.info? 54).map (fun i => (i.zero, i.size, i.bytes)) = some (some (.slice none 0 0), 1, 24) := by kernel_rfl
theorem infoWd : (Tryd.prog.info? 52).map (fun i => (i.zero, i.size, i.bytes)) = some (some (.int .u64 0), 1, 8) := by kernel_rfl
/-- The cell of a table in the result. -/
def shV (U : List (List En5)) (G : Nat → Nat) (k i : Nat) : Value := if i < k then .slice (some ⟨G i, 0, none⟩) (U.getD i []).length (U.getD i []).length else .slice none 0 0
/-- The word of an entry in the result; 0 from q on. -/
def shX (l : List En5) (q j : Nat) : Value := .int .u64 ((if j < q then packE (l.getD j e0) else 0 : Nat) : Int)
/-- The first k tables are there. -/
def ShutR (U : List (List En5)) (n : Nat) (w : World) (k : Nat) (wr : World) : Prop :=
  ∃ G : Nat → Nat, wr.rowIs w.heap.size 54 n (shV U G k) ∧ (∀ i, i < k → w.heap.size < G i ∧ wr.rowIs (G i) 52 (U.getD i []).length (shX (U.getD i []) (U.getD i []).length)) ∧ Below w.heap.size w wr
/-- .. and q words of table k, which lies in block g. -/
def ShutI (U : List (List En5)) (n : Nat) (w : World) (k g q : Nat) (wr : World) : Prop :=
  ∃ G : Nat → Nat, G k = g ∧ wr.rowIs w.heap.size 54 n (shV U G (k + 1)) ∧ (∀ i, i < k → w.heap.size < G i ∧ G i ≠ g ∧ wr.rowIs (G i) 52 (U.getD i []).length (shX (U.getD i []) (U.getD i []).length)) ∧ w.heap.size < g ∧
    wr.rowIs g 52 (U.getD k []).length (shX (U.getD k []) q) ∧ Below w.heap.size w wr
section
variable {U : List (List En5)} {n k g q : Nat} {w wr wr' : World}
theorem ShutR.start (hn : n = U.length) : ShutR U n w 0 (w.alloc (.cells (madeCells #[.slice none 0 0] n) 54)) :=
  ⟨fun _ => 0, (World.rowIs_made w _ n _).congr fun i hi => by simp [shV], fun i hi => absurd hi (by omega), balloc (Below.refl _ _) _⟩
theorem rowIs_block {b : Nat} {t : TypeId} {m : Nat} {f : Nat → Value} (h : wr.rowIs b t m f) (hb : Below wr.heap.size wr wr') : wr'.rowIs b t m f := h.of_block (hb.block b h.lt)
theorem ShutI.to (h : ShutI U n w k g q wr) (hb : Below wr.heap.size wr wr') : ShutI U n w k g q wr' := by
  obtain ⟨G, e, h1, h2, h3, h4, h5⟩ := h
  exact ⟨G, e, rowIs_block h1 hb, fun i hi => ⟨(h2 i hi).1, (h2 i hi).2.1, rowIs_block (h2 i hi).2.2 hb⟩, h3, rowIs_block h4 hb, bnext h5 hb⟩
/-- A new row, and its place in the outer one. -/
theorem ShutR.open (h : ShutR U n w k wr) (hk : k < n) : ShutI U n w k wr.heap.size 0 ((wr.setCell ⟨w.heap.size, k, none⟩ (.slice (some ⟨wr.heap.size, 0, none⟩) (U.getD k []).length (U.getD k []).length)).alloc (.cells (madeCells #[.int .u64 0] (U.getD k []).length) 52)) := by
  obtain ⟨G, h1, h2, h3⟩ := h
  have hl := h1.lt
  refine ⟨fun i => if i = k then wr.heap.size else G i, by simp, ?_, ?_, hl, ?_, ?_⟩
  · refine ((h1.set k _).alloc _).congr fun i hi => ?_
    by_cases e : i = k
    · subst e
      simp [shV]
    · simp only [if_neg e, shV]
      by_cases h4 : i < k
      · rw [if_pos h4, if_pos (by omega)]
      · rw [if_neg h4, if_neg (by omega)]
  · intro i hi
    obtain ⟨h4, h5⟩ := h2 i hi
    have hne : i ≠ k := by omega
    have := h5.lt
    simp only [if_neg hne]
    exact ⟨h4, by omega, (h5.setOther (by show G i ≠ w.heap.size; omega) _).alloc _⟩
  · have h6 := World.rowIs_made (wr.setCell ⟨w.heap.size, k, none⟩ (.slice (some ⟨wr.heap.size, 0, none⟩) (U.getD k []).length (U.getD k []).length)) (.int .u64 0) (U.getD k []).length 52
    have hs : (wr.setCell ⟨w.heap.size, k, none⟩ (.slice (some ⟨wr.heap.size, 0, none⟩) (U.getD k []).length (U.getD k []).length)).heap.size = wr.heap.size := by simp
    rw [hs] at h6
    exact h6.congr fun j hj => by simp [shX]
  · exact balloc (h3.setCell (p := ⟨w.heap.size, k, none⟩) (Nat.le_refl _) _) _
/-- One word more. -/
theorem ShutI.put (h : ShutI U n w k g q wr) (x : En5) (hx : (U.getD k [])[q]? = some x) : ShutI U n w k g (q + 1) (wr.setCell ⟨g, q, none⟩ (.int .u64 (packE x : Nat))) := by
  obtain ⟨G, e, h1, h2, h3, h4, h5⟩ := h
  refine ⟨G, e, h1.setOther (by show w.heap.size ≠ g; omega) _, fun i hi => ⟨(h2 i hi).1, (h2 i hi).2.1, (h2 i hi).2.2.setOther (h2 i hi).2.1 _⟩, h3, ?_, h5.setCell (p := ⟨g, q, none⟩) (by show w.heap.size ≤ g; omega) _⟩
  refine (h4.set q _).congr fun j hj => ?_
  by_cases e1 : j = q
  · subst e1
    rw [if_pos rfl]
    simp only [shX, List.getD_eq_getElem?_getD, ] at hx ⊢
    rw [if_pos (by omega), hx]
    rfl
  · rw [if_neg e1]
    simp only [shX]
    by_cases h6 : j < q
    · rw [if_pos h6, if_pos (by omega)]
    · rw [if_neg h6, if_neg (by omega)]
theorem ShutI.close (h : ShutI U n w k g (U.getD k []).length wr) : ShutR U n w (k + 1) wr := by
  obtain ⟨G, e, h1, h2, h3, h4, h5⟩ := h
  refine ⟨G, h1, fun i hi => ?_, h5⟩
  by_cases e1 : i = k
  · subst e1
    rw [e]
    exact ⟨h3, h4⟩
  · exact ⟨(h2 i (by omega)).1, (h2 i (by omega)).2.2⟩
theorem rowIs_rd {b : Nat} {t : TypeId} {m : Nat} {f : Nat → Value} (h : wr.rowIs b t m f) (xs : List Value) (hl : xs.length = m) (hx : ∀ j, j < m → xs[j]? = some (f j)) : Rd wr 1 (some ⟨b, 0, none⟩) m xs := by
  refine ⟨by omega, fun _ => ⟨b, 0, rfl, h.lt, fun j u hu => ?_⟩⟩
  have hj : j < m := by rw [← hl]; exact (List.getElem?_eq_some_iff.1 hu).1
  rw [hx j hj] at hu
  have := h.cell hj
  rw [Nat.zero_add, this, hu]
theorem ShutR.done (h : ShutR U n w n wr) (hn : U.length = n) : RR uw 1 wr (some ⟨w.heap.size, 0, none⟩) n (U.map fun l => l.map packE) := by
  obtain ⟨G, h1, h2, h3⟩ := h
  refine ⟨by simpa using hn, (List.range n).map (shV U G n), rowIs_rd h1 _ (by simp) (fun j hj => by simp [hj]), fun i l hl => ?_⟩
  rw [List.getElem?_map] at hl
  obtain ⟨m, hm, rfl⟩ := Option.map_eq_some_iff.1 hl
  have hi : i < n := by rw [← hn]; exact (List.getElem?_eq_some_iff.1 hm).1
  have hg : U.getD i [] = m := by rw [List.getD_eq_getElem?_getD, hm]; rfl
  obtain ⟨h4, h5⟩ := h2 i hi
  rw [hg] at h5
  refine ⟨some ⟨G i, 0, none⟩, m.length, by simp [hi, shV, hm], ?_⟩
  rw [List.length_map]
  refine rowIs_rd h5 _ (by simp [uw]) (fun j hj => ?_)
  simp [uw, shX, hj]
end
end Go.Proofs.YtomndlnfidkdcaaDoor
