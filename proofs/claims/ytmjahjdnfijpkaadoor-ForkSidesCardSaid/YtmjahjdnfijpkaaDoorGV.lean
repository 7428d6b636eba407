/- Several texts in one. -/
import Derived.Test.YtmjahjdnfijpkaaDoorGU
import Derived.Test.YtmjahjdnfijpkaaDoorHM
import Derived.Deep.RegionHeld3
/- Page tables: Frames. -/
namespace Go.Proofs.YtmjahjdnfijpkaaDoor
open Go Go.Proofs Go.RowKit
set_option linter.unusedSimpArgs false
set_option linter.unusedVariables false
set_option maxRecDepth 100000

theorem infoInt : (Tryd.prog.info? 3).map (fun i => (i.zero, i.size, i.bytes)) = some (some (.int .i64 0), 1, 8) := by kernel_rfl
/-- Numbers and an error that a call returned. -/
def IsRes (w w' : World) (zs : List Int) (er : Int) (e : Ending) : Prop := ∃ v, e = .returned (.tuple #[v, .int .i64 er]) ∧ IsV w' v zs ∧ Below w.heap.size w w'
theorem IsV.own {w : World} {B : Nat} {e : TypeId} {v : Value} {zs : List Int} (h : w.ownsRow B e 1 v zs.length (iw zs)) : IsV w v zs := by
  obtain ⟨A, c, e, h1⟩ := own_slice h
  exact ⟨A, c, e, h1⟩
/-- The frames of the leaves, and then that of the root. -/
def frmA (r : Int) (ls : List Int) : List Int := frmL ls 8 ++ (if r = -1 then [] else [r])
theorem frmL_len (ls : List Int) (k : Nat) : (frmL ls k).length ≤ k := by
  unfold frmL
  have h1 := List.length_filter_le (fun f => decide (f ≠ -1)) (ls.take k)
  have h2 : (ls.take k).length ≤ k := by rw [List.length_take]; omega
  omega
theorem frmL_succ (ls : List Int) (k : Nat) (hk : k < ls.length) : frmL ls (k + 1) = frmL ls k ++ (if ls.getD k 0 = -1 then [] else [ls.getD k 0]) := by
  unfold frmL
  rw [List.take_add_one, List.filter_append, List.getElem?_eq_getElem hk, List.getD_eq_getElem?_getD, List.getElem?_eq_getElem hk]
  congr 1
  simp only [Option.toList, Option.getD]
  by_cases h : ls[k] = -1 <;> simp [h]

end Go.Proofs.YtmjahjdnfijpkaaDoor
/- Page tables: find, Pages, Counts. -/
namespace Go.Proofs.YtmjahjdnfijpkaaDoor
open Go Go.Proofs Go.RowKit
set_option linter.unusedSimpArgs false
set_option linter.unusedVariables false
set_option maxRecDepth 100000

theorem kinL_len (es : List Nat) (kd : Int) (n : Nat) : (kinL es kd n).length ≤ n := by
  unfold kinL
  have := List.length_filter_le (fun p => unpK (es.getD p 0) == kd) (List.range n)
  simp at this ⊢
  omega
theorem kinL_succ (es : List Nat) (kd : Int) (n : Nat) : kinL es kd (n + 1) = kinL es kd n ++ (if unpK (es.getD n 0) = kd then [(n : Int)] else []) := by
  unfold kinL
  rw [List.range_succ, List.filter_append, List.map_append]
  congr 1
  by_cases h : unpK (es.getD n 0) = kd
  · have : (unpK (es.getD n 0) == kd) = true := by simpa using h
    rw [if_pos h, List.filter_cons_of_pos (by exact this)]
    rfl
  · have : ¬ (unpK (es.getD n 0) == kd) = true := by simpa using h
    rw [if_neg h, List.filter_cons_of_neg (by exact this)]
    rfl
theorem kinL_skip (es : List Nat) (kd : Int) (m n : Nat) (hmn : m ≤ n) (h : ∀ p, m ≤ p → p < n → unpK (es.getD p 0) ≠ kd) : kinL es kd n = kinL es kd m := by
  induction n with
  | zero => rw [show m = 0 by omega]
  | succ n ih =>
    rcases Nat.lt_or_ge m (n + 1) with h1 | h1
    · rw [kinL_succ, if_neg (h n (by omega) (by omega)), List.append_nil]
      exact ih (by omega) fun p h2 h3 => h p h2 (by omega)
    · rw [show m = n + 1 by omega]
theorem getD_small {es : List Nat} (hs : wsmall es) (p : Nat) (hp : p < es.length) : es.getD p 0 < 18446744073709551616 := by
  rw [List.getD_eq_getElem?_getD, List.getElem?_eq_getElem hp]
  exact hs _ (List.getElem_mem hp)

end Go.Proofs.YtmjahjdnfijpkaaDoor
/- Page tables: Pages, Counts. -/
namespace Go.Proofs.YtmjahjdnfijpkaaDoor
open Go Go.Proofs Go.RowKit
set_option linter.unusedSimpArgs false
set_option linter.unusedVariables false
set_option maxRecDepth 100000

end Go.Proofs.YtmjahjdnfijpkaaDoor
/- Page tables: Counts. -/
namespace Go.Proofs.YtmjahjdnfijpkaaDoor
open Go Go.Proofs Go.RowKit
set_option linter.unusedSimpArgs false
set_option linter.unusedVariables false
set_option maxRecDepth 100000

end Go.Proofs.YtmjahjdnfijpkaaDoor
