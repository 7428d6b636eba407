/- Rows of truth values. -/
import Derived.Test.YtpkgfkhaiifooaaGreatDoorOwn2
import Derived.Test.YtpkgfkhaiifooaaGreatDoorProg
import Derived.Deep.OwnRows
namespace Go.Proofs.YtpkgfkhaiifooaaGreatDoor
open Go Go.Proofs Go.RowKit
set_option linter.unusedSimpArgs false
set_option linter.unusedVariables false

def bw (l : List Bool) : List Value := l.map Value.bool
theorem bw_len (l : List Bool) : (bw l).length = l.length := by simp [bw]
theorem oneCells_bw (l : List Bool) : ∀ u ∈ bw l, u.oneCell' = true := by
  intro u hu
  obtain ⟨z, _, rfl⟩ := List.mem_map.1 hu
  rfl
theorem own_nil (w : World) (base : Nat) (e : TypeId) (sz : Nat) : w.ownsRow base e sz (.slice none 0 0) 0 [] := ⟨by simp, .inl ⟨rfl, rfl⟩⟩
theorem infoBool : (Tryz.prog.info? 4).map (fun i => (i.zero, i.size, i.bytes)) = some (some (.bool false), 1, 1) := by kernel_rfl
theorem own_boolAt {w : World} {B g n cap : Nat} {e : TypeId} {l : List Bool} (h : w.ownsRow B e 1 (.slice (some ⟨g, 0, none⟩) n cap) n (bw l)) {i : Nat} (hi : i < n) :
    w.cell? ⟨g, i, none⟩ = some (.bool (l.getD i false)) := by
  have hl : l.length = n := by have := h.1; rw [bw_len] at this; omega
  rw [h.cellAt i (by omega)]
  simp [bw, List.getElem?_map, List.getD_eq_getElem?_getD, hl, hi]
theorem own_putB {w : World} {B g n cap : Nat} {e : TypeId} {l : List Bool} (h : w.ownsRow B e 1 (.slice (some ⟨g, 0, none⟩) n cap) n (bw l)) (i : Nat) (x : Bool) :
    (w.setCell ⟨g, i, none⟩ (.bool x)).ownsRow B e 1 (.slice (some ⟨g, 0, none⟩) n cap) n (bw (l.set i x)) := by
  have := (h.stored i (.bool x)).1
  rwa [show (bw l).set i (.bool x) = bw (l.set i x) by simp [bw]] at this
theorem Rd.bool {w : World} {A : Option Addr} {n : Nat} {l : List Bool} (h : Rd w 1 A n (bw l)) {i : Nat} (hi : i < n) :
    ∃ b off, A = some ⟨b, off, none⟩ ∧ b < w.heap.size ∧ w.cell? ⟨b, off + i, none⟩ = some (.bool (l.getD i false)) := by
  obtain ⟨b, off, e, hb, hc⟩ := h.2 (by omega)
  have hl : l.length = n := by have := h.1; rw [bw_len] at this; omega
  exact ⟨b, off, e, hb, hc i _ (by simp [bw, List.getElem?_map, List.getD_eq_getElem?_getD, hl, hi])⟩
/-- A new row of truth values. -/
theorem own_falses (w : World) (e : TypeId) (k : Nat) (hk : k ≤ 1000000) : (w.alloc (.cells (madeCells #[.bool false] k) e)).ownsRow w.heap.size e 1 (.slice (some ⟨w.heap.size, 0, none⟩) k k) k (bw (List.replicate k false)) := by
  refine ⟨by simp [bw], .inr ⟨w.heap.size, k, madeCells #[.bool false] k, rfl, Nat.le_refl _, heap_alloc_new w _, Nat.le_refl _, by simp only [maxLen]; omega, ?_, ?_⟩⟩
  · simp [madeCells]
  · have : ∀ x, [Value.bool false][x % 1]?.getD default = Value.bool false := fun x => by rw [Nat.mod_one]; rfl
    simp [madeCells, bw, this]
    rw [show (fun x : Nat => Value.bool false) = Function.const Nat (Value.bool false) from rfl, List.map_const]
    simp
end Go.Proofs.YtpkgfkhaiifooaaGreatDoor
