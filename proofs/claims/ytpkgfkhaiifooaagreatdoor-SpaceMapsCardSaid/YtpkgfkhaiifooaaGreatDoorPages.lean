/- The iterator over the pages of a range (package addr), as a contract. -/
import Derived.RangeFuncNested
import Derived.RangeFuncBound
import Derived.RangeFuncCalls
import Derived.RangeFuncLeaves
import Derived.Shelf.Abstract
import Derived.Shelf.RegionOpen
import Derived.OwnWalkIn
import Derived.TacticsInMore
import Derived.LoopNIn
import Derived.LoopIn
import Derived.Test.YtpkgfkhaiifooaaGreatDoorAddr0
namespace Go.Proofs.YtpkgfkhaiifooaaGreatDoor
open Go Go.Proofs Go.RowKit Go.Shelf
set_option linter.unusedSimpArgs false
set_option linter.unusedVariables false
attribute [local go_sem] Oper.semAt_some

/-- A page. -/
abbrev Pg := { x : Int // 0 ≤ x ∧ x < 64 }
def pg (x : Int) : Pg := ⟨x % 64, by omega⟩
theorem pg_val (x : Int) (h0 : 0 ≤ x) (h1 : x < 64) : (pg x).1 = x := by show x % 64 = x; omega
def pgs (a : Int) (k : Nat) : List Pg := (List.range k).map fun i : Nat => pg (a + (i : Int))
theorem pgs_succ (a : Int) (k : Nat) : pgs a (k + 1) = pgs a k ++ [pg (a + k)] := by simp [pgs, List.range_succ]
theorem pgs_len (a : Int) (k : Nat) : (pgs a k).length = k := by simp [pgs]

/-- Block B lies as it lay. -/
def KeepB (B : Nat) (X Y : World) : Prop := Y.heap[B]? = X.heap[B]?
theorem KeepB.cell {B : Nat} {X Y : World} (h : KeepB B X Y) (o : Nat) : Y.cell? ⟨B, o, none⟩ = X.cell? ⟨B, o, none⟩ := World.cell?_of_block (a := ⟨B, o, none⟩) h
theorem keepB_t {B : Nat} {X Y Z : World} (h : KeepB B X Y) (k : KeepB B Y Z) : KeepB B X Z := Eq.trans k h
theorem keepB_b {B : Nat} {w : World} (hB : B < w.heap.size) (W : World) (l : Nat) (o o' : Obj) (hl : w.heap.size ≤ l) (_ : W.heap[l]? = some o) (_ : o.isCells = false) (_ : o.isWalk = false) : KeepB B W (W.putObj l o') :=
  World.putObj_heap_other (by omega)

theorem ownsRow_less {W : World} {base base' : Nat} {e : TypeId} {size : Nat} {v : Value} {k : Nat} {xs : List Value} (h : W.ownsRow base e size v k xs) (hb : base' ≤ base) : W.ownsRow base' e size v k xs := by
  refine ⟨h.1, ?_⟩
  rcases h.2 with hn | ⟨g, cap, cur, hv, hbg, rest⟩
  · exact .inl hn
  · exact .inr ⟨g, cap, cur, hv, Nat.le_trans hb hbg, rest⟩

/-- A variable in a box takes a row that append has made. -/
theorem boxed_append {W w1 : World} {n₀ base B : Nat} {t e : TypeId} {size : Nat} {v v' : Value} {k m : Nat} {xs ys : List Value} {tmp : Obj}
    (hv : Boxed W B t v) (hrow : W.ownsRow base e size v k xs) (hB : B < base) (hn : n₀ ≤ B) (hs : base ≤ W.heap.size)
    (hown' : w1.ownsRow base e size v' m ys) (hgrow : (W.alloc tmp).grownBy w1 v.ownBlock) :
    Boxed w1 B t v ∧ Boxed (w1.setCell ⟨B, 0, none⟩ v') B t v' ∧ (w1.setCell ⟨B, 0, none⟩ v').ownsRow base e size v' m ys ∧ KeepsOthers W (w1.setCell ⟨B, 0, none⟩ v') ∧ Below n₀ W (w1.setCell ⟨B, 0, none⟩ v') ∧
      (∀ Br, Br < base → Br ≠ B → KeepB Br W (w1.setCell ⟨B, 0, none⟩ v')) := by
  have hne : ∀ j, j < base → some j ≠ v.ownBlock := fun j hj e' => by have := (hrow.lt j e'.symm).1; omega
  have hne' : ∀ j, j < base → v'.ownBlock ≠ some j := fun j hj e' => by have := (hown'.lt j e').1; omega
  have hv1 : Boxed w1 B t v := (hv.alloc tmp).kept hgrow (hne B hB)
  refine ⟨hv1, hv1.set v', hown'.kept (grownBy_setCell' w1 B v') (.inr (hne' B hB)), ?_, ?_, ?_⟩
  · refine ((KeepsOthers.alloc W tmp).trans (KeepsOthers.of_grownBy hgrow fun j o ej hj => ?_)).trans (KeepsOthers.setCell _ _ _)
    rcases (hrow.alloc tmp).2 with ⟨rfl, _⟩ | ⟨g, cap, cur, rfl, _, hgb, _⟩
    · simp [Value.ownBlock] at ej
    · have : g = j := by simpa [Value.ownBlock] using ej
      subst this; rw [hgb] at hj; cases hj; rfl
  · exact (((Below.refl n₀ W).alloc (by omega) tmp).grown hgrow (by simp; omega) (fun j e' => by have := (hrow.lt j e').1; omega)).setCell (p := ⟨B, 0, none⟩) hn _
  · intro Br hBr hBB
    show (w1.setCell ⟨B, 0, none⟩ v').heap[Br]? = W.heap[Br]?
    rw [Below.heap_setCell w1 ⟨B, 0, none⟩ v' Br hBB, hgrow.block Br (by simp; omega) (hne Br hBr), Below.heap_alloc W tmp Br (by omega)]

end Go.Proofs.YtpkgfkhaiifooaaGreatDoor
