/- Boxes and slices behind a statement whose order is open: lemmas for a search. -/
import Derived.Test.YtpkgfkhaiifooaaGreatDoorBase
namespace Go.Proofs.YtpkgfkhaiifooaaGreatDoor
open Go Go.RowKit
set_option linter.unusedSimpArgs false
set_option linter.unusedVariables false

section
variable {w w' : World} {b : Nat} {cs : Array Value} {t : TypeId}
theorem Bk.new1 (w : World) (o : Obj) (cs : Array Value) (t : TypeId) : Bk ((w.alloc o).alloc (.cells cs t)) (w.heap.size + 1) cs t := by
  have := Bk.new (w.alloc o) cs t
  rwa [World.size_alloc] at this
theorem Bk.new2 (w : World) (p i j : Nat) (u v : Value) (cs : Array Value) (t : TypeId) : Bk (((w.setCell ⟨p, i, none⟩ u).setCell ⟨p, j, none⟩ v).alloc (.cells cs t)) w.heap.size cs t := by
  have := Bk.new ((w.setCell ⟨p, i, none⟩ u).setCell ⟨p, j, none⟩ v) cs t
  simpa using this
theorem Bk.put2 {x y : Value} (h : Bk w b #[x, y] t) (u v : Value) : Bk ((w.setCell ⟨b, 0, none⟩ u).setCell ⟨b, 1, none⟩ v) b #[u, v] t := (h.put 0 u).put 1 v
theorem Bk.far2 (h : Bk w b cs t) {p : Nat} (hp : b ≠ p) (i j : Nat) (u v : Value) : Bk ((w.setCell ⟨p, i, none⟩ u).setCell ⟨p, j, none⟩ v) b cs t := (h.far hp u).far hp v
end
/-- A slice that reads as xs and, if it has elements, lies in a block from lo to hi - 1. -/
def RdIn (w : World) (lo hi sz : Nat) (A : Option Addr) (n : Nat) (xs : List Value) : Prop :=
  Rd w sz A n xs ∧ ∀ b off, 0 < n → A = some ⟨b, off, none⟩ → lo ≤ b ∧ b < hi
section
variable {w w' : World} {lo hi sz n : Nat} {A : Option Addr} {xs : List Value}
theorem RdIn.rd (h : RdIn w lo hi sz A n xs) : Rd w sz A n xs := h.1
theorem RdIn.alloc (h : RdIn w lo hi sz A n xs) (o : Obj) : RdIn (w.alloc o) lo hi sz A n xs := ⟨h.1.alloc o, h.2⟩
theorem RdIn.drew (h : RdIn w lo hi sz A n xs) : RdIn w.drew lo hi sz A n xs := h
theorem RdIn.to (h : RdIn w lo hi sz A n xs) (hb : Below w.heap.size w w') : RdIn w' lo hi sz A n xs := ⟨h.1.below hb (Nat.le_refl _), h.2⟩
theorem Rd.far (h : Rd w sz A n xs) {p : Addr} (hp : ∀ b off, 0 < n → A = some ⟨b, off, none⟩ → b ≠ p.block) (u : Value) : Rd (w.setCell p u) sz A n xs := by
  refine ⟨h.1, fun hn => ?_⟩
  obtain ⟨b, off, e, hb, hc⟩ := h.2 hn
  refine ⟨b, off, e, by simpa using hb, fun j x hx => ?_⟩
  rw [← hc j x hx]
  have := Below.heap_setCell w p u b (hp b off hn e)
  simp only [World.cell?, this]
theorem RdIn.far2 (h : RdIn w lo hi sz A n xs) {p : Nat} (hp : p < lo ∨ hi ≤ p) (i j : Nat) (u v : Value) : RdIn ((w.setCell ⟨p, i, none⟩ u).setCell ⟨p, j, none⟩ v) lo hi sz A n xs := by
  refine ⟨(h.1.far (p := ⟨p, i, none⟩) ?_ u).far (p := ⟨p, j, none⟩) ?_ v, h.2⟩
  all_goals
    intro b off hn e
    have := h.2 b off hn e
    show b ≠ p
    omega
theorem RdIn.of {B c : Nat} {e : TypeId} (h : w.ownsRow B e sz (.slice A n c) n xs) : RdIn w B w.heap.size sz A n xs := by
  refine ⟨Rd.own h, fun b off hn e => ?_⟩
  subst e
  exact h.lt b rfl
end
theorem below_put2 {a w : World} {p : Nat} (h : Below a.heap.size a w) (hp : a.heap.size ≤ p) (i j : Nat) (u v : Value) : Below a.heap.size a ((w.setCell ⟨p, i, none⟩ u).setCell ⟨p, j, none⟩ v) := (h.setCell (p := ⟨p, i, none⟩) hp u).setCell (p := ⟨p, j, none⟩) hp v
end Go.Proofs.YtpkgfkhaiifooaaGreatDoor
