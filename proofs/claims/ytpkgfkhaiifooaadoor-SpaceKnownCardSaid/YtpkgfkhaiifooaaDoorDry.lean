/- Drawn regions by hand: a goal that many ways share; address spaces beside a box that is written. -/
import Derived.Test.YtpkgfkhaiifooaaDoorDrx
import Derived.Test.YtpkgfkhaiifooaaDoorSpS
namespace Go.Proofs.YtpkgfkhaiifooaaDoor
open Go Go.Proofs Go.RowKit
set_option linter.unusedSimpArgs false
set_option linter.unusedVariables false

/-- A goal behind some operations is proved once, for every way that leads there. -/
theorem shareD {X : Type} {P : Program} {md : Region.Mode} {ops : Array Oper} {Q : Exit → Act → World → Prop} {S : World → Prop} {fuel : Nat} {listed : Array Bool} {a : Act} {w : World} (I : X → World → Prop) (f2 : Nat) (l2 : Array Bool) (put : Act → X → Act)
    (main : (∀ x W, I x W → wpAnyH P md ops Q S f2 l2 (put a x) W) → wpAnyH P md ops Q S fuel listed a w)
    (leaf : ∀ x W, I x W → wpAnyH P md ops Q S f2 l2 (put a x) W) : wpAnyH P md ops Q S fuel listed a w := main leaf
/-- The slices of an address space lie in no block g. -/
def SNo (g : Nat) (v : Value) : Prop := ∀ A n c r L l cl B m d, v = spcV A n c r L l cl B m d → (∀ b off, 0 < n → A = some ⟨b, off, none⟩ → b ≠ g) ∧ (∀ b off, 0 < l → L = some ⟨b, off, none⟩ → b ≠ g) ∧ (∀ b off, 0 < m → B = some ⟨b, off, none⟩ → b ≠ g)
theorem SNo.loc {lo g : Nat} {v : Value} (h : SLoc lo v) (hg : g < lo) : SNo g v := fun A n c r L l cl B m d e => by
  obtain ⟨h1, h2, h3⟩ := h A n c r L l cl B m d e
  exact ⟨fun b off h0 e => by have := h1 b off h0 e; omega, fun b off h0 e => by have := h2 b off h0 e; omega, fun b off h0 e => by have := h3 b off h0 e; omega⟩
theorem rd_ltD {w : World} {sz n : Nat} {A : Option Addr} {xs : List Value} (h : Rd w sz A n xs) : ∀ b off, 0 < n → A = some ⟨b, off, none⟩ → b < w.heap.size := fun b off h0 e => by
  obtain ⟨b', off', e', hb, _⟩ := h.2 h0
  rw [e] at e'
  injection e' with e'
  injection e' with e'
  omega
theorem SNo.new {w : World} {v : Value} {s : Sp} {g : Nat} (h : SpV w v s) (hg : w.heap.size ≤ g) : SNo g v := fun A n c r L l cl B m d e => by
  obtain ⟨A', c', L', cl', B', d', e', h1, h2, h3, _⟩ := h
  rw [e] at e'
  simp only [spcV, Value.agg.injEq, Array.mk.injEq, List.cons.injEq, Value.slice.injEq] at e'
  obtain ⟨⟨rfl, rfl, _⟩, _, ⟨rfl, rfl, _⟩, ⟨rfl, rfl, _⟩, _⟩ := e'
  exact ⟨fun b off h0 e => by have := rd_ltD h1 b off h0 e; omega, fun b off h0 e => by have := rd_ltD h2 b off h0 e; omega, fun b off h0 e => by have := rd_ltD h3 b off h0 e; omega⟩
theorem SpV.rowfar {w : World} {v : Value} {s : Sp} {g : Nat} (h : SpV w v s) (hg : SNo g v) (c' : Array Value) : SpV (w.setRow g c') v s := by
  obtain ⟨A, c, L, cl, B, d, e, h1, h2, h3, h4⟩ := h
  obtain ⟨k1, k2, k3⟩ := hg _ _ _ _ _ _ _ _ _ _ e
  exact ⟨A, c, L, cl, B, d, e, h1.rowfar k1 c', h2.rowfar k2 c', h3.rowfar k3 c', h4⟩
theorem SpV.far {w : World} {v : Value} {s : Sp} {p : Addr} (h : SpV w v s) (hg : SNo p.block v) (u : Value) : SpV (w.setCell p u) v s := by
  obtain ⟨A, c, L, cl, B, d, e, h1, h2, h3, h4⟩ := h
  obtain ⟨k1, k2, k3⟩ := hg _ _ _ _ _ _ _ _ _ _ e
  exact ⟨A, c, L, cl, B, d, e, h1.far k1 u, h2.far k2 u, h3.far k3 u, h4⟩
theorem SpV.cells {w : World} {v : Value} {s : Sp} (h : SpV w v s) : ∃ A c L cl B d, v = .agg #[.slice A s.1.length c, .int .i64 s.2.1, .slice L s.2.2.1.length cl, .slice B s.2.2.2.length d] := by
  obtain ⟨A, c, L, cl, B, d, e, _⟩ := h
  exact ⟨A, c, L, cl, B, d, e⟩
end Go.Proofs.YtpkgfkhaiifooaaDoor
