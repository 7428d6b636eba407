/- Drawn regions by hand: rows of a call's own. -/
import Derived.Test.YtpkgfkhaiifooaaDoorDrw
namespace Go.Proofs.YtpkgfkhaiifooaaDoor
open Go Go.Proofs Go.RowKit
set_option linter.unusedSimpArgs false
set_option linter.unusedVariables false

/-- A row of a call's own, in block g. -/
def RowO (w : World) (t : TypeId) (g n c : Nat) (xs : List Value) : Prop := w.ownsRow 0 t 1 (.slice (some ⟨g, 0, none⟩) n c) n xs
theorem RowO.to {w w' : World} {t : TypeId} {g n c : Nat} {xs : List Value} (h : RowO w t g n c xs) (hb : Below w.heap.size w w') : RowO w' t g n c xs := own_below h hb
theorem RowO.alloc {w : World} {t : TypeId} {g n c : Nat} {xs : List Value} (h : RowO w t g n c xs) (o : Obj) : RowO (w.alloc o) t g n c xs := World.ownsRow.alloc h o
theorem RowO.lt {w : World} {t : TypeId} {g n c : Nat} {xs : List Value} (h : RowO w t g n c xs) : g < w.heap.size := (World.ownsRow.lt h g rfl).2
theorem RowO.rd {w : World} {t : TypeId} {g n c : Nat} {xs : List Value} (h : RowO w t g n c xs) : Rd w 1 (some ⟨g, 0, none⟩) n xs := Rd.own h
theorem RowO.block {w W : World} {t : TypeId} {g n c : Nat} {xs : List Value} (h : RowO w t g n c xs) (hb : W.heap[g]? = w.heap[g]?) : RowO W t g n c xs := by
  refine ⟨h.1, ?_⟩
  rcases h.2 with hn | ⟨g', cap, cur, hv, hbg, hg, rest⟩
  · exact .inl hn
  · have e : g = g' := by injection hv with hv; injection hv with hv; injection hv
    subst e
    exact .inr ⟨g, cap, cur, hv, hbg, hb.trans hg, rest⟩
theorem RowO.rowfar {w : World} {t : TypeId} {g n c q : Nat} {xs : List Value} (h : RowO w t g n c xs) (hp : g ≠ q) (c' : Array Value) : RowO (w.setRow q c') t g n c xs := h.block (setRow_other w q g c' hp)
theorem RowO.far {w : World} {t : TypeId} {g n c : Nat} {xs : List Value} (h : RowO w t g n c xs) {p : Addr} (hp : g ≠ p.block) (u : Value) : RowO (w.setCell p u) t g n c xs := h.block (Below.heap_setCell w p u g hp)
theorem RowO.cap {w : World} {t : TypeId} {g n c : Nat} {xs : List Value} (h : RowO w t g n c xs) (h0 : 0 < n) : n ≤ c := by
  rcases h.2 with ⟨_, h1⟩ | ⟨g2, cap2, cur, h1, _, _, hnc, _⟩
  · omega
  · injection h1 with _ _ h3
    omega
theorem RowO.cell {w : World} {t : TypeId} {g n c : Nat} {xs : List Value} (h : RowO w t g n c xs) {j : Nat} (hj : j < n) : w.cell? ⟨g, j, none⟩ = xs[j]? ∧ w.frozen? ⟨g, j, none⟩ = false := ⟨by rw [World.ownsRow.cellAt h j (by omega)], World.ownsRow.frozenAt h j⟩
theorem RowO.put {w : World} {t : TypeId} {g n c : Nat} {xs : List Value} (h : RowO w t g n c xs) (j : Nat) (u : Value) : RowO (w.setCell ⟨g, j, none⟩ u) t g n c (xs.set j u) := (World.ownsRow.stored h j u).1
theorem step_append_ownD {P : Program} {ops : Array Oper} {o : Oper} {a : Act} {w : World} {K : Act → World → Prop} {Q : Exit → Act → World → Prop} {E : Prop}
    (hg : o.guard = none) (s x : Operand) (t : TypeId) (hop : o.op = Op.call { callee := Callee.builtin Builtin.append, args := #[s, x], argTypes := #[t, t] })
    (e : TypeId) (i : TypeInfo) (z : Value) (bytes : Nat) (h1 : P.underlying t = some (.slice e)) (h2 : P.info? e = some i) (h3 : i.zero = some z) (h4 : i.size = 1) (h5 : i.bytes = bytes) (h6 : z.cells.size = 1)
    (g : Addr) (hs : a.eval s = .slice (some g) 0 0)
    (A : Option Addr) (m c : Nat) (news : List Value) (hx : a.eval x = .slice A m c) (hr : Rd w 1 A m news) (h1c : ∀ u ∈ news, u.oneCell' = true)
    (b1 : m ≤ maxLen) (b2 : m * bytes ≤ 140737488355328) (h0 : 0 < m)
    (hK : ∀ (g' c' : Nat) w', RowO w' e g' m c' news → (∀ b off, 0 < m → (some ⟨g', 0, none⟩ : Option Addr) = some ⟨b, off, none⟩ → w.heap.size ≤ b ∧ b < w'.heap.size) → m ≤ c' → Below w.heap.size w w' → K (a.put o.dst (.slice (some ⟨g', 0, none⟩) m c')) w') :
    if Region.wanted o (yielded ops a.tmps) = true then Oper.wp P o a w K Q else E := by
  refine step_append_own hg s x t hop e i z 1 bytes h1 h2 h3 h4 h5 h6 (by omega) g hs A m c news hx hr h1c b1 b2 h0 ?_
  intro g' c' w' hown hb
  have hro : RowO w' e g' m c' news := own_less hown (Nat.zero_le _)
  refine hK g' c' w' hro (fun b off _ he => ?_) (hro.cap h0) hb
  injection he with he
  injection he with he1 he2
  subst he1
  exact hown.lt _ rfl
end Go.Proofs.YtpkgfkhaiifooaaDoor
