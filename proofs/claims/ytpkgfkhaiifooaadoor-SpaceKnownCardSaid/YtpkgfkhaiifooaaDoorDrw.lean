/- Drawn regions by hand: an operation behind which the world is another one. -/
import Derived.Test.YtpkgfkhaiifooaaDoorWide
import Derived.OrdersHeld
import Derived.Test.YtpkgfkhaiifooaaDoorGZ
import Derived.Deep.RegionHeld3
import Derived.Deep.RegionLaw
import Derived.Deep.RegionLawGrows
namespace Go.Proofs.YtpkgfkhaiifooaaDoor
open Go Go.Proofs Go.RowKit
set_option linter.unusedSimpArgs false
set_option linter.unusedVariables false

theorem wpOp_abs {P : Program} {ops : Array Oper} {Q : Exit → Act → World → Prop} {K : Act → World → Prop} {a : Act} {w : World} {i : Nat} {o : Oper} (hi : ops[i]? = some o)
    (h : ∀ K' : Act → World → Prop, (∀ a w, K a w → K' a w) → (if Region.wanted o (yielded ops a.tmps) = true then Oper.wp P o a w K' Q ∨ (o.asks P a w ∧ LetsOut Q) else K' (a.put o.dst undef) w)) : wpOp P ops Q i K a w := by
  have h1 := h K (fun _ _ h => h)
  unfold wpOp
  simp only [hi]
  exact h1
theorem wpOp_call {P : Program} {ops : Array Oper} {Q : Exit → Act → World → Prop} {K : Act → World → Prop} {a : Act} {w : World} {i : Nat} {o : Oper} (hi : ops[i]? = some o) (hw : Region.wanted o (yielded ops a.tmps) = true) {f : FuncId} {args : Array Value} (hrun : (execOp a.eval o).run P w = .ok (.enter f args) w) {Post : Ending → World → Prop} (hc : Calls P f args w Post)
    (hk : ∀ e w', Post e w' → ∃ v, e = .returned v ∧ K (a.put o.dst v) w') : wpOp P ops Q i K a w := by
  unfold wpOp
  simp only [hi]
  rw [if_pos hw]
  refine .inl ?_
  unfold Oper.wp
  rw [hrun, Oper.upon_enter]
  refine Calls.mono hc fun e w' he => ?_
  obtain ⟨v, rfl, h⟩ := hk e w' he
  exact h
theorem wpOp_val {P : Program} {ops : Array Oper} {Q : Exit → Act → World → Prop} {K : Act → World → Prop} {a : Act} {w w' : World} {i : Nat} {o : Oper} (hi : ops[i]? = some o) (hw : Region.wanted o (yielded ops a.tmps) = true) {v : Value} (hrun : (execOp a.eval o).run P w = .ok (.value v) w') (hk : K (a.put o.dst v) w') : wpOp P ops Q i K a w := by
  unfold wpOp
  simp only [hi]
  rw [if_pos hw]
  refine .inl ?_
  unfold Oper.wp
  rw [hrun, Oper.upon_value]
  exact hk
theorem takeD {P : Program} {ops : Array Oper} {Q : Exit → Act → World → Prop} {md : Region.Mode} {S : World → Prop} (i : Nat) (d : Option Tmp) (v : Value) {oi : Oper} {fuel : Nat} {listed : Array Bool} {a : Act} {w : World} (hi : ops[i]? = some oi) (hd : oi.dst = d)
    (hs : Region.noSelect ops = true) (hf : Region.free md ops listed i = true) (hr : (Region.ready md ops listed).contains i = true)
    (hQ : ∀ c a w, Q (.panic c) (a.put d v) w → Q (.panic c) a w) (hy : YieldsIf P ops S oi v a) (hS : S w)
    (h : wpAnyH P md ops Q S fuel (listed.setIfInBounds i true) (a.put d v) w) : wpAnyH P md ops Q S (fuel + 1) listed a w := by
  subst hd
  exact wpAnyH_take hi hs hf hr hQ hy hS h
theorem callD {P : Program} {ops : Array Oper} {Q : Exit → Act → World → Prop} {K : Act → World → Prop} {a : Act} {w : World} (i : Nat) (d : Option Tmp) {o : Oper} (hi : ops[i]? = some o) (hd : o.dst = d) (hw : Region.wanted o (yielded ops a.tmps) = true) {f : FuncId} {args : Array Value} (hrun : (execOp a.eval o).run P w = .ok (.enter f args) w) {Post : Ending → World → Prop} (hc : Calls P f args w Post)
    (hk : ∀ e w', Post e w' → ∃ v, e = .returned v ∧ K (a.put d v) w') : wpOp P ops Q i K a w := by
  subst hd
  exact wpOp_call hi hw hrun hc hk
theorem valD {P : Program} {ops : Array Oper} {Q : Exit → Act → World → Prop} {K : Act → World → Prop} {a : Act} {w w' : World} (i : Nat) (d : Option Tmp) {o : Oper} (hi : ops[i]? = some o) (hd : o.dst = d) (hw : Region.wanted o (yielded ops a.tmps) = true) {v : Value} (hrun : (execOp a.eval o).run P w = .ok (.value v) w') (hk : K (a.put d v) w') : wpOp P ops Q i K a w := by
  subst hd
  exact wpOp_val hi hw hrun hk
theorem storeD {P : Program} {ops : Array Oper} {Q : Exit → Act → World → Prop} {K : Act → World → Prop} {a : Act} {w : World} (i : Nat) {o : Oper} (hi : ops[i]? = some o) (hd : o.dst = none) (hw : Region.wanted o (yielded ops a.tmps) = true) (ty : TypeId) (x y : Operand) (ho : o.op = .store ty x y)
    (g : Nat) (cells : Array Value) (hx : a.eval x = .pointer (some ⟨g, 0, none⟩)) (hy : a.eval y = .agg cells) (t : TypeId) (old : Array Value) (hg : Bk w g old t) (hsz : (P.info? ty).map (·.size) = some cells.size) (hold : old.size = cells.size) (h1 : cells.all (·.oneCell') = true)
    (hk : K a (w.setRow g cells)) : wpOp P ops Q i K a w := by
  unfold wpOp
  simp only [hi]
  rw [if_pos hw]
  refine .inl ?_
  refine wp_store_row ty x y ho g cells hx hy t old hg hsz hold h1 ?_
  rw [hd]
  exact hk
theorem run_call1 {P : Program} {ev : Operand → Value} {o : Oper} {f : FuncId} {x : Operand} {ts : Array TypeId} (ho : o.op = Op.call { callee := .value (.func f), args := #[x], argTypes := ts }) {vx : Value} (hf : ev (.func f) = .func (.func f) #[] #[]) (hx : ev x = vx) (hcf : ∀ w, (callFunc f #[vx]).run P w = .ok (.enter f #[vx]) w) (w : World) : (execOp ev o).run P w = .ok (.enter f #[vx]) w := by
  unfold execOp
  simp [ho, hx, hf, hcf, resolve, invoke, go_sem]
theorem run_call2 {P : Program} {ev : Operand → Value} {o : Oper} {f : FuncId} {x y : Operand} {ts : Array TypeId} (ho : o.op = Op.call { callee := .value (.func f), args := #[x, y], argTypes := ts }) {vx vy : Value} (hf : ev (.func f) = .func (.func f) #[] #[]) (hx : ev x = vx) (hy : ev y = vy) (hcf : ∀ w, (callFunc f #[vx, vy]).run P w = .ok (.enter f #[vx, vy]) w) (w : World) : (execOp ev o).run P w = .ok (.enter f #[vx, vy]) w := by
  unfold execOp
  simp [ho, hx, hy, hf, hcf, resolve, invoke, go_sem]
theorem run_append_zeroD {P : Program} (w : World) (t ty e : TypeId) (i : TypeInfo) (ht : P.underlying t = some (.slice e)) (hi : P.info? e = some i) (g : Addr) (A : Option Addr) (c : Nat) : (Builtin.append_ #[t, t] ty #[.slice (some g) 0 0, .slice A 0 c]).run P w = .ok (.slice (some g) 0 0) w := by
  cases A with
  | none => simp [Builtin.append_, run_underlying ht, sizeOf, typeInfo, hi, Builtin.lenOf, Builtin.firstCells, storeCells]
  | some ad =>
    have h0 : (loadCells ad 0).run P w = .ok #[] w := by simp [loadCells, loadCellsFrom]
    simp [Builtin.append_, run_underlying ht, sizeOf, typeInfo, hi, Builtin.lenOf, Builtin.firstCells, h0, storeCells]
theorem step_append_anyD {P : Program} {ops : Array Oper} {o : Oper} {a : Act} {w : World} {K : Act → World → Prop} {Q : Exit → Act → World → Prop} {E : Prop}
    (hg : o.guard = none) (s x : Operand) (t : TypeId) (hop : o.op = Op.call { callee := Callee.builtin Builtin.append, args := #[s, x], argTypes := #[t, t] })
    (e : TypeId) (i : TypeInfo) (z : Value) (size bytes : Nat) (h1 : P.underlying t = some (.slice e)) (h2 : P.info? e = some i) (h3 : i.zero = some z) (h4 : i.size = size) (h5 : i.bytes = bytes) (h6 : z.cells.size = size) (h7 : 0 < size)
    (g : Addr) (hs : a.eval s = .slice (some g) 0 0)
    (A : Option Addr) (m c : Nat) (news : List Value) (hx : a.eval x = .slice A m c) (hr : Rd w size A m news) (h1c : ∀ u ∈ news, u.oneCell' = true)
    (b1 : m ≤ maxLen) (b2 : m * bytes ≤ 140737488355328)
    (hK : ∀ (A' : Option Addr) (c' : Nat) w', Rd w' size A' m news → (∀ b off, 0 < m → A' = some ⟨b, off, none⟩ → w.heap.size ≤ b ∧ b < w'.heap.size) → m ≤ c' → Below w.heap.size w w' → K (a.put o.dst (.slice A' m c')) w') :
    if Region.wanted o (yielded ops a.tmps) = true then Oper.wp P o a w K Q else E := by
  rcases Nat.eq_zero_or_pos m with h0 | h0
  · subst h0
    have hw : Region.wanted o (yielded ops a.tmps) = true := by simp [Region.wanted, hg]
    rw [if_pos hw]
    have hrun := run_append_zeroD (P := P) w t o.type e i h1 h2 g A c
    unfold Oper.wp
    simp [execOp, hop, resolve, invoke, builtin, hs, hx, hrun, Result.andThen]
    exact hK _ _ _ (by have := List.eq_nil_of_length_eq_zero (show news.length = 0 by simpa using hr.1); rw [this]; exact Rd.zero _) (fun b off h => absurd h (by omega)) (Nat.le_refl _) (Below.refl _ _)
  · refine step_append_own hg s x t hop e i z size bytes h1 h2 h3 h4 h5 h6 h7 g hs A m c news hx hr h1c b1 b2 h0 ?_
    intro g' c' w' hown hb
    refine hK _ _ _ (Rd.own hown) (fun b off _ he => ?_) ?_ hb
    · injection he with he
      injection he with he
      subst he
      exact hown.lt _ rfl
    · rcases hown.2 with ⟨h0', _⟩ | ⟨g2, cap2, cur, h1', _, _, hnc, _⟩
      · cases h0'
      · injection h1' with _ _ h1'; omega

theorem Rd.rowfar {w : World} {sz n g : Nat} {A : Option Addr} {xs : List Value} (h : Rd w sz A n xs) (hp : ∀ b off, 0 < n → A = some ⟨b, off, none⟩ → b ≠ g) (c' : Array Value) : Rd (w.setRow g c') sz A n xs := by
  refine ⟨h.1, fun h0 => ?_⟩
  obtain ⟨b, off, e, hb, hc⟩ := h.2 h0
  have ho := setRow_other w g b c' (hp b off h0 e)
  refine ⟨b, off, e, ?_, fun j u hu => (World.cell?_of_block (a := ⟨b, off + j, none⟩) ho).trans (hc j u hu)⟩
  have h2 : (w.setRow g c').heap[b]? = some w.heap[b] := ho.trans (by simp [hb])
  exact (Array.getElem?_eq_some_iff.1 h2).1
theorem appD {P : Program} {ops : Array Oper} {Q : Exit → Act → World → Prop} {K : Act → World → Prop} {a : Act} {w : World} (i : Nat) (d : Option Tmp) {o : Oper} (hi : ops[i]? = some o) (hd : o.dst = d) (hw : Region.wanted o (yielded ops a.tmps) = true)
    (h : ∀ K' : Act → World → Prop, (∀ v w', K (a.put d v) w' → K' (a.put o.dst v) w') → (if Region.wanted o (yielded ops a.tmps) = true then Oper.wp P o a w K' Q else True)) : wpOp P ops Q i K a w := by
  subst hd
  have h1 := h K (fun _ _ h => h)
  unfold wpOp
  simp only [hi]
  rw [if_pos hw] at h1 ⊢
  exact .inl h1
end Go.Proofs.YtpkgfkhaiifooaaDoor
