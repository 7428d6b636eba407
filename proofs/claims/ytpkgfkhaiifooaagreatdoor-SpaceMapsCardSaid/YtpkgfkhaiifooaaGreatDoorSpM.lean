/- What space.Moved returns. -/
import Derived.Test.YtpkgfkhaiifooaaGreatDoorSpO
import Derived.Test.YtpkgfkhaiifooaaGreatDoorSpS
import Derived.Test.YtpkgfkhaiifooaaGreatDoorGE
import Derived.Test.YtpkgfkhaiifooaaGreatDoorUnp
import Derived.Deep.DeepCutAuto
import Derived.Deep.RegionHeld3
namespace Go.Proofs.YtpkgfkhaiifooaaGreatDoor
open Go Go.Proofs Go.RowKit Go.Shelf
set_option linter.unusedSimpArgs false
set_option linter.unusedVariables false
set_option maxRecDepth 100000
attribute [local go_sem] Oper.semAt_some

/-- The entries with those of the pages so far changed. -/
def movP (es : List Nat) (frame : Int) (x : Nat) (pre : List Pg) : List Nat := pre.foldl (fun l p => if ownB es frame p.1.toNat then l.set p.1.toNat x else l) es
theorem movP_snoc (es : List Nat) (frame : Int) (x : Nat) (pre : List Pg) (p : Pg) : movP es frame x (pre ++ [p]) = if ownB es frame p.1.toNat then (movP es frame x pre).set p.1.toNat x else movP es frame x pre := by simp [movP]
theorem movP_len (es : List Nat) (frame : Int) (x : Nat) (pre : List Pg) : (movP es frame x pre).length = es.length := by
  unfold movP
  suffices h : ∀ (pre : List Pg) (l : List Nat), (pre.foldl (fun l p => if ownB es frame p.1.toNat then l.set p.1.toNat x else l) l).length = l.length from h pre es
  intro pre
  induction pre with
  | nil => intro l; rfl
  | cons p pre ih =>
    intro l
    rw [List.foldl_cons, ih]
    split
    · rw [List.length_set]
    · rfl
theorem movP_all (es : List Nat) (frame : Int) (x : Nat) : ∀ n : Nat, n ≤ 64 → movP es frame x (pgs 0 n) = movL es frame x n
  | 0, _ => rfl
  | n + 1, hn => by
    rw [pgs_succ, movP_snoc, movP_all es frame x n (by omega), pg_val _ (by omega) (by omega), Int.zero_add, Int.toNat_natCast]
    rfl
theorem uw_set1 (es : List Nat) (j : Nat) (x : Nat) : (uw es).set j (.int .u64 (x : Int)) = uw (es.set j x) := by simp [uw, List.map_set]

theorem keepE_setA {W : World} {Br : Nat} {p : Addr} {B : Option Addr} (h1 : 0 ≠ p.block) (h2 : Br ≠ p.block) (h3 : ∀ b o q, B = some ⟨b, o, q⟩ → b ≠ p.block) (x : Value) : KeepE Br B W (W.setCell p x) :=
  ⟨Below.heap_setCell W p x _ h1, Below.heap_setCell W p x _ h2, fun b o q e => Below.heap_setCell W p x _ (h3 b o q e)⟩
theorem own_ne {w : World} {base n m c : Nat} {e : TypeId} {sz : Nat} {A : Option Addr} {xs : List Value} (h : w.ownsRow base e sz (.slice A n c) m xs) {p : Addr} (hp : ∀ b off q, A = some ⟨b, off, q⟩ → b ≠ p.block) (u : Value) : (w.setCell p u).ownsRow base e sz (.slice A n c) m xs := by
  refine ⟨h.1, ?_⟩
  rcases h.2 with hn | ⟨g, cap, cur, hv, hbg, hg, rest⟩
  · exact .inl hn
  · have hA : A = some ⟨g, 0, none⟩ := by injection hv
    exact .inr ⟨g, cap, cur, hv, hbg, (Below.heap_setCell w p u g (hp _ _ _ hA)).trans hg, rest⟩
theorem own_ne4 {w : World} {base n m c g : Nat} {e : TypeId} {sz : Nat} {A : Option Addr} {xs : List Value} (h : w.ownsRow base e sz (.slice A n c) m xs) (hp : ∀ b off q, A = some ⟨b, off, q⟩ → b ≠ g) (x y z u : Value) : ((((w.setCell ⟨g, 0, none⟩ x).setCell ⟨g, 1, none⟩ y).setCell ⟨g, 2, none⟩ z).setCell ⟨g, 3, none⟩ u).ownsRow base e sz (.slice A n c) m xs :=
  own_ne (own_ne (own_ne (own_ne h (p := ⟨g, 0, none⟩) hp x) (p := ⟨g, 1, none⟩) hp y) (p := ⟨g, 2, none⟩) hp z) (p := ⟨g, 3, none⟩) hp u
theorem own_same {w W : World} {base n m c : Nat} {e : TypeId} {sz : Nat} {A : Option Addr} {xs : List Value} (h : w.ownsRow base e sz (.slice A n c) m xs) (hb : ∀ b off q, A = some ⟨b, off, q⟩ → W.heap[b]? = w.heap[b]?) : W.ownsRow base e sz (.slice A n c) m xs := by
  refine ⟨h.1, ?_⟩
  rcases h.2 with hn | ⟨g, cap, cur, hv, hbg, hg, rest⟩
  · exact .inl hn
  · have hA : A = some ⟨g, 0, none⟩ := by injection hv
    exact .inr ⟨g, cap, cur, hv, hbg, (hb _ _ _ hA).trans hg, rest⟩
theorem heap_put4 {W : World} {g D : Nat} {o : Obj} (h : W.heap[D]? = some o) (hne : D ≠ g) (x y z u : Value) : ((((W.setCell ⟨g, 0, none⟩ x).setCell ⟨g, 1, none⟩ y).setCell ⟨g, 2, none⟩ z).setCell ⟨g, 3, none⟩ u).heap[D]? = some o := by
  rw [Below.heap_setCell _ ⟨g, 3, none⟩ u D hne, Below.heap_setCell _ ⟨g, 2, none⟩ z D hne, Below.heap_setCell _ ⟨g, 1, none⟩ y D hne, Below.heap_setCell _ ⟨g, 0, none⟩ x D hne]
  exact h
theorem own_loc2 {w : World} {base : Nat} {e : TypeId} {sz n m c : Nat} {A : Option Addr} {xs : List Value} (h : w.ownsRow base e sz (.slice A n c) m xs) : ∀ b off q, A = some ⟨b, off, q⟩ → base ≤ b ∧ b < w.heap.size := by
  rintro b off q rfl
  exact h.lt b rfl
theorem Own2.ne4 {w : World} {base gA cA gB cB g : Nat} {ls : List Int} {es : List Nat} (h : Own2 w base gA cA gB cB ls es) (h1 : gA ≠ g) (h2 : gB ≠ g) (x y z u : Value) : Own2 ((((w.setCell ⟨g, 0, none⟩ x).setCell ⟨g, 1, none⟩ y).setCell ⟨g, 2, none⟩ z).setCell ⟨g, 3, none⟩ u) base gA cA gB cB ls es :=
  ⟨own_ne4 h.a (fun b off q e => by injection e with e; injection e with e; omega) x y z u, own_ne4 h.b (fun b off q e => by injection e with e; injection e with e; omega) x y z u, h.ne⟩
/-- A post of an ordinary end alone. -/
def onNormal (R : Act → World → Prop) : Exit → Act → World → Prop
  | .normal, a, w => R a w
  | _, _, _ => False
/-- The copy that Moved writes. -/
def MovC (w5 : World) (rs : List (Int × Int)) (r : Int) (ls : List Int) (es : List Nat) (p gA cA gB cB cI : Nat) (AI : Option Addr) (wx : World) : Prop :=
  Bk wx p #[.slice AI rs.length cI, .int .i64 r, .slice (some ⟨gA, 0, none⟩) 8 cA, .slice (some ⟨gB, 0, none⟩) 64 cB] 28 ∧ wx.ownsRow w5.heap.size 72 2 (.slice AI rs.length cI) rs.length (flat2 .i64 rs) ∧ Own2 wx w5.heap.size gA cA gB cB ls es ∧ (w5.heap.size ≤ p ∧ p ≠ gA ∧ p ≠ gB) ∧ (∀ b off q, AI = some ⟨b, off, q⟩ → b ≠ gB ∧ b ≠ p) ∧ Below w5.heap.size w5 wx
/-- Between two pages of Moved. -/
structure MovI (es : List Nat) (frame : Int) (x : Nat) (w w4 : World) (base gB cB cP : Nat) (pre : List Pg) (W : World) : Prop where
  row : W.ownsRow base 85 1 (.slice (some ⟨gB, 0, none⟩) 64 cB) 64 (uw (movP es frame x pre))
  cnt : Bk W cP #[.int .i64 ((ownP es frame pre).length : Nat)] 3
  same : ∀ b, b < w4.heap.size → b ≠ gB → b ≠ cP → W.heap[b]? = w4.heap[b]?
  size : w4.heap.size ≤ W.heap.size
  below : Below w.heap.size w W
theorem MovI.own (es : List Nat) (frame : Int) (x : Nat) (w w4 : World) (base gB cB cP : Nat) (hb : base ≤ gB) (hg : gB < w4.heap.size) (hc : cP < w4.heap.size) (hw : w.heap.size ≤ w4.heap.size) : OwnFrom w4.heap.size (MovI es frame x w w4 base gB cB cP) := by
  rintro pre W W' row ⟨h1, h2, h3, h4, h5⟩ hg' hr
  have hne : ∀ b, b < w4.heap.size → some b ≠ row := fun b hb e => by have := (hr b e.symm).1; omega
  refine ⟨h1.kept hg' (.inr fun e => hne gB hg (by rw [← e]; rfl)), (hg'.block cP h2.lt (hne cP hc)).trans h2, fun b hb h6 h7 => (hg'.block b (by omega) (hne b hb)).trans (h3 b hb h6 h7), Nat.le_trans h4 hg'.size, h5.grown hg' (by omega) (fun k e => by have := (hr k e).1; omega)⟩
/-- An address space, a number and an error as results. -/
def SpRes3 (w w' : World) (s : Sp) (n er : Int) (e : Ending) : Prop := ∃ v, e = .returned (.tuple #[v, .int .i64 n, .int .i64 er]) ∧ SpV w' v s ∧ SLoc w.heap.size v ∧ Below w.heap.size w w'

theorem pack_slot (slot : Int) (h0 : 0 ≤ slot) (h1 : slot ≤ 255) : ∃ x : Nat, packR 2 slot false false false = ((x : Int), 0) ∧ x < 65536 := by
  have hc : chk 2 slot false false false = 0 := by grind [chk]
  have hp2 : (packR 2 slot false false false).2 = 0 := by unfold packR; rw [if_neg (by simp [hc])]
  obtain ⟨x, hx, hx2⟩ := packR_nat 2 slot false false false hp2
  exact ⟨x, Prod.ext hx hp2, hx2⟩

end Go.Proofs.YtpkgfkhaiifooaaGreatDoor
