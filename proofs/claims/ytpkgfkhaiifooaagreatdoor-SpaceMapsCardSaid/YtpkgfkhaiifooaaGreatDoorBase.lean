/- Plain lemmas on memory, lists and numbers that the walks of this seat use. No program is in sight here. -/
import Derived.WalkKit
import Derived.WalkLawsBesides
import Derived.WalkSpells
import Derived.Lib.Hide
import Derived.Deep.QuietTactic
import Derived.BigQuiet
import Derived.Maps.AppendAt
import Derived.Deep.AppendLies
import Derived.Deep.Draws
import Derived.Laws.OwnMore
namespace Go.Proofs.YtpkgfkhaiifooaaGreatDoor
open Go Go.RowKit
set_option linter.unusedSimpArgs false
set_option linter.unusedVariables false

theorem ret_int {k : IntKind} {a b : Int} (h : a = b) : Ending.returned (.int k a) = .returned (.int k b) := by rw [h]
theorem ret_agg2 {k k' : IntKind} {a b c d : Int} (h : a = c) (h' : b = d) : Ending.returned (.agg #[.int k a, .int k' b]) = .returned (.agg #[.int k c, .int k' d]) := by rw [h, h']
theorem ret_true {b : Bool} (h : b = true) : Ending.returned (.bool b) = .returned (.bool true) := by rw [h]
theorem val_int {k : IntKind} {a b : Int} (h : a = b) : Value.int k a = .int k b := by rw [h]
theorem val_bool {a b : Bool} (h : a = b) : Value.bool a = .bool b := by rw [h]

/-- All old cells and marks read as before. -/
theorem bcell {W w1 : World} (hb : Below W.heap.size W w1) :
    (∀ b o, b < W.heap.size → w1.cell? ⟨b, o, none⟩ = W.cell? ⟨b, o, none⟩) ∧ (∀ b o, b < W.heap.size → w1.frozen? ⟨b, o, none⟩ = W.frozen? ⟨b, o, none⟩) :=
  ⟨fun b o h => hb.cell (p := ⟨b, o, none⟩) h, fun b o h => hb.frozen (p := ⟨b, o, none⟩) h⟩

/-- What a call that leaves old memory alone leaves to the walk. -/
theorem bfacts {W w1 : World} (hb : Below W.heap.size W w1) :
    (∀ b o, b < W.heap.size → w1.cell? ⟨b, o, none⟩ = W.cell? ⟨b, o, none⟩) ∧ (∀ b o, b < W.heap.size → w1.frozen? ⟨b, o, none⟩ = W.frozen? ⟨b, o, none⟩) ∧
      (∀ b, b < W.heap.size → b < w1.heap.size) ∧ (∀ b, b ≤ W.heap.size → b ≤ w1.heap.size) :=
  ⟨fun b o h => hb.cell (p := ⟨b, o, none⟩) h, fun b o h => hb.frozen (p := ⟨b, o, none⟩) h, fun _ h => Nat.lt_of_lt_of_le h hb.size, fun _ h => Nat.le_trans h hb.size⟩

/-- Block b is just these cells, and none is frozen. -/
def Bk (w : World) (b : Nat) (cs : Array Value) (t : TypeId) : Prop := w.heap[b]? = some (.cells cs t (0, 0))
section
variable {w w' : World} {b : Nat} {cs : Array Value} {t : TypeId}
theorem Bk.lt (h : Bk w b cs t) : b < w.heap.size := (Array.getElem?_eq_some_iff.1 h).1
theorem Bk.cell (h : Bk w b cs t) (i : Nat) : w.cell? ⟨b, i, none⟩ = cs[i]? := cell_of_row w b i cs t (0, 0) h
theorem Bk.frozen (h : Bk w b cs t) (i : Nat) : w.frozen? ⟨b, i, none⟩ = false := frozen_of_row w b i cs t h
theorem Bk.new (w : World) (cs : Array Value) (t : TypeId) : Bk (w.alloc (.cells cs t)) w.heap.size cs t := heap_alloc_new w _
theorem Bk.alloc (h : Bk w b cs t) (o : Obj) : Bk (w.alloc o) b cs t := (Below.heap_alloc w o b h.lt).trans h
theorem Bk.below {B : Nat} (h : Bk w b cs t) (hb : Below B w w') (hB : b < B) : Bk w' b cs t := (hb.block b hB).trans h
theorem Bk.to (h : Bk w b cs t) (hb : Below w.heap.size w w') : Bk w' b cs t := h.below hb h.lt
theorem Bk.drewN (h : Bk w b cs t) (n : Nat) : Bk (w.drewN n) b cs t := h
theorem Bk.drew (h : Bk w b cs t) : Bk w.drew b cs t := h
theorem Bk.put (h : Bk w b cs t) (i : Nat) (u : Value) : Bk (w.setCell ⟨b, i, none⟩ u) b (cs.setIfInBounds i u) t := heap_setCell_same w b i cs t u h
theorem Bk.far (h : Bk w b cs t) {p : Addr} (hp : b ≠ p.block) (u : Value) : Bk (w.setCell p u) b cs t := (Below.heap_setCell w p u b hp).trans h
/-- What the walk wants of a block. -/
theorem Bk.facts (h : Bk w b cs t) : (∀ i, w.cell? ⟨b, i, none⟩ = cs[i]?) ∧ (∀ i, w.frozen? ⟨b, i, none⟩ = false) ∧ b < w.heap.size := ⟨h.cell, h.frozen, h.lt⟩
end

theorem below_drew {B : Nat} {a w : World} (h : Below B a w) : Below B a w.drew := ⟨h.os, h.tape, h.output, h.size, h.block⟩
theorem balloc {a W : World} (h : Below a.heap.size a W) (o : Obj) : Below a.heap.size a (W.alloc o) := h.alloc h.size _
theorem bnext {a W w' : World} (h : Below a.heap.size a W) (hb : Below W.heap.size W w') : Below a.heap.size a w' := h.trans (hb.mono h.size)

/-- A box of two cells that was laid just before a call is there behind it. -/
theorem box2 {w w1 : World} {x y : Value} {t : TypeId} (hb : Below (w.alloc (.cells #[x, y] t)).heap.size (w.alloc (.cells #[x, y] t)) w1) :
    w1.cell? ⟨w.heap.size, 0, none⟩ = some x ∧ w1.cell? ⟨w.heap.size, 1, none⟩ = some y ∧ w.heap.size < w1.heap.size ∧ Below w.heap.size w w1 := by
  have hs := hb.size
  simp at hs
  refine ⟨(hb.cell (p := ⟨w.heap.size, 0, none⟩) (by simp)).trans (by simp), (hb.cell (p := ⟨w.heap.size, 1, none⟩) (by simp)).trans (by simp), by omega, ((Below.refl _ _).alloc (Nat.le_refl _) _).trans (hb.mono (by simp))⟩

theorem below_drawn {B : Nat} {a w : World} (h : Below B a w) (n : Nat) : Below B a (w.drewN n) := ⟨h.os, h.tape, h.output, h.size, h.block⟩

/-- The slice that begins at A and has n elements of sz cells reads as xs. -/
def Rd (w : World) (sz : Nat) (A : Option Addr) (n : Nat) (xs : List Value) : Prop :=
  xs.length = n * sz ∧ (0 < n → ∃ b off, A = some ⟨b, off, none⟩ ∧ b < w.heap.size ∧ ∀ j u, xs[j]? = some u → w.cell? ⟨b, off + j, none⟩ = some u)

section
variable {w w' : World} {sz n : Nat} {A : Option Addr} {xs : List Value}
theorem Rd.zero (A : Option Addr) : Rd w sz A 0 [] := ⟨by simp, fun h => absurd h (by omega)⟩
theorem Rd.keep (h : Rd w sz A n xs) (hs : w.heap.size ≤ w'.heap.size) (hk : ∀ b o, b < w.heap.size → w'.cell? ⟨b, o, none⟩ = w.cell? ⟨b, o, none⟩) : Rd w' sz A n xs :=
  ⟨h.1, fun hn => by
    obtain ⟨b, off, e, hb, hc⟩ := h.2 hn
    exact ⟨b, off, e, by omega, fun j u hu => (hk _ _ hb).trans (hc j u hu)⟩⟩
theorem Rd.below {B : Nat} (h : Rd w sz A n xs) (hb : Below B w w') (hB : w.heap.size ≤ B) : Rd w' sz A n xs :=
  h.keep hb.size fun b o hlt => hb.cell (p := ⟨b, o, none⟩) (by show b < B; omega)
theorem Rd.alloc (h : Rd w sz A n xs) (o : Obj) : Rd (w.alloc o) sz A n xs :=
  h.keep (by simp) fun b q hlt => World.cell?_alloc_lt w o ⟨b, q, none⟩ hlt
theorem Rd.drewN (h : Rd w sz A n xs) (k : Nat) : Rd (w.drewN k) sz A n xs := h
theorem Rd.own {base : Nat} {e : TypeId} {c : Nat} (h : w.ownsRow base e sz (.slice A n c) n xs) : Rd w sz A n xs := by
  refine ⟨h.1, fun hn => ?_⟩
  obtain ⟨g, cap, hv, _, hlt⟩ := h.form hn
  have hA : A = some ⟨g, 0, none⟩ := by injection hv
  subst hA
  refine ⟨g, 0, rfl, hlt, fun j u hu => ?_⟩
  have := h.cells (g := g) rfl j u hu
  rw [← this]
  simp [Addr.add]
  split <;> simp_all
end

theorem Rd.new {w : World} {sz n : Nat} (cs : Array Value) (t : TypeId) (h : cs.size = n * sz) : Rd (w.alloc (.cells cs t)) sz (some ⟨w.heap.size, 0, none⟩) n cs.toList := by
  refine ⟨by simpa using h, fun _ => ⟨w.heap.size, 0, rfl, by simp, fun j u hu => ?_⟩⟩
  rw [cell_of_row (w.alloc (.cells cs t)) w.heap.size (0 + j) cs t (0, 0) (heap_alloc_new w _)]
  simpa using hu
theorem own_slice {w : World} {base : Nat} {e : TypeId} {sz n : Nat} {v : Value} {xs : List Value} (h : w.ownsRow base e sz v n xs) : ∃ A c, v = .slice A n c ∧ Rd w sz A n xs := by
  rcases h.2 with ⟨rfl, h0⟩ | ⟨g, cap, cur, rfl, _⟩
  · subst h0
    exact ⟨none, 0, rfl, Rd.own (base := base) (e := e) (c := 0) h⟩
  · exact ⟨_, cap, rfl, Rd.own h⟩

/-- Pairs of numbers as cells. -/
def flat2 (k : IntKind) (rs : List (Int × Int)) : List Value := rs.flatMap fun r => [.int k r.1, .int k r.2]
theorem flat2_len (k : IntKind) (rs : List (Int × Int)) : (flat2 k rs).length = rs.length * 2 := by
  induction rs with
  | nil => rfl
  | cons r rs ih => simp [flat2] at ih ⊢; omega
theorem flat2_at (k : IntKind) (rs : List (Int × Int)) (i : Nat) (r : Int × Int) (h : rs[i]? = some r) :
    (flat2 k rs)[2 * i]? = some (.int k r.1) ∧ (flat2 k rs)[2 * i + 1]? = some (.int k r.2) := by
  induction rs generalizing i with
  | nil => simp at h
  | cons x rs ih =>
    cases i with
    | zero => simp at h; subst h; simp [flat2]
    | succ i =>
      simp at h
      have := ih i h
      simp only [flat2, List.flatMap_cons] at this ⊢
      rw [show 2 * (i + 1) = 2 * i + 1 + 1 by omega, show 2 * i + 1 + 1 + 1 = 2 * i + 1 + 1 + 1 from rfl]
      simpa using this
theorem flat2_append (k : IntKind) (a b : List (Int × Int)) : flat2 k (a ++ b) = flat2 k a ++ flat2 k b := by simp [flat2]

theorem Rd.pair {w : World} {k : IntKind} {A : Option Addr} {n : Nat} {rs : List (Int × Int)} (h : Rd w 2 A n (flat2 k rs)) {i : Nat} (hi : i < n) :
    ∃ b off r, A = some ⟨b, off, none⟩ ∧ b < w.heap.size ∧ rs[i]? = some r ∧ w.cell? ⟨b, off + i * 2, none⟩ = some (.int k r.1) ∧ w.cell? ⟨b, off + i * 2 + 1, none⟩ = some (.int k r.2) := by
  obtain ⟨b, off, e, hb, hc⟩ := h.2 (by omega)
  have hl : i < rs.length := by have := h.1; rw [flat2_len] at this; omega
  have hr : rs[i]? = some rs[i] := List.getElem?_eq_getElem hl
  obtain ⟨h1, h2⟩ := flat2_at k rs i _ hr
  refine ⟨b, off, rs[i], e, hb, hr, ?_, ?_⟩
  · have := hc _ _ h1; rwa [show off + 2 * i = off + i * 2 by omega] at this
  · have := hc _ _ h2; rwa [show off + (2 * i + 1) = off + i * 2 + 1 by omega] at this

theorem Rd.num {w : World} {k : IntKind} {A : Option Addr} {n : Nat} {zs : List Int} (h : Rd w 1 A n (zs.map (Value.int k))) {i : Nat} (hi : i < n) :
    ∃ b off z, A = some ⟨b, off, none⟩ ∧ b < w.heap.size ∧ zs[i]? = some z ∧ w.cell? ⟨b, off + i, none⟩ = some (.int k z) := by
  obtain ⟨b, off, e, hb, hc⟩ := h.2 (by omega)
  have hl : i < zs.length := by have := h.1; simp at this; omega
  have hr : zs[i]? = some zs[i] := List.getElem?_eq_getElem hl
  exact ⟨b, off, zs[i], e, hb, hr, hc _ _ (by simp [hr])⟩

end Go.Proofs.YtpkgfkhaiifooaaGreatDoor
