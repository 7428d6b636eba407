/- Several texts in one. -/
import Derived.Test.YtmjahjdnfijpkaaDoorHI
import Derived.Test.YtmjahjdnfijpkaaDoorHM
import Derived.Test.YtmjahjdnfijpkaaDoorRgK
import Derived.Test.YtmjahjdnfijpkaaDoorGZ
import Derived.Deep.RegionHeld3
import Derived.Test.YtmjahjdnfijpkaaDoorSpF
import Derived.Test.YtmjahjdnfijpkaaDoorGU
import Derived.Test.YtmjahjdnfijpkaaDoorGX
/- Copies of rows (slices.Clone at three types), and of a table (space.twin). -/
namespace Go.Proofs.YtmjahjdnfijpkaaDoor
open Go Go.Proofs Go.RowKit
set_option linter.unusedSimpArgs false
set_option linter.unusedVariables false
set_option maxRecDepth 100000

end Go.Proofs.YtmjahjdnfijpkaaDoor
/- What space.Set returns. -/
namespace Go.Proofs.YtmjahjdnfijpkaaDoor
open Go Go.Proofs Go.RowKit
set_option linter.unusedSimpArgs false
set_option linter.unusedVariables false
set_option maxRecDepth 100000

/-- Where the rows of an address space lie. -/
def SLoc (lo : Nat) (v : Value) : Prop := ∀ A n c r L l cl B m d, v = spcV A n c r L l cl B m d → (∀ b off, 0 < n → A = some ⟨b, off, none⟩ → lo ≤ b) ∧ (∀ b off, 0 < l → L = some ⟨b, off, none⟩ → lo ≤ b) ∧ (∀ b off, 0 < m → B = some ⟨b, off, none⟩ → lo ≤ b)
theorem SLoc.mk {lo : Nat} {A L B : Option Addr} {n c l cl m d : Nat} {r : Int} (h1 : ∀ b off, 0 < n → A = some ⟨b, off, none⟩ → lo ≤ b) (h2 : ∀ b off, 0 < l → L = some ⟨b, off, none⟩ → lo ≤ b) (h3 : ∀ b off, 0 < m → B = some ⟨b, off, none⟩ → lo ≤ b) : SLoc lo (.agg #[.slice A n c, .int .i64 r, .slice L l cl, .slice B m d]) := by
  intro A' n' c' r' L' l' cl' B' m' d' h
  simp only [spcV, Value.agg.injEq, Array.mk.injEq, List.cons.injEq, Value.slice.injEq] at h
  obtain ⟨⟨rfl, rfl, rfl⟩, _, ⟨rfl, rfl, rfl⟩, ⟨rfl, rfl, rfl⟩, _⟩ := h
  exact ⟨h1, h2, h3⟩
theorem SLoc.zero (lo : Nat) : SLoc lo (.agg #[.slice none 0 0, .int .i64 0, .slice none 0 0, .slice none 0 0]) := SLoc.mk (fun _ _ h => absurd h (by omega)) (fun _ _ h => absurd h (by omega)) (fun _ _ h => absurd h (by omega))
theorem SLoc.mono {lo lo' : Nat} {v : Value} (h : SLoc lo v) (hl : lo' ≤ lo) : SLoc lo' v := fun A n c r L l cl B m d e =>
  ⟨fun b off hn he => Nat.le_trans hl ((h A n c r L l cl B m d e).1 b off hn he), fun b off hn he => Nat.le_trans hl ((h A n c r L l cl B m d e).2.1 b off hn he), fun b off hn he => Nat.le_trans hl ((h A n c r L l cl B m d e).2.2 b off hn he)⟩
/-- The four cells of an address space's box. -/
theorem Bk.put4 {w : World} {b : Nat} {t : TypeId} {x y z u : Value} (h : Bk w b #[x, y, z, u] t) (x' y' z' u' : Value) : Bk ((((w.setCell ⟨b, 0, none⟩ x').setCell ⟨b, 1, none⟩ y').setCell ⟨b, 2, none⟩ z').setCell ⟨b, 3, none⟩ u') b #[x', y', z', u'] t := (((h.put 0 x').put 1 y').put 2 z').put 3 u'
theorem below_put4 {w : World} {g : Nat} {a : World} (h : Below a.heap.size a w) (hp : a.heap.size ≤ g) (x y z u : Value) : Below a.heap.size a ((((w.setCell ⟨g, 0, none⟩ x).setCell ⟨g, 1, none⟩ y).setCell ⟨g, 2, none⟩ z).setCell ⟨g, 3, none⟩ u) :=
  (((h.setCell (p := ⟨g, 0, none⟩) hp x).setCell (p := ⟨g, 1, none⟩) hp y).setCell (p := ⟨g, 2, none⟩) hp z).setCell (p := ⟨g, 3, none⟩) hp u
theorem Rd.far4 {w : World} {sz n g : Nat} {A : Option Addr} {xs : List Value} (h : Rd w sz A n xs) (hp : ∀ b off, 0 < n → A = some ⟨b, off, none⟩ → b ≠ g) (x y z u : Value) : Rd ((((w.setCell ⟨g, 0, none⟩ x).setCell ⟨g, 1, none⟩ y).setCell ⟨g, 2, none⟩ z).setCell ⟨g, 3, none⟩ u) sz A n xs :=
  (((h.far (p := ⟨g, 0, none⟩) hp x).far (p := ⟨g, 1, none⟩) hp y).far (p := ⟨g, 2, none⟩) hp z).far (p := ⟨g, 3, none⟩) hp u
theorem spv_put4 {w : World} {v : Value} {s : Sp} {lo g : Nat} (h : SpV w v s) (hl : SLoc lo v) (hg : g < lo) (x y z u : Value) : SpV ((((w.setCell ⟨g, 0, none⟩ x).setCell ⟨g, 1, none⟩ y).setCell ⟨g, 2, none⟩ z).setCell ⟨g, 3, none⟩ u) v s := by
  obtain ⟨A, c, L, cl, B, d, rfl, h1, h2, h3, h4⟩ := h
  obtain ⟨l1, l2, l3⟩ := hl _ _ _ _ _ _ _ _ _ _ rfl
  exact ⟨A, c, L, cl, B, d, rfl, h1.far4 (fun b off hn e => by have := l1 b off hn e; omega) x y z u, h2.far4 (fun b off hn e => by have := l2 b off hn e; omega) x y z u, h3.far4 (fun b off hn e => by have := l3 b off hn e; omega) x y z u, h4⟩
/-- An address space and an error as results, in new memory. -/
def SpResL (w w' : World) (s : Sp) (er : Int) (e : Ending) : Prop := ∃ v, e = .returned (.tuple #[v, .int .i64 er]) ∧ SpV w' v s ∧ SLoc w.heap.size v ∧ Below w.heap.size w w'
theorem own_loc {w : World} {base : Nat} {e : TypeId} {sz n m c : Nat} {A : Option Addr} {xs : List Value} (h : w.ownsRow base e sz (.slice A n c) m xs) : ∀ b off, 0 < n → A = some ⟨b, off, none⟩ → base ≤ b := by
  rintro b off _ rfl
  exact (h.lt b rfl).1
theorem spv_mk {w : World} {A L B : Option Addr} {c cl d : Nat} {rs : List (Int × Int)} {r : Int} {ls : List Int} {es : List Nat} (h1 : Rd w 2 A rs.length (flat2 .i64 rs)) (h2 : TbV w (.agg #[.int .i64 r, .slice L ls.length cl, .slice B es.length d]) (r, ls, es)) : SpV w (.agg #[.slice A rs.length c, .int .i64 r, .slice L ls.length cl, .slice B es.length d]) (rs, r, ls, es) := by
  obtain ⟨A', c', B', d', e, ha, hb, hc⟩ := h2
  simp only [tabV, Value.agg.injEq, Array.mk.injEq, List.cons.injEq, Value.slice.injEq] at e
  obtain ⟨_, ⟨rfl, _, rfl⟩, ⟨rfl, _, rfl⟩, _⟩ := e
  exact ⟨A, c, _, _, _, _, rfl, h1, ha, hb, hc⟩

end Go.Proofs.YtmjahjdnfijpkaaDoor
