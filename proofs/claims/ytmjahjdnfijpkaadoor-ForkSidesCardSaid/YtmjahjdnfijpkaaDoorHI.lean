/- Several texts in one. -/
import Derived.Test.YtmjahjdnfijpkaaDoorTab1
import Derived.Test.YtmjahjdnfijpkaaDoorGA
import Derived.Test.YtmjahjdnfijpkaaDoorGT
/- Address spaces as plain numbers and lists: which are valid, and what their functions return. No walk here. -/
namespace Go.Proofs.YtmjahjdnfijpkaaDoor
open Go Go.Proofs Go.RowKit
set_option linter.unusedSimpArgs false
set_option linter.unusedVariables false

/-- An address space: its regions, and its table. -/
abbrev Sp : Type := List (Int × Int) × Tb
def sp0 : Sp := ([], tb0)
/-- The error of the entry of a page outside the regions. -/
def outE (rs : List (Int × Int)) (es : List Nat) (p : Nat) : Int := if unpK (es.getD p 0) ≠ 0 ∧ hasP rs p = false then 9 else 0
/-- The error of an address space. -/
def spcE (s : Sp) : Int := orE (regE s.1).1 (orE (tabE s.2.1 s.2.2.1 s.2.2.2) (fst0 (outE s.1 s.2.2.2) 64))
theorem spc_zero {s : Sp} (h : spcE s = 0) : RgV s.1 ∧ tabE s.2.1 s.2.2.1 s.2.2.2 = 0 ∧ ∀ p, p < 64 → outE s.1 s.2.2.2 p = 0 := by
  obtain ⟨h1, h2⟩ := orE_zero h
  obtain ⟨h3, h4⟩ := orE_zero h2
  exact ⟨regE_zero _ h1, h3, (fst0_zero _ _).1 h4⟩
theorem spc_ok {s : Sp} (h1 : RgV s.1) (h2 : tabE s.2.1 s.2.2.1 s.2.2.2 = 0) (h3 : ∀ p, p < 64 → outE s.1 s.2.2.2 p = 0) : spcE s = 0 := by
  unfold spcE
  rw [h1.ok, orE_r _ rfl, orE_r _ h2]
  exact (fst0_zero _ _).2 h3
/-- The entry of a page. -/
def entP (es : List Nat) (p : Nat) : Int × Int × Bool × Bool × Bool := (unpR (es.getD p 0)).1
/-- What an access finds. -/
def finR (s : Sp) (p : Nat) (wr : Bool) (count : Int) : Int :=
  if hasP s.1 p = false then 1 else if (entP s.2.2.2 p).1 = 2 then 8 else if (entP s.2.2.2 p).1 = 0 then
    (if wr = false then 2 else if s.2.2.1.getD (p / 8) 0 = -1 then 5 else 6)
  else if wr = false ∨ (entP s.2.2.2 p).2.2.1 = true then 3 else if count ≤ 1 then 4 else 7
def accR (s : Sp) (page : Int) (wr : Bool) (count : Int) : Int × Int :=
  if spcE s ≠ 0 then (0, spcE s) else if page < 0 ∨ 63 < page ∨ count < 0 ∨ 256 < count then (0, 2) else (finR s page.toNat wr count, 0)
def setE (s : Sp) (page k n : Int) (a b c : Bool) : Int :=
  orE (spcE s) (if page < 0 ∨ 63 < page then 2 else if hasP s.1 page.toNat = false then 6 else (putR s.2.1 s.2.2.1 s.2.2.2 page k n a b c).2)
def setR (s : Sp) (page k n : Int) (a b c : Bool) : Sp × Int :=
  if setE s page k n a b c ≠ 0 then (sp0, setE s page k n a b c) else ((s.1, (putR s.2.1 s.2.2.1 s.2.2.2 page k n a b c).1), 0)
/-- The pages below n whose entries have a frame. -/
def ownB (es : List Nat) (frame : Int) (p : Nat) : Bool := decide ((entP es p).1 = 1) && decide ((entP es p).2.1 = frame)
def ownL (es : List Nat) (frame : Int) (n : Nat) : List Int := ((List.range n).filter (ownB es frame)).map fun p : Nat => (p : Int)
def ownR (s : Sp) (frame : Int) : List Int × Int :=
  if spcE s ≠ 0 then ([], spcE s) else if frame < 0 ∨ 255 < frame then ([], 2) else (ownL s.2.2.2 frame 64, 0)
/-- The entries with those of the pages below n that have a frame changed. -/
def movL (es : List Nat) (frame : Int) (x : Nat) : Nat → List Nat
  | 0 => es
  | n + 1 => if ownB es frame n then (movL es frame x n).set n x else movL es frame x n
def movR (s : Sp) (frame slot : Int) : Sp × Int × Int :=
  if spcE s ≠ 0 then (sp0, 0, spcE s) else if frame < 0 ∨ 255 < frame ∨ slot < 0 ∨ 255 < slot then (sp0, 0, 2)
  else ((s.1, s.2.1, s.2.2.1, movL s.2.2.2 frame (packR 2 slot false false false).1.toNat 64), (ownL s.2.2.2 frame 64).length, 0)
def sizR (s : Sp) : Int × Int :=
  if spcE s ≠ 0 then (0, spcE s) else (((kinL s.2.2.2 1 64).length : Int) + (kinL s.2.2.2 2 64).length, 0)
/-- An address space as a value: four cells. -/
def spcV (A : Option Addr) (n c : Nat) (r : Int) (L : Option Addr) (l cl : Nat) (B : Option Addr) (m d : Nat) : Value := .agg #[.slice A n c, .int .i64 r, .slice L l cl, .slice B m d]
end Go.Proofs.YtmjahjdnfijpkaaDoor
/- Address spaces as values in memory. -/
namespace Go.Proofs.YtmjahjdnfijpkaaDoor
open Go Go.Proofs Go.RowKit
set_option linter.unusedSimpArgs false
set_option linter.unusedVariables false

/-- A value that reads as an address space. -/
def SpV (w : World) (v : Value) (s : Sp) : Prop :=
  ∃ A c L cl B d, v = spcV A s.1.length c s.2.1 L s.2.2.1.length cl B s.2.2.2.length d ∧ Rd w 2 A s.1.length (flat2 .i64 s.1) ∧ Rd w 1 L s.2.2.1.length (iw s.2.2.1) ∧ Rd w 1 B s.2.2.2.length (uw s.2.2.2) ∧ s.2.2.1.length ≤ cl
theorem SpV.to {w w' : World} {v : Value} {s : Sp} (h : SpV w v s) (hb : Below w.heap.size w w') : SpV w' v s := by
  obtain ⟨A, c, L, cl, B, d, e, h1, h2, h3, h4⟩ := h
  exact ⟨A, c, L, cl, B, d, e, h1.below hb (Nat.le_refl _), h2.below hb (Nat.le_refl _), h3.below hb (Nat.le_refl _), h4⟩
theorem SpV.zero (w : World) : SpV w (.agg #[.slice none 0 0, .int .i64 0, .slice none 0 0, .slice none 0 0]) sp0 :=
  ⟨none, 0, none, 0, none, 0, rfl, Rd.zero none, Rd.zero none, Rd.zero none, Nat.le_refl _⟩
/-- An address space and an error as results. -/
def SpRes (w w' : World) (s : Sp) (er : Int) (e : Ending) : Prop := ∃ v, e = .returned (.tuple #[v, .int .i64 er]) ∧ SpV w' v s ∧ Below w.heap.size w w'
theorem tbv_of {w : World} {r : Int} {ls : List Int} {es : List Nat} {L B : Option Addr} {cl d : Nat} (hL : Rd w 1 L ls.length (iw ls)) (hB : Rd w 1 B es.length (uw es)) (h : ls.length ≤ cl) : TbV w (.agg #[.int .i64 r, .slice L ls.length cl, .slice B es.length d]) (r, ls, es) :=
  ⟨L, cl, B, d, rfl, hL, hB, h⟩
theorem spc_bad1 {s : Sp} (h : (regE s.1).1 ≠ 0) : spcE s = (regE s.1).1 := by unfold spcE; rw [orE_l _ h]
theorem spc_bad2 {s : Sp} (h : (regE s.1).1 = 0) (h2 : tabE s.2.1 s.2.2.1 s.2.2.2 ≠ 0) : spcE s = tabE s.2.1 s.2.2.1 s.2.2.2 := by unfold spcE; rw [orE_r _ h, orE_l _ h2]
theorem spc_rest {s : Sp} (h : (regE s.1).1 = 0) (h2 : tabE s.2.1 s.2.2.1 s.2.2.2 = 0) : spcE s = fst0 (outE s.1 s.2.2.2) 64 := by unfold spcE; rw [orE_r _ h, orE_r _ h2]
theorem outE_no {rs : List (Int × Int)} {es : List Nat} {p : Nat} (h : unpK (es.getD p 0) = 0 ∨ hasP rs p = true) : outE rs es p = 0 := by
  unfold outE
  rw [if_neg]
  rintro ⟨h1, h2⟩
  rcases h with h | h
  · exact h1 h
  · rw [h] at h2; cases h2
theorem outE_yes {rs : List (Int × Int)} {es : List Nat} {p : Nat} (h1 : unpK (es.getD p 0) ≠ 0) (h2 : hasP rs p = false) : outE rs es p = 9 := by
  unfold outE
  rw [if_pos ⟨h1, h2⟩]
/-- The answer of Get and of Has at a page of a valid address space. -/
theorem get_in {r : Int} {ls : List Int} {es : List Nat} (h : tabE r ls es = 0) (p : Nat) (hp : p < 64) : getR r ls es p = unpR (es.getD p 0) := by
  unfold getR askE
  rw [orE_r _ h, if_neg (by omega), Int.toNat_natCast]
theorem unp_in {r : Int} {ls : List Int} {es : List Nat} (h : tabE r ls es = 0) (p : Nat) (hp : p < 64) : (unpR (es.getD p 0)).2 = 0 := by
  obtain ⟨_, _, _, _, _, _, h7, _⟩ := tab_zero h
  have := h7 p hp
  unfold unpR
  rw [if_pos this]
end Go.Proofs.YtmjahjdnfijpkaaDoor
