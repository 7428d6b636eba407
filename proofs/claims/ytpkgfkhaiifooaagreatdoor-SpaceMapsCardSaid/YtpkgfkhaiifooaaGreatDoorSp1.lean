/- Address spaces as plain numbers and lists: which are valid, and what their functions return. No walk here. -/
import Derived.Test.YtpkgfkhaiifooaaGreatDoorTab1
import Derived.Test.YtpkgfkhaiifooaaGreatDoorGA
namespace Go.Proofs.YtpkgfkhaiifooaaGreatDoor
open Go Go.Proofs Go.RowKit
set_option linter.unusedSimpArgs false
set_option linter.unusedVariables false

/-- An address space: its regions, and its table. -/
abbrev Sp : Type := List (Int × Int) × Tb
def sp0 : Sp := ([], tb0)
/-- The error of the entry of a page outside the regions. -/
def outE (rs : List (Int × Int)) (es : List Nat) (p : Nat) : Int := if unpK (es.getD p 0) ≠ 0 ∧ hasP rs p = false then 9 else 0
/-- The error of an address space. -/
def spcE (s : Sp) : Int := orE (regE s.1).1 (orE (tabE s.2.1 s.2.2.1 s.2.2.2) (fst0 (outE s.1 s.2.2.2) 64))
theorem spc_zero {s : Sp} (h : spcE s = 0) : RgV s.1 ∧ tabE s.2.1 s.2.2.1 s.2.2.2 = 0 ∧ ∀ p, p < 64 → outE s.1 s.2.2.2 p = 0 := by
  obtain ⟨h1, h2⟩ := orE_zero h
  obtain ⟨h3, h4⟩ := orE_zero h2
  exact ⟨regE_zero _ h1, h3, (fst0_zero _ _).1 h4⟩
theorem spc_ok {s : Sp} (h1 : RgV s.1) (h2 : tabE s.2.1 s.2.2.1 s.2.2.2 = 0) (h3 : ∀ p, p < 64 → outE s.1 s.2.2.2 p = 0) : spcE s = 0 := by
  unfold spcE
  rw [h1.ok, orE_r _ rfl, orE_r _ h2]
  exact (fst0_zero _ _).2 h3
/-- The entry of a page. -/
def entP (es : List Nat) (p : Nat) : Int × Int × Bool × Bool × Bool := (unpR (es.getD p 0)).1
/-- What an access finds. -/
def finR (s : Sp) (p : Nat) (wr : Bool) (count : Int) : Int :=
  if hasP s.1 p = false then 1 else if (entP s.2.2.2 p).1 = 2 then 8 else if (entP s.2.2.2 p).1 = 0 then
    (if wr = false then 2 else if s.2.2.1.getD (p / 8) 0 = -1 then 5 else 6)
  else if wr = false ∨ (entP s.2.2.2 p).2.2.1 = true then 3 else if count ≤ 1 then 4 else 7
def accR (s : Sp) (page : Int) (wr : Bool) (count : Int) : Int × Int :=
  if spcE s ≠ 0 then (0, spcE s) else if page < 0 ∨ 63 < page ∨ count < 0 ∨ 256 < count then (0, 2) else (finR s page.toNat wr count, 0)
def setE (s : Sp) (page k n : Int) (a b c : Bool) : Int :=
  orE (spcE s) (if page < 0 ∨ 63 < page then 2 else if hasP s.1 page.toNat = false then 6 else (putR s.2.1 s.2.2.1 s.2.2.2 page k n a b c).2)
def setR (s : Sp) (page k n : Int) (a b c : Bool) : Sp × Int :=
  if setE s page k n a b c ≠ 0 then (sp0, setE s page k n a b c) else ((s.1, (putR s.2.1 s.2.2.1 s.2.2.2 page k n a b c).1), 0)
/-- The pages below n whose entries have a frame. -/
def ownB (es : List Nat) (frame : Int) (p : Nat) : Bool := decide ((entP es p).1 = 1) && decide ((entP es p).2.1 = frame)
def ownL (es : List Nat) (frame : Int) (n : Nat) : List Int := ((List.range n).filter (ownB es frame)).map fun p : Nat => (p : Int)
def ownR (s : Sp) (frame : Int) : List Int × Int :=
  if spcE s ≠ 0 then ([], spcE s) else if frame < 0 ∨ 255 < frame then ([], 2) else (ownL s.2.2.2 frame 64, 0)
/-- The entries with those of the pages below n that have a frame changed. -/
def movL (es : List Nat) (frame : Int) (x : Nat) : Nat → List Nat
  | 0 => es
  | n + 1 => if ownB es frame n then (movL es frame x n).set n x else movL es frame x n
def movR (s : Sp) (frame slot : Int) : Sp × Int × Int :=
  if spcE s ≠ 0 then (sp0, 0, spcE s) else if frame < 0 ∨ 255 < frame ∨ slot < 0 ∨ 255 < slot then (sp0, 0, 2)
  else ((s.1, s.2.1, s.2.2.1, movL s.2.2.2 frame (packR 2 slot false false false).1.toNat 64), (ownL s.2.2.2 frame 64).length, 0)
def sizR (s : Sp) : Int × Int :=
  if spcE s ≠ 0 then (0, spcE s) else (((kinL s.2.2.2 1 64).length : Int) + (kinL s.2.2.2 2 64).length, 0)
/-- An address space as a value: four cells. -/
def spcV (A : Option Addr) (n c : Nat) (r : Int) (L : Option Addr) (l cl : Nat) (B : Option Addr) (m d : Nat) : Value := .agg #[.slice A n c, .int .i64 r, .slice L l cl, .slice B m d]
end Go.Proofs.YtpkgfkhaiifooaaGreatDoor
