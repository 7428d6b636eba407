/- Sharings as lists of words: which are valid, and what the functions of package cow return. No walk here. -/
import Derived.Test.YtomndlnfidkdcaaDoorTab1
namespace Go.Proofs.YtomndlnfidkdcaaDoor
open Go Go.Proofs Go.RowKit
set_option linter.unusedSimpArgs false
set_option linter.unusedVariables false

/-- A sharing: its tables, each a list of words. -/
abbrev Sh : Type := List (List Nat)
abbrev En5 : Type := Int × Int × Bool × Bool × Bool
def rowAt (t : Sh) (i : Nat) : List Nat := t.getD i []
def wordAt (t : Sh) (i j : Nat) : Nat := (rowAt t i).getD j 0
def entW (x : Nat) : En5 := (unpR x).1
def useE (e : En5) : Int × Int := (e.1, e.2.1)
def useW (x : Nat) : Int × Int := useE (entW x)
def wrW (x : Nat) : Bool := (entW x).2.2.1
def cntL (l : List Nat) (a : Int × Int) : Nat := l.countP fun x => decide (useW x = a)
def cntS (t : Sh) (a : Int × Int) : Nat := (t.map fun l => cntL l a).sum
def packE (e : En5) : Nat := (packR e.1 e.2.1 e.2.2.1 e.2.2.2.1 e.2.2.2.2).1.toNat

/-- The first number that is not 0, and where it is. -/
def fsti (f : Nat → Int) : Nat → Int × Int
  | 0 => (0, 0)
  | n + 1 => if (fsti f n).1 ≠ 0 then fsti f n else if f n ≠ 0 then (f n, (n : Int)) else (0, 0)
theorem fsti_zero (f : Nat → Int) (n : Nat) : (fsti f n).1 = 0 ↔ ∀ k, k < n → f k = 0 := by
  induction n with
  | zero => simp [fsti]
  | succ n ih =>
    unfold fsti
    by_cases h : (fsti f n).1 = 0
    · rw [if_neg (by simp [h])]
      have h2 := ih.1 h
      by_cases h3 : f n = 0
      · rw [if_neg (by simp [h3])]
        refine ⟨fun _ k hk => ?_, fun _ => rfl⟩
        rcases Nat.lt_or_ge k n with h4 | h4
        · exact h2 k h4
        · rw [show k = n by omega]; exact h3
      · rw [if_pos h3]
        exact ⟨fun h4 => absurd h4 h3, fun h4 => absurd (h4 n (by omega)) h3⟩
    · rw [if_pos h]
      exact ⟨fun h1 => absurd h1 h, fun h1 => absurd (ih.2 fun k hk => h1 k (by omega)) h⟩
theorem fsti_none (f : Nat → Int) (n : Nat) (h : (fsti f n).1 = 0) : fsti f n = (0, 0) := by
  cases n with
  | zero => rfl
  | succ n =>
    have h2 := (fsti_zero f (n + 1)).1 h
    have h3 : (fsti f n).1 = 0 := (fsti_zero f n).2 fun k hk => h2 k (by omega)
    unfold fsti
    rw [if_neg (by simp [h3]), if_neg (by simp [h2 n (by omega)])]
theorem fsti_hit (f : Nat → Int) (k n : Nat) (h : (fsti f k).1 = 0) (h' : f k ≠ 0) (hk : k < n) : fsti f n = (f k, (k : Int)) := by
  induction n with
  | zero => omega
  | succ n ih =>
    unfold fsti
    rcases Nat.lt_or_ge k n with h2 | h2
    · have := ih h2
      rw [this]
      simp only
      rw [if_pos h']
    · obtain rfl : k = n := by omega
      rw [if_neg (by simp [h]), if_pos h']
theorem fsti_step (f : Nat → Int) (k : Nat) (h : (fsti f k).1 = 0) (h' : f k = 0) : (fsti f (k + 1)).1 = 0 := by
  refine (fsti_zero f (k + 1)).2 fun j hj => ?_
  rcases Nat.lt_or_ge j k with h2 | h2
  · exact (fsti_zero f k).1 h j h2
  · rw [show j = k by omega]; exact h'
theorem fsti_congr (f g : Nat → Int) (n : Nat) (h : ∀ k, k < n → f k = g k) : fsti f n = fsti g n := by
  induction n with
  | zero => rfl
  | succ n ih =>
    unfold fsti
    rw [ih fun k hk => h k (by omega), h n (by omega)]

/-- The error of a table. -/
def rowE (l : List Nat) : Int := if 64 < l.length then 4 else fst0 (fun k => unpE (l.getD k 0)) l.length
/-- An entry that is Writable though another one uses its frame. -/
def wrB (t : Sh) (x : Nat) : Bool := wrW x && decide (1 < cntS t (useW x))
def wrE (t : Sh) (i : Nat) : Int := if (rowAt t i).any (wrB t) then 9 else 0
/-- The error of a sharing, and its number. -/
def shE (t : Sh) : Int × Int :=
  if 8 < t.length then (5, 0) else if (fsti (fun i => rowE (rowAt t i)) t.length).1 ≠ 0 then fsti (fun i => rowE (rowAt t i)) t.length else fsti (wrE t) t.length
def askT (t : Sh) (table : Int) : Int := orE (shE t).1 (if table < 0 ∨ (t.length : Int) ≤ table then 2 else 0)
def askS (t : Sh) (table page : Int) : Int := orE (shE t).1 (if table < 0 ∨ (t.length : Int) ≤ table ∨ page < 0 ∨ ((rowAt t table.toNat).length : Int) ≤ page then 2 else 0)
/-- What a write to an entry needs. -/
def needR (t : Sh) (x : Nat) : Int := if (entW x).1 = 0 then 1 else if (entW x).1 = 2 then 5 else if wrW x = true then 2 else if cntS t (useW x) = 1 then 3 else 4
def decR (t : Sh) (table page : Int) : Int × Int := if askS t table page ≠ 0 then (0, askS t table page) else (needR t (wordAt t table.toNat page.toNat), 0)
def mapsL (t : Sh) (k : Int) : List Int := (List.range 256).map fun i : Nat => (cntS t (k, (i : Int)) : Int)
def cntsR (t : Sh) : List Int × List Int × Int := if (shE t).1 ≠ 0 then ([], [], (shE t).1) else (mapsL t 1, mapsL t 2, 0)
/-- The places of the other entries with the same frame or slot. -/
def shB (t : Sh) (i j a b : Nat) : Bool := decide (useW (wordAt t a b) = useW (wordAt t i j)) && !(decide (a = i) && decide (b = j))
def shRow (t : Sh) (i j a n : Nat) : List (Int × Int) := ((List.range n).filter (shB t i j a)).map fun b : Nat => ((a : Int), (b : Int))
def shAll (t : Sh) (i j n : Nat) : List (Int × Int) := (List.range n).flatMap fun a => shRow t i j a (rowAt t a).length
def shL (t : Sh) (i j : Nat) : List (Int × Int) := if (entW (wordAt t i j)).1 = 0 then [] else shAll t i j t.length
def shR (t : Sh) (table page : Int) : List (Int × Int) × Int := if askS t table page ≠ 0 then ([], askS t table page) else (shL t table.toNat page.toNat, 0)
def setW (t : Sh) (i j : Nat) (x : Nat) : Sh := t.set i ((rowAt t i).set j x)
/-- What a fork makes of a word: on the side of the parent, and of the child. -/
def shareE (e : En5) : En5 := if e.1 = 1 then (e.1, e.2.1, false, true, e.2.2.2.2) else e
def forgetE (e : En5) : En5 := (e.1, e.2.1, e.2.2.1, e.2.2.2.1, false)
def ownE (e : En5) : En5 := (e.1, e.2.1, true, false, e.2.2.2.2)
def shareW (x : Nat) : Nat := if (entW x).1 = 1 then packE (1, (entW x).2.1, false, true, (entW x).2.2.2.2) else x
def childW (x : Nat) : Nat := if (entW x).1 = 1 then packE (1, (entW x).2.1, false, true, false) else x
def forkE (t : Sh) (table : Int) : Int := orE (askT t table) (if t.length = 8 then 5 else 0)
def forkR (t : Sh) (table : Int) : Sh × Int :=
  if forkE t table ≠ 0 then ([], forkE t table) else (t.set table.toNat ((rowAt t table.toNat).map shareW) ++ [(rowAt t table.toNat).map childW], 0)
def takeE (t : Sh) (table page : Int) : Int := orE (askS t table page) (if needR t (wordAt t table.toNat page.toNat) ≠ 3 then 9 else 0)
def takeR (t : Sh) (table page : Int) : Sh × Int :=
  if takeE t table page ≠ 0 then ([], takeE t table page) else (setW t table.toNat page.toNat (packE (ownE (entW (wordAt t table.toNat page.toNat)))), 0)
def brkE (t : Sh) (table page frame : Int) : Int :=
  orE (askS t table page) (if needR t (wordAt t table.toNat page.toNat) ≠ 4 then 9 else if frame < 0 ∨ 256 ≤ frame then 2 else if 0 < cntS t (1, frame) then 7 else 0)
def brkR (t : Sh) (table page frame : Int) : Sh × Int × Int :=
  if brkE t table page frame ≠ 0 then ([], 0, brkE t table page frame)
  else (setW t table.toNat page.toNat (packE (1, frame, true, false, false)), (entW (wordAt t table.toNat page.toNat)).2.1, 0)
def dropF (t : Sh) (x : Nat) : Int := if (entW x).1 = 1 ∧ cntS t (useW x) = 1 then (entW x).2.1 else -1
def dropS (t : Sh) (x : Nat) : Int := if (entW x).1 = 2 ∧ cntS t (useW x) = 1 then (entW x).2.1 else -1
def dropR (t : Sh) (table page : Int) : Sh × Int × Int × Int :=
  if askS t table page ≠ 0 then ([], 0, 0, askS t table page)
  else (setW t table.toNat page.toNat 0, dropF t (wordAt t table.toNat page.toNat), dropS t (wordAt t table.toNat page.toNat), 0)
def outE2 (t : Sh) (frame slot : Int) : Int :=
  orE (shE t).1 (if frame < 0 ∨ 256 ≤ frame ∨ slot < 0 ∨ 256 ≤ slot then 2 else if cntS t (1, frame) = 0 then 9 else if 0 < cntS t (2, slot) then 7 else 0)
def outW (frame slot : Int) (x : Nat) : Nat := if useW x = (1, frame) then packE (2, slot, false, false, false) else x
def outR (t : Sh) (frame slot : Int) : Sh × Int × Int :=
  if outE2 t frame slot ≠ 0 then ([], 0, outE2 t frame slot) else (t.map fun l => l.map (outW frame slot), (cntS t (1, frame) : Int), 0)
/-- All words are words. -/
def shsmall (t : Sh) : Prop := ∀ l ∈ t, wsmall l
theorem shsmall_at {t : Sh} (h : shsmall t) (i : Nat) : wsmall (rowAt t i) := by
  unfold rowAt
  rw [List.getD_eq_getElem?_getD]
  cases hi : t[i]? with
  | none => intro x hx; simp at hx
  | some l => exact h l (List.mem_of_getElem? hi)
end Go.Proofs.YtomndlnfidkdcaaDoor
