/- Page tables as plain numbers and lists: which are valid, and what their functions return. No walk here. -/
import Derived.Test.YtpkgfkhaiifooaaGreatDoorGE
import Derived.Test.YtpkgfkhaiifooaaGreatDoorOwn
namespace Go.Proofs.YtpkgfkhaiifooaaGreatDoor
open Go Go.Proofs Go.RowKit
set_option linter.unusedSimpArgs false
set_option linter.unusedVariables false

/-- Words as cells. -/
def uw (ws : List Nat) : List Value := ws.map fun x : Nat => Value.int .u64 (x : Int)
def wsmall (ws : List Nat) : Prop := ∀ x ∈ ws, x < 18446744073709551616
theorem uw_len (ws : List Nat) : (uw ws).length = ws.length := by simp [uw]
theorem Rd.word {w : World} {A : Option Addr} {n : Nat} {ws : List Nat} (h : Rd w 1 A n (uw ws)) (hs : wsmall ws) {i : Nat} (hi : i < n) :
    ∃ b off x, A = some ⟨b, off, none⟩ ∧ b < w.heap.size ∧ ws.getD i 0 = x ∧ x < 18446744073709551616 ∧ w.cell? ⟨b, off + i, none⟩ = some (.int .u64 (x : Int)) := by
  obtain ⟨b, off, e, hb, hc⟩ := h.2 (by omega)
  have hl : i < ws.length := by have := h.1; rw [uw_len] at this; omega
  have hr : ws[i]? = some ws[i] := List.getElem?_eq_getElem hl
  exact ⟨b, off, ws[i], e, hb, by rw [List.getD_eq_getElem?_getD, hr]; rfl, hs _ (List.getElem_mem hl), hc _ _ (by simp [uw, hr])⟩
theorem oneCells_uw (ws : List Nat) : ∀ u ∈ uw ws, u.oneCell' = true := by
  intro u hu
  obtain ⟨z, _, rfl⟩ := List.mem_map.1 hu
  rfl
/-- Numbers as cells. -/
def iw (zs : List Int) : List Value := zs.map (Value.int .i64)
theorem iw_len (zs : List Int) : (iw zs).length = zs.length := by simp [iw]
theorem Rd.numb {w : World} {A : Option Addr} {n : Nat} {zs : List Int} (h : Rd w 1 A n (iw zs)) {i : Nat} (hi : i < n) :
    ∃ b off z, A = some ⟨b, off, none⟩ ∧ b < w.heap.size ∧ zs.getD i 0 = z ∧ w.cell? ⟨b, off + i, none⟩ = some (.int .i64 z) := by
  obtain ⟨b, off, z, e, hb, hr, hc⟩ := Rd.num (k := .i64) h hi
  exact ⟨b, off, z, e, hb, by rw [List.getD_eq_getElem?_getD, hr]; rfl, hc⟩

/-- The first number that is not 0 of the first n ones. -/
def fst0 (f : Nat → Int) : Nat → Int
  | 0 => 0
  | n + 1 => if fst0 f n ≠ 0 then fst0 f n else f n
theorem fst0_zero (f : Nat → Int) (n : Nat) : fst0 f n = 0 ↔ ∀ k, k < n → f k = 0 := by
  induction n with
  | zero => simp [fst0]
  | succ n ih =>
    unfold fst0
    by_cases h : fst0 f n = 0
    · rw [if_neg (by simp [h])]
      constructor
      · intro h1 k hk
        rcases Nat.lt_or_ge k n with h2 | h2
        · exact ih.1 h k h2
        · rw [show k = n by omega]; exact h1
      · exact fun h1 => h1 n (by omega)
    · rw [if_pos h]
      constructor
      · exact fun h1 => absurd h1 h
      · exact fun h1 => absurd (ih.2 fun k hk => h1 k (by omega)) h
theorem fst0_step (f : Nat → Int) (k : Nat) (h : fst0 f k = 0) (h' : f k = 0) : fst0 f (k + 1) = 0 := by
  unfold fst0; rw [if_neg (by simp [h]), h']
theorem fst0_hit (f : Nat → Int) (k n : Nat) (h : fst0 f k = 0) (h' : f k ≠ 0) (hk : k < n) : fst0 f n = f k := by
  induction n with
  | zero => omega
  | succ n ih =>
    unfold fst0
    rcases Nat.lt_or_ge k n with h2 | h2
    · have := ih h2
      rw [if_pos (by rw [this]; exact h'), this]
    · obtain rfl : k = n := by omega
      rw [if_neg (by simp [h])]
theorem fst0_congr (f g : Nat → Int) (n : Nat) (h : ∀ k, k < n → f k = g k) : fst0 f n = fst0 g n := by
  induction n with
  | zero => rfl
  | succ n ih =>
    unfold fst0
    rw [ih fun k hk => h k (by omega), h n (by omega)]

/-- Errors of the root and the leaves of a table, one after the other. -/
def badF (n : Int) : Int := if n < -1 ∨ 256 ≤ n then 2 else 0
def dupE (r : Int) (ls : List Int) (i : Nat) : Int := if 0 ≤ ls.getD i 0 ∧ (ls.getD i 0 = r ∨ ∃ j, j < i ∧ ls.getD j 0 = ls.getD i 0) then 7 else 0
def stE (r : Int) (ls : List Int) (i : Nat) : Int := if 0 ≤ ls.getD i 0 ∧ r < 0 then 9 else 0
def orE (a b : Int) : Int := if a ≠ 0 then a else b
theorem orE_l {a : Int} (b : Int) (h : a ≠ 0) : orE a b = a := by simp [orE, h]
theorem orE_r {a : Int} (b : Int) (h : a = 0) : orE a b = b := by simp [orE, h]
theorem orE_zero {a b : Int} (h : orE a b = 0) : a = 0 ∧ b = 0 := by
  unfold orE at h; split at h <;> simp_all
def lsE (ls : List Int) : Int := fst0 (fun i => badF (ls.getD i 0)) 8
def frmE (r : Int) (ls : List Int) : Int := orE (badF r) (orE (lsE ls) (orE (fst0 (dupE r ls) 8) (fst0 (stE r ls) 8)))
/-- The error of the entry of a page. -/
def entB (ls : List Int) (es : List Nat) (p : Nat) : Int := orE (unpE (es.getD p 0)) (if es.getD p 0 % 4 ≠ 0 ∧ ls.getD (p / 8) 0 = -1 then 9 else 0)
/-- The error of a table. -/
def tabE (r : Int) (ls : List Int) (es : List Nat) : Int :=
  if ls.length ≠ 8 ∨ es.length ≠ 64 then 3 else orE (frmE r ls) (fst0 (entB ls es) 64)
def askE (r : Int) (ls : List Int) (es : List Nat) (page : Int) : Int := orE (tabE r ls es) (if page < 0 ∨ 64 ≤ page then 2 else 0)
theorem badF_zero {n : Int} (h : badF n = 0) : -1 ≤ n ∧ n < 256 := by unfold badF at h; split at h <;> omega
/-- What a valid table is. -/
theorem tab_zero {r : Int} {ls : List Int} {es : List Nat} (h : tabE r ls es = 0) :
    ls.length = 8 ∧ es.length = 64 ∧ (-1 ≤ r ∧ r < 256) ∧ (∀ i, i < 8 → -1 ≤ ls.getD i 0 ∧ ls.getD i 0 < 256) ∧ (∀ i, i < 8 → dupE r ls i = 0) ∧ (∀ i, i < 8 → stE r ls i = 0) ∧
      (∀ p, p < 64 → unpE (es.getD p 0) = 0) ∧ (∀ p, p < 64 → ¬ (es.getD p 0 % 4 ≠ 0 ∧ ls.getD (p / 8) 0 = -1)) := by
  unfold tabE at h
  split at h
  · omega
  · obtain ⟨h1, h2⟩ := orE_zero h
    obtain ⟨h3, h4⟩ := orE_zero h1
    obtain ⟨h5, h6⟩ := orE_zero h4
    obtain ⟨h7, h8⟩ := orE_zero h6
    refine ⟨by omega, by omega, badF_zero h3, fun i hi => badF_zero ((fst0_zero _ _).1 h5 i hi), (fst0_zero _ _).1 h7, (fst0_zero _ _).1 h8, fun p hp => (orE_zero ((fst0_zero _ _).1 h2 p hp)).1, fun p hp hc => ?_⟩
    have := (orE_zero ((fst0_zero _ _).1 h2 p hp)).2
    rw [if_pos hc] at this
    omega

/-- A table: its root, its leaves, its entries. -/
abbrev Tb : Type := Int × List Int × List Nat
def tb0 : Tb := (0, [], [])
def tabV (r : Int) (A : Option Addr) (n c : Nat) (B : Option Addr) (m d : Nat) : Value := .agg #[.int .i64 r, .slice A n c, .slice B m d]
def unpK (x : Nat) : Int := (unpR x).1.1
theorem unpK_eq (x : Nat) (h : unpE x = 0) : unpK x = ((x % 4 : Nat) : Int) := by unfold unpK unpR; rw [if_pos h]
theorem unpE_lt4 (x : Nat) (h : unpE x = 0) : x % 4 ≠ 3 := by
  intro hc
  unfold unpE at h
  rw [if_pos hc] at h
  omega
def getR (r : Int) (ls : List Int) (es : List Nat) (page : Int) : (Int × Int × Bool × Bool × Bool) × Int :=
  if askE r ls es page ≠ 0 then ((0, 0, false, false, false), askE r ls es page) else unpR (es.getD page.toNat 0)
def lackR (r : Int) (ls : List Int) (es : List Nat) (page : Int) : Bool × Int :=
  if askE r ls es page ≠ 0 then (false, askE r ls es page) else (decide (ls.getD (page.toNat / 8) 0 = -1), 0)
def putE (r : Int) (ls : List Int) (es : List Nat) (page k n : Int) (a b c : Bool) : Int :=
  orE (askE r ls es page) (orE (packR k n a b c).2 (if ls.getD (page.toNat / 8) 0 = -1 ∧ k ≠ 0 then 9 else 0))
def putR (r : Int) (ls : List Int) (es : List Nat) (page k n : Int) (a b c : Bool) : Tb × Int :=
  if putE r ls es page k n a b c ≠ 0 then (tb0, putE r ls es page k n a b c) else ((r, ls, es.set page.toNat (packR k n a b c).1.toNat), 0)
def leafE (r : Int) (ls : List Int) (es : List Nat) (leaf frame : Int) : Int :=
  orE (tabE r ls es) (if leaf < 0 ∨ 8 ≤ leaf ∨ frame < 0 ∨ 256 ≤ frame then 2 else if r = -1 then 9 else if ls.getD leaf.toNat 0 ≠ -1 ∨ frame = r ∨ frame ∈ ls then 7 else 0)
def leafR (r : Int) (ls : List Int) (es : List Nat) (leaf frame : Int) : Tb × Int :=
  if leafE r ls es leaf frame ≠ 0 then (tb0, leafE r ls es leaf frame) else ((r, ls.set leaf.toNat frame, es), 0)
/-- Whether a leaf has no entries. -/
def emptyB (es : List Nat) (leaf : Nat) : Bool := (List.range 8).all fun i => unpK (es.getD (leaf * 8 + i) 0) == 0
def clearE (r : Int) (ls : List Int) (es : List Nat) (page : Int) : Int :=
  orE (askE r ls es page) (if unpK (es.getD page.toNat 0) = 0 then 6 else 0)
def clearR (r : Int) (ls : List Int) (es : List Nat) (page : Int) : Tb × Int × Int :=
  if clearE r ls es page ≠ 0 then (tb0, 0, clearE r ls es page)
  else if emptyB (es.set page.toNat 0) (page.toNat / 8) then ((r, ls.set (page.toNat / 8) (-1), es.set page.toNat 0), ls.getD (page.toNat / 8) 0, 0)
  else ((r, ls, es.set page.toNat 0), -1, 0)
/-- The leaves after the first n were trimmed, and the frames of those that are gone. -/
def goneB (ls : List Int) (es : List Nat) (i : Nat) : Bool := decide (ls.getD i 0 ≠ -1) && emptyB es i
def trimL (ls : List Int) (es : List Nat) : Nat → List Int
  | 0 => ls
  | n + 1 => if goneB ls es n then (trimL ls es n).set n (-1) else trimL ls es n
def trimG (ls : List Int) (es : List Nat) (n : Nat) : List Int := ((List.range n).filter (goneB ls es)).map fun i => ls.getD i 0
def trimR (r : Int) (ls : List Int) (es : List Nat) : Tb × List Int × Int :=
  if tabE r ls es ≠ 0 then (tb0, [], tabE r ls es) else ((r, trimL ls es 8, es), trimG ls es 8, 0)
def frmL (ls : List Int) (n : Nat) : List Int := (ls.take n).filter fun f => decide (f ≠ -1)
def frmR (r : Int) (ls : List Int) (es : List Nat) : List Int × Int :=
  if tabE r ls es ≠ 0 then ([], tabE r ls es) else (frmL ls 8 ++ (if r = -1 then [] else [r]), 0)
def kinL (es : List Nat) (kind : Int) (n : Nat) : List Int := ((List.range n).filter fun p => unpK (es.getD p 0) == kind).map fun p : Nat => (p : Int)
def pagR (r : Int) (ls : List Int) (es : List Nat) (kind : Int) : List Int × Int :=
  if tabE r ls es ≠ 0 then ([], tabE r ls es) else if kind < 0 ∨ 2 < kind then ([], 2) else (kinL es kind 64, 0)
def cntR (r : Int) (ls : List Int) (es : List Nat) : Int × Int × Int :=
  if tabE r ls es ≠ 0 then (0, 0, tabE r ls es) else ((kinL es 1 64).length, (kinL es 2 64).length, 0)
def newR (root : Int) : Tb × Int := if badF root ≠ 0 then (tb0, 2) else ((root, List.replicate 8 (-1), List.replicate 64 0), 0)

/-- A table that a call returned: a value that reads as the table in the world behind the call. -/
def TbV (w : World) (v : Value) (t : Tb) : Prop := ∃ A c B d, v = tabV t.1 A t.2.1.length c B t.2.2.length d ∧ Rd w 1 A t.2.1.length (iw t.2.1) ∧ Rd w 1 B t.2.2.length (uw t.2.2) ∧ t.2.1.length ≤ c
theorem TbV.to {w w' : World} {v : Value} {t : Tb} (h : TbV w v t) (hb : Below w.heap.size w w') : TbV w' v t := by
  obtain ⟨A, c, B, d, e, h1, h2, h3⟩ := h
  exact ⟨A, c, B, d, e, h1.below hb (Nat.le_refl _), h2.below hb (Nat.le_refl _), h3⟩
theorem TbV.zero (w : World) : TbV w (.agg #[.int .i64 0, .slice none 0 0, .slice none 0 0]) tb0 := ⟨none, 0, none, 0, rfl, Rd.zero none, Rd.zero none, Nat.le_refl _⟩
/-- A row of numbers that a call returned. -/
def IsV (w : World) (v : Value) (zs : List Int) : Prop := ∃ A c, v = .slice A zs.length c ∧ Rd w 1 A zs.length (iw zs)
theorem IsV.to {w w' : World} {v : Value} {zs : List Int} (h : IsV w v zs) (hb : Below w.heap.size w w') : IsV w' v zs := by
  obtain ⟨A, c, e, h1⟩ := h
  exact ⟨A, c, e, h1.below hb (Nat.le_refl _)⟩
theorem IsV.nil (w : World) : IsV w (.slice none 0 0) [] := ⟨none, 0, rfl, Rd.zero none⟩
theorem wsmall_set {es : List Nat} (h : wsmall es) (i : Nat) {x : Nat} (hx : x < 18446744073709551616) : wsmall (es.set i x) := by
  intro y hy
  rcases List.mem_or_eq_of_mem_set hy with h1 | h1
  · exact h y h1
  · rw [h1]; exact hx
end Go.Proofs.YtpkgfkhaiifooaaGreatDoor
