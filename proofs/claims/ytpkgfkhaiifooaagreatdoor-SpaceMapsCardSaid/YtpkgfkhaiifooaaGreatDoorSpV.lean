/- Address spaces as values in memory. -/
import Derived.Test.YtpkgfkhaiifooaaGreatDoorSp1
import Derived.Test.YtpkgfkhaiifooaaGreatDoorGT
namespace Go.Proofs.YtpkgfkhaiifooaaGreatDoor
open Go Go.Proofs Go.RowKit
set_option linter.unusedSimpArgs false
set_option linter.unusedVariables false

/-- A value that reads as an address space. -/
def SpV (w : World) (v : Value) (s : Sp) : Prop :=
  ∃ A c L cl B d, v = spcV A s.1.length c s.2.1 L s.2.2.1.length cl B s.2.2.2.length d ∧ Rd w 2 A s.1.length (flat2 .i64 s.1) ∧ Rd w 1 L s.2.2.1.length (iw s.2.2.1) ∧ Rd w 1 B s.2.2.2.length (uw s.2.2.2) ∧ s.2.2.1.length ≤ cl
theorem SpV.to {w w' : World} {v : Value} {s : Sp} (h : SpV w v s) (hb : Below w.heap.size w w') : SpV w' v s := by
  obtain ⟨A, c, L, cl, B, d, e, h1, h2, h3, h4⟩ := h
  exact ⟨A, c, L, cl, B, d, e, h1.below hb (Nat.le_refl _), h2.below hb (Nat.le_refl _), h3.below hb (Nat.le_refl _), h4⟩
theorem SpV.zero (w : World) : SpV w (.agg #[.slice none 0 0, .int .i64 0, .slice none 0 0, .slice none 0 0]) sp0 :=
  ⟨none, 0, none, 0, none, 0, rfl, Rd.zero none, Rd.zero none, Rd.zero none, Nat.le_refl _⟩
/-- An address space and an error as results. -/
def SpRes (w w' : World) (s : Sp) (er : Int) (e : Ending) : Prop := ∃ v, e = .returned (.tuple #[v, .int .i64 er]) ∧ SpV w' v s ∧ Below w.heap.size w w'
theorem tbv_of {w : World} {r : Int} {ls : List Int} {es : List Nat} {L B : Option Addr} {cl d : Nat} (hL : Rd w 1 L ls.length (iw ls)) (hB : Rd w 1 B es.length (uw es)) (h : ls.length ≤ cl) : TbV w (.agg #[.int .i64 r, .slice L ls.length cl, .slice B es.length d]) (r, ls, es) :=
  ⟨L, cl, B, d, rfl, hL, hB, h⟩
theorem spc_bad1 {s : Sp} (h : (regE s.1).1 ≠ 0) : spcE s = (regE s.1).1 := by unfold spcE; rw [orE_l _ h]
theorem spc_bad2 {s : Sp} (h : (regE s.1).1 = 0) (h2 : tabE s.2.1 s.2.2.1 s.2.2.2 ≠ 0) : spcE s = tabE s.2.1 s.2.2.1 s.2.2.2 := by unfold spcE; rw [orE_r _ h, orE_l _ h2]
theorem spc_rest {s : Sp} (h : (regE s.1).1 = 0) (h2 : tabE s.2.1 s.2.2.1 s.2.2.2 = 0) : spcE s = fst0 (outE s.1 s.2.2.2) 64 := by unfold spcE; rw [orE_r _ h, orE_r _ h2]
theorem outE_no {rs : List (Int × Int)} {es : List Nat} {p : Nat} (h : unpK (es.getD p 0) = 0 ∨ hasP rs p = true) : outE rs es p = 0 := by
  unfold outE
  rw [if_neg]
  rintro ⟨h1, h2⟩
  rcases h with h | h
  · exact h1 h
  · rw [h] at h2; cases h2
theorem outE_yes {rs : List (Int × Int)} {es : List Nat} {p : Nat} (h1 : unpK (es.getD p 0) ≠ 0) (h2 : hasP rs p = false) : outE rs es p = 9 := by
  unfold outE
  rw [if_pos ⟨h1, h2⟩]
/-- The answer of Get and of Has at a page of a valid address space. -/
theorem get_in {r : Int} {ls : List Int} {es : List Nat} (h : tabE r ls es = 0) (p : Nat) (hp : p < 64) : getR r ls es p = unpR (es.getD p 0) := by
  unfold getR askE
  rw [orE_r _ h, if_neg (by omega), Int.toNat_natCast]
theorem unp_in {r : Int} {ls : List Int} {es : List Nat} (h : tabE r ls es = 0) (p : Nat) (hp : p < 64) : (unpR (es.getD p 0)).2 = 0 := by
  obtain ⟨_, _, _, _, _, _, h7, _⟩ := tab_zero h
  have := h7 p hp
  unfold unpR
  rw [if_pos this]
end Go.Proofs.YtpkgfkhaiifooaaGreatDoor
