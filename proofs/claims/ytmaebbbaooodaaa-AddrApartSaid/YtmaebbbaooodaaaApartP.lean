/- The pieces and the cover of every valid range: a plain law, reckoned range by range. -/

import Derived.Test.YtmaebbbaooodaaaCover
namespace Go.Proofs.Ytmaebbbaooodaaa
open Go Go.Proofs Go.RowKit

/-- What AddrApart asks of the pieces and the cover of one range. -/
def stepB (a b : Int) (i : Nat) : Bool :=
  match (pieces a b)[i]?, (coverL [(a, b)])[i]? with
  | some p, some c => decide (0 ≤ p.1) && decide (p.1 ≤ p.2) && decide (p.2 < 64) && decide (p.1 / 8 = c) && decide (p.2 / 8 = c) && (match i with
    | 0 => true
    | j + 1 => match (pieces a b)[j]? with
      | some q => decide (q.2 + 1 = p.1) && decide (0 ≤ q.2) && decide (q.2 < 64)
      | none => false)
  | _, _ => false
def apartB (a b : Int) : Bool :=
  decide (1 ≤ (pieces a b).length) && decide ((pieces a b).length ≤ 8) && decide ((coverL [(a, b)]).length = (pieces a b).length) && decide (coverE [(a, b)] = 0) &&
    (match (pieces a b).head? with | some p => decide (p.1 = a) | none => false) && (match (pieces a b).getLast? with | some p => decide (p.2 = b) | none => false) &&
    (List.range (pieces a b).length).all (stepB a b)
theorem apart_all : ((List.range 64).all fun i => (List.range 64).all fun j => !(decide (i ≤ j)) || apartB (i : Int) (j : Int)) = true := by decide +kernel
theorem apart_of (a b : Int) (h0 : 0 ≤ a) (h1 : a ≤ b) (h2 : b < 64) : apartB a b = true := by
  have h := List.all_eq_true.1 (List.all_eq_true.1 apart_all a.toNat (by simp; omega)) b.toNat (by simp; omega)
  have e1 : ((a.toNat : Nat) : Int) = a := by omega
  have e2 : ((b.toNat : Nat) : Int) = b := by omega
  rw [e1, e2] at h
  have : decide (a.toNat ≤ b.toNat) = true := by simp; omega
  rw [this] at h
  simpa using h

end Go.Proofs.Ytmaebbbaooodaaa
