/- Rows of a call's own behind other calls and stores. -/
import Derived.Test.YtpkgfkhaiifooaaGreatDoorOwn
namespace Go.Proofs.YtpkgfkhaiifooaaGreatDoor
open Go Go.RowKit
set_option linter.unusedSimpArgs false
set_option linter.unusedVariables false

theorem own_less {W : World} {base base' : Nat} {e : TypeId} {size : Nat} {v : Value} {k : Nat} {xs : List Value} (h : W.ownsRow base e size v k xs) (hb : base' ≤ base) : W.ownsRow base' e size v k xs := by
  refine ⟨h.1, ?_⟩
  rcases h.2 with hn | ⟨g, cap, cur, hv, hbg, rest⟩
  · exact .inl hn
  · exact .inr ⟨g, cap, cur, hv, Nat.le_trans hb hbg, rest⟩
theorem own_below {w w' : World} {B : Nat} {e : TypeId} {size n : Nat} {v : Value} {xs : List Value} (h : w.ownsRow B e size v n xs) (hb : Below w.heap.size w w') : w'.ownsRow B e size v n xs := by
  refine ⟨h.1, ?_⟩
  rcases h.2 with hn | ⟨g, cap, cur, hv, hbg, hg, rest⟩
  · exact .inl hn
  · exact .inr ⟨g, cap, cur, hv, hbg, (hb.block g (Array.getElem?_eq_some_iff.1 hg).1).trans hg, rest⟩
theorem own_far {w : World} {B : Nat} {e : TypeId} {sz n : Nat} {v : Value} {xs : List Value} {p : Addr} (h : w.ownsRow B e sz v n xs) (hp : p.block < B) (u : Value) : (w.setCell p u).ownsRow B e sz v n xs := by
  refine ⟨h.1, ?_⟩
  rcases h.2 with hn | ⟨g, cap, cur, hv, hbg, hg, rest⟩
  · exact .inl hn
  · exact .inr ⟨g, cap, cur, hv, hbg, (Below.heap_setCell w p u g (by omega)).trans hg, rest⟩
theorem own_side {w : World} {B g n c : Nat} {e : TypeId} {sz : Nat} {xs : List Value} {p : Addr} (h : w.ownsRow B e sz (.slice (some ⟨g, 0, none⟩) n c) n xs) (hp : p.block ≠ g) (u : Value) : (w.setCell p u).ownsRow B e sz (.slice (some ⟨g, 0, none⟩) n c) n xs := by
  refine ⟨h.1, ?_⟩
  rcases h.2 with ⟨h0, _⟩ | ⟨g', cap, cur, hv, hbg, hg, rest⟩
  · cases h0
  · have : g = g' := by injection hv with hv; injection hv with hv; injection hv
    subst this
    exact .inr ⟨g, cap, cur, hv, hbg, (Below.heap_setCell w p u g (fun e => hp e.symm)).trans hg, rest⟩
end Go.Proofs.YtpkgfkhaiifooaaGreatDoor
