/- The reader of a text of regions: what its methods change. -/
import Derived.Test.YtfblbkhiaglelaaDoorRg4
import Derived.Test.YtfblbkhiaglelaaDoorRgK
import Derived.Defers
import Derived.Deep.QuietTactic
import Derived.BigQuiet
namespace Go.Proofs.YtfblbkhiaglelaaDoor
open Go Go.Proofs Go.RowKit
set_option linter.unusedSimpArgs false
set_option linter.unusedVariables false
set_option maxRecDepth 100000

/-- All old blocks but one stay. -/
structure Tch (b : Nat) (w w' : World) : Prop where
  os : w'.os = w.os
  tape : w'.tape = w.tape
  output : w'.output = w.output
  size : w.heap.size ≤ w'.heap.size
  block : ∀ k, k < w.heap.size → k ≠ b → w'.heap[k]? = w.heap[k]?
section
variable {b : Nat} {w w' w'' : World}
theorem Tch.refl (b : Nat) (w : World) : Tch b w w := ⟨rfl, rfl, rfl, Nat.le_refl _, fun _ _ _ => rfl⟩
theorem Tch.trans (h : Tch b w w') (k : Tch b w' w'') : Tch b w w'' :=
  ⟨k.os.trans h.os, k.tape.trans h.tape, k.output.trans h.output, Nat.le_trans h.size k.size, fun i hi hb => (k.block i (Nat.lt_of_lt_of_le hi h.size) hb).trans (h.block i hi hb)⟩
theorem Tch.of (h : Below w.heap.size w w') : Tch b w w' := ⟨h.os, h.tape, h.output, h.size, fun i hi _ => h.block i hi⟩
theorem Tch.alloc (h : Tch b w w') (o : Obj) : Tch b w (w'.alloc o) := h.trans (Tch.of (balloc (Below.refl _ _) o))
theorem Tch.drewN (h : Tch b w w') (n : Nat) : Tch b w (w'.drewN n) := ⟨h.os, h.tape, h.output, h.size, h.block⟩
theorem Tch.put (h : Tch b w w') (i : Nat) (u : Value) : Tch b w (w'.setCell ⟨b, i, none⟩ u) := by
  have hb := (Below.refl b w').setCell (p := ⟨b, i, none⟩) (Nat.le_refl b) u
  refine h.trans ⟨hb.os, hb.tape, hb.output, hb.size, fun k hk hne => Below.heap_setCell w' ⟨b, i, none⟩ u k hne⟩
theorem Tch.bk (h : Tch b w w') {c : Nat} {cs : Array Value} {t : TypeId} (k : Bk w c cs t) (hc : c ≠ b) : Bk w' c cs t := (h.block c k.lt hc).trans k
theorem Tch.own (h : Tch b w w') {B n sz : Nat} {e : TypeId} {v : Value} {xs : List Value} (k : w.ownsRow B e sz v n xs) (hv : v.ownBlock ≠ some b) : w'.ownsRow B e sz v n xs := by
  refine ⟨k.1, ?_⟩
  rcases k.2 with hn | ⟨g, cap, cur, rfl, hbg, hat, rest⟩
  · exact .inl hn
  · refine .inr ⟨g, cap, cur, rfl, hbg, ?_, rest⟩
    have hg : g < w.heap.size := (Array.getElem?_eq_some_iff.1 hat).1
    exact (h.block g hg (fun e => hv (by rw [← e]; rfl))).trans hat
theorem Tch.below (h : Tch b w w') {a : World} {B : Nat} (k : Below B a w) (hB : B ≤ b) (hs : B ≤ w.heap.size) : Below B a w' :=
  k.trans ⟨h.os, h.tape, h.output, h.size, fun i hi => h.block i (by omega) (by omega)⟩
end
/-- The closure that the reader's number defers. -/
theorem num1_f (p q b : Nat) (a s : Int) (u : FrameMode) (w : World) (h1 : w.cell? ⟨p, 0, none⟩ = some (.pointer (some ⟨b, 0, none⟩))) (h2 : w.cell? ⟨q, 0, none⟩ = some (.int .i64 s)) (h3 : w.cell? ⟨b, 1, none⟩ = some (.int .i64 a)) (hne : a ≠ s) :
    CallsD Tryd.prog 58 #[.pointer (some ⟨p, 0, none⟩), .pointer (some ⟨q, 0, none⟩)] u w fun e u' w' => u' = u ∧ (e = .returned (.tuple #[]) ∧ ∃ n, w' = w.drewN n) := by
  have hd : (a == s) = false := by simpa using hne
  go_enter_d Tryd.func58, Tryd.ntmps58
  go_wp2_with fail
  go_quiet (fail)
  go_wp2_with fail
  go_end0
  exact ⟨rfl, _, rfl⟩
theorem num1_t (p q b : Nat) (a : Int) (bad : Bool) (u : FrameMode) (w : World) (h1 : w.cell? ⟨p, 0, none⟩ = some (.pointer (some ⟨b, 0, none⟩))) (h2 : w.cell? ⟨q, 0, none⟩ = some (.int .i64 a)) (h3 : w.cell? ⟨b, 1, none⟩ = some (.int .i64 a)) (h4 : w.cell? ⟨b, 2, none⟩ = some (.bool bad)) (h5 : w.frozen? ⟨b, 2, none⟩ = false) :
    CallsD Tryd.prog 58 #[.pointer (some ⟨p, 0, none⟩), .pointer (some ⟨q, 0, none⟩)] u w fun e u' w' => u' = u ∧ (e = .returned (.tuple #[]) ∧ ∃ n, w' = (w.drewN n).setCell ⟨b, 2, none⟩ (.bool true)) := by
  go_enter_d Tryd.func58, Tryd.ntmps58
  go_wp2_with fail
  go_quiet (fail)
  go_wp2_with fail
  go_end0
  exact ⟨rfl, _, rfl⟩
end Go.Proofs.YtfblbkhiaglelaaDoor
