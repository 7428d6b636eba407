/- Entries by value in package cow: what its small functions return. -/
import Derived.Test.YtomndlnfidkdcaaDoorCow1
import Derived.Test.YtomndlnfidkdcaaDoorWide
import Derived.Test.YtomndlnfidkdcaaDoorBox
namespace Go.Proofs.YtomndlnfidkdcaaDoor
open Go Go.Proofs Go.RowKit
set_option linter.unusedSimpArgs false
set_option linter.unusedVariables false

/-- An entry as one value. -/
def enV (e : En5) : Value := .agg #[.int .i64 e.1, .int .i64 e.2.1, .bool e.2.2.1, .bool e.2.2.2.1, .bool e.2.2.2.2]

set_option maxHeartbeats 400000 in
theorem use_any (k n : Int) (a b c : Bool) (w : World) :
    Calls Tryd.prog 60 #[.agg #[.int .i64 k, .int .i64 n, .bool a, .bool b, .bool c]] w fun e w' => e = .returned (.agg #[.int .i64 k, .int .i64 n, .bool false, .bool false, .bool false]) ∧ Below w.heap.size w w' := by
  go_enter Tryd.func60, Tryd.ntmps60
  go_wp2
  exact bodyPost_ret (v := .agg #[.int .i64 k, .int .i64 n, .bool false, .bool false, .bool false]) (by simp [results, Tryd.results60, go_sem]) rfl ⟨rfl, balloc (balloc (Below.refl _ _) _) _⟩
set_option maxHeartbeats 400000 in
theorem frameUse_any (n : Int) (w : World) :
    Calls Tryd.prog 57 #[.int .i64 n] w fun e w' => e = .returned (.agg #[.int .i64 1, .int .i64 n, .bool false, .bool false, .bool false]) ∧ Below w.heap.size w w' := by
  go_enter Tryd.func57, Tryd.ntmps57
  go_wp2
  exact bodyPost_ret (v := .agg #[.int .i64 1, .int .i64 n, .bool false, .bool false, .bool false]) (by simp [results, Tryd.results57, go_sem]) rfl ⟨rfl, balloc (Below.refl _ _) _⟩
set_option maxHeartbeats 400000 in
theorem slotUse_any (n : Int) (w : World) :
    Calls Tryd.prog 61 #[.int .i64 n] w fun e w' => e = .returned (.agg #[.int .i64 2, .int .i64 n, .bool false, .bool false, .bool false]) ∧ Below w.heap.size w w' := by
  go_enter Tryd.func61, Tryd.ntmps61
  go_wp2
  exact bodyPost_ret (v := .agg #[.int .i64 2, .int .i64 n, .bool false, .bool false, .bool false]) (by simp [results, Tryd.results61, go_sem]) rfl ⟨rfl, balloc (Below.refl _ _) _⟩
set_option maxHeartbeats 400000 in
theorem forget_any (k n : Int) (a b c : Bool) (w : World) :
    Calls Tryd.prog 44 #[.agg #[.int .i64 k, .int .i64 n, .bool a, .bool b, .bool c]] w fun e w' => e = .returned (.agg #[.int .i64 k, .int .i64 n, .bool a, .bool b, .bool false]) ∧ Below w.heap.size w w' := by
  go_enter Tryd.func44, Tryd.ntmps44
  go_wp2
  exact bodyPost_ret (v := .agg #[.int .i64 k, .int .i64 n, .bool a, .bool b, .bool false]) (by simp [results, Tryd.results44, go_sem]) rfl ⟨rfl, balloc (balloc (Below.refl _ _) _) _⟩
set_option maxHeartbeats 400000 in
theorem cown_any (k n : Int) (a b c : Bool) (w : World) :
    Calls Tryd.prog 53 #[.agg #[.int .i64 k, .int .i64 n, .bool a, .bool b, .bool c]] w fun e w' => e = .returned (.agg #[.int .i64 k, .int .i64 n, .bool true, .bool false, .bool c]) ∧ Below w.heap.size w w' := by
  go_enter Tryd.func53, Tryd.ntmps53
  go_wp2
  exact bodyPost_ret (v := .agg #[.int .i64 k, .int .i64 n, .bool true, .bool false, .bool c]) (by simp [results, Tryd.results53, go_sem]) rfl ⟨rfl, balloc (balloc (Below.refl _ _) _) _⟩
set_option maxHeartbeats 400000 in
theorem share_any (k n : Int) (a b c : Bool) (w : World) :
    Calls Tryd.prog 43 #[.agg #[.int .i64 k, .int .i64 n, .bool a, .bool b, .bool c]] w fun e w' => e = .returned (.agg #[.int .i64 (shareE (k, n, a, b, c)).1, .int .i64 (shareE (k, n, a, b, c)).2.1, .bool (shareE (k, n, a, b, c)).2.2.1, .bool (shareE (k, n, a, b, c)).2.2.2.1, .bool (shareE (k, n, a, b, c)).2.2.2.2]) ∧ Below w.heap.size w w' := by
  by_cases h : k = 1
  · subst h
    go_enter Tryd.func43, Tryd.ntmps43
    go_wp2
    exact bodyPost_ret (v := .agg #[.int .i64 1, .int .i64 n, .bool false, .bool true, .bool c]) (by simp [results, Tryd.results43, go_sem]) rfl ⟨rfl, balloc (balloc (Below.refl _ _) _) _⟩
  · have hb : (k == 1) = false := by simpa using h
    have hE : shareE (k, n, a, b, c) = (k, n, a, b, c) := by simp [shareE, h]
    have HE := Lib.hid hE
    clear hE h
    go_enter Tryd.func43, Tryd.ntmps43
    go_wp2
    exact bodyPost_ret (v := .agg #[.int .i64 k, .int .i64 n, .bool a, .bool b, .bool c]) (by simp [results, Tryd.results43, go_sem]) rfl ⟨by rw [HE.out], balloc (balloc (Below.refl _ _) _) _⟩
set_option maxHeartbeats 400000 in
theorem become_any (k n : Int) (a b c : Bool) (w : World) :
    Calls Tryd.prog 58 #[.agg #[.int .i64 k, .int .i64 n, .bool a, .bool b, .bool c]] w fun e w' => e = .returned (.func (.func 72) #[] #[.pointer (some ⟨w.heap.size, 0, none⟩)]) ∧ w' = w.alloc (.cells #[.int .i64 k, .int .i64 n, .bool a, .bool b, .bool c] 61) := by
  go_enter Tryd.func58, Tryd.ntmps58
  go_wp2
  go_ret
  exact ⟨rfl, rfl⟩
set_option maxHeartbeats 400000 in
theorem become1_any (x : Value) (k n : Int) (a b c : Bool) (k' n' : Int) (a' b' c' : Bool) (g : Nat) (w : World) (hB : Bk w g #[.int .i64 k, .int .i64 n, .bool a, .bool b, .bool c] 61) :
    Calls Tryd.prog 72 #[.agg #[.int .i64 k', .int .i64 n', .bool a', .bool b', .bool c'], .pointer (some ⟨g, 0, none⟩)] w fun e w' => e = .returned (.agg #[.int .i64 k, .int .i64 n, .bool a, .bool b, .bool c]) ∧ Below w.heap.size w w' := by
  obtain ⟨c0, f0, l0⟩ := hB.facts
  go_enter Tryd.func72, Tryd.ntmps72
  go_wp2
  exact bodyPost_ret (v := .agg #[.int .i64 k, .int .i64 n, .bool a, .bool b, .bool c]) (by simp [results, Tryd.results72, go_sem]) rfl ⟨rfl, balloc (balloc (Below.refl _ _) _) _⟩
end Go.Proofs.YtomndlnfidkdcaaDoor
