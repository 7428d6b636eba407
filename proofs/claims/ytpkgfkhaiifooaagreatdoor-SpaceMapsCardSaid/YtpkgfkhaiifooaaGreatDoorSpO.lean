/- What space.Size and space.Owner return. -/
import Derived.Test.YtpkgfkhaiifooaaGreatDoorSpF
import Derived.Test.YtpkgfkhaiifooaaGreatDoorGV
namespace Go.Proofs.YtpkgfkhaiifooaaGreatDoor
open Go Go.Proofs Go.RowKit Go.Shelf
set_option linter.unusedSimpArgs false
set_option linter.unusedVariables false
set_option maxRecDepth 100000
attribute [local go_sem] Oper.semAt_some

theorem keepE_set {W : World} {Br P : Nat} {B : Option Addr} (h1 : 0 ≠ P) (h2 : Br ≠ P) (h3 : ∀ b o p, B = some ⟨b, o, p⟩ → b ≠ P) (x : Value) : KeepE Br B W (W.setCell ⟨P, 0, none⟩ x) :=
  ⟨Below.heap_setCell W ⟨P, 0, none⟩ x _ h1, Below.heap_setCell W ⟨P, 0, none⟩ x _ h2, fun b o p e => Below.heap_setCell W ⟨P, 0, none⟩ x _ (h3 b o p e)⟩
theorem bk_ownF {β : Type} {B q : Nat} {f : β → Array Value} {t : TypeId} : OwnFrom B (fun (s : β) W => Bk W q (f s) t) := fun s W W' row hs hg hr =>
  (hg.block q hs.lt (fun e => by obtain ⟨_, o, ho, hc⟩ := hr q e.symm; have : W.heap[q]? = _ := hs; rw [this] at ho; cases ho; cases hc)).trans hs
/-- How many of the pages have an entry. -/
def cntSp (es : List Nat) (pre : List Pg) : Nat := (pre.filter fun x => (entP es x.1.toNat).1 != 0).length
theorem filt_one (b : Bool) (x : Pg) (f : Pg → Bool) (h : f x = b) : ([x].filter f).length = if b then 1 else 0 := by
  cases b <;> simp [List.filter, h]
theorem filtN_one (b : Bool) (x : Nat) (f : Nat → Bool) (h : f x = b) : ([x].filter f).length = if b then 1 else 0 := by
  cases b <;> simp [List.filter, h]
theorem cntSp_snoc (es : List Nat) (pre : List Pg) (x : Pg) : cntSp es (pre ++ [x]) = cntSp es pre + ((entP es x.1.toNat).1 != 0).toNat := by
  unfold cntSp
  rw [List.filter_append, List.length_append, filt_one _ x (fun x => (entP es x.1.toNat).1 != 0) rfl]
  generalize ((entP es x.1.toNat).1 != 0) = z
  cases z <;> rfl
theorem cntSp_len (es : List Nat) (pre : List Pg) : cntSp es pre ≤ pre.length := List.length_filter_le _ _
theorem unpK_3 (x : Nat) : unpK x = 0 ∨ unpK x = 1 ∨ unpK x = 2 := by
  by_cases h : unpE x = 0
  · rw [unpK_eq x h]
    have := unpE_lt4 x h
    omega
  · left
    unfold unpK unpR
    rw [if_neg h]
theorem kin_succ (es : List Nat) (kd : Int) (n : Nat) : (kinL es kd (n + 1)).length = (kinL es kd n).length + if unpK (es.getD n 0) = kd then 1 else 0 := by
  unfold kinL
  rw [List.length_map, List.length_map, List.range_succ, List.filter_append, List.length_append, filtN_one _ n (fun p => unpK (es.getD p 0) == kd) rfl]
  generalize unpK (es.getD n 0) = z
  by_cases h : z = kd <;> simp [h]
theorem kin_sum (es : List Nat) : ∀ n : Nat, n ≤ 64 → cntSp es (pgs 0 n) = (kinL es 1 n).length + (kinL es 2 n).length
  | 0, _ => rfl
  | n + 1, hn => by
    have hk : (entP es n).1 = unpK (es.getD n 0) := rfl
    rw [pgs_succ, cntSp_snoc, kin_sum es n (by omega), pg_val _ (by omega) (by omega), Int.zero_add, Int.toNat_natCast, hk, kin_succ, kin_succ]
    rcases unpK_3 (es.getD n 0) with h | h | h <;> rw [h] <;> simp <;> omega

/-- The pages so far that have the frame. -/
def ownP (es : List Nat) (frame : Int) (pre : List Pg) : List Int := (pre.filter fun x => ownB es frame x.1.toNat).map fun x => x.1
def OwnI (es : List Nat) (frame : Int) (P : Nat) (w4 : World) (pre : List Pg) (W : World) : Prop := (∃ v, Boxed W P 23 v ∧ W.ownsRow w4.heap.size 3 1 v (ownP es frame pre).length (iw (ownP es frame pre)) ∧ True) ∧ Below P w4 W ∧ w4.heap.size ≤ W.heap.size
theorem ownP_yes {es : List Nat} {frame : Int} {pre : List Pg} {x : Pg} (h : ownB es frame x.1.toNat = true) : ownP es frame (pre ++ [x]) = ownP es frame pre ++ [x.1] := by
  unfold ownP
  rw [List.filter_append, List.map_append]
  simp [List.filter, h]
theorem ownP_no {es : List Nat} {frame : Int} {pre : List Pg} {x : Pg} (h : ownB es frame x.1.toNat = false) : ownP es frame (pre ++ [x]) = ownP es frame pre := by
  unfold ownP
  rw [List.filter_append, List.map_append]
  simp [List.filter, h]
theorem ownP_len (es : List Nat) (frame : Int) (pre : List Pg) : (ownP es frame pre).length ≤ pre.length := by unfold ownP; rw [List.length_map]; exact List.length_filter_le _ _
theorem ownP_all (es : List Nat) (frame : Int) : ∀ n : Nat, n ≤ 64 → ownP es frame (pgs 0 n) = ownL es frame n
  | 0, _ => rfl
  | n + 1, hn => by
    have hv : (pg (0 + (n : Int))).1 = (n : Int) := by rw [pg_val _ (by omega) (by omega)]; omega
    have hx : ownL es frame (n + 1) = ownL es frame n ++ if ownB es frame n then [(n : Int)] else [] := by
      unfold ownL
      rw [List.range_succ, List.filter_append, List.map_append]
      cases h : ownB es frame n <;> simp [List.filter, h]
    rw [pgs_succ, hx, ← ownP_all es frame n (by omega)]
    cases h : ownB es frame n
    · rw [ownP_no (by rw [hv, Int.toNat_natCast]; exact h)]; simp
    · rw [ownP_yes (by rw [hv, Int.toNat_natCast]; exact h), hv]; simp
theorem ownB_of {es : List Nat} {frame : Int} {p : Nat} {k n : Int} {a b c : Bool} (h : entP es p = (k, n, a, b, c)) : ownB es frame p = (decide (k = 1) && decide (n = frame)) := by unfold ownB; rw [h]

end Go.Proofs.YtpkgfkhaiifooaaGreatDoor
