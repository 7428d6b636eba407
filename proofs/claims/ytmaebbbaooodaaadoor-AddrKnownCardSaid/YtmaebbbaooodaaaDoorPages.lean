/- The iterator over the pages of a range (package addr), as a contract. -/
import Derived.RangeFuncNested
import Derived.RangeFuncBound
import Derived.RangeFuncCalls
import Derived.RangeFuncLeaves
import Derived.Shelf.Abstract
import Derived.Shelf.RegionOpen
import Derived.OwnWalkIn
import Derived.TacticsInMore
import Derived.LoopNIn
import Derived.LoopIn
import Derived.Test.YtmaebbbaooodaaaDoorAddr
namespace Go.Proofs.YtmaebbbaooodaaaDoor
open Go Go.Proofs Go.RowKit Go.Shelf
set_option linter.unusedSimpArgs false
set_option linter.unusedVariables false
attribute [local go_sem] Oper.semAt_some

/-- A page. -/
abbrev Pg := { x : Int // 0 ≤ x ∧ x < 64 }
def pg (x : Int) : Pg := ⟨x % 64, by omega⟩
theorem pg_val (x : Int) (h0 : 0 ≤ x) (h1 : x < 64) : (pg x).1 = x := by show x % 64 = x; omega
def pgs (a : Int) (k : Nat) : List Pg := (List.range k).map fun i : Nat => pg (a + (i : Int))
theorem pgs_succ (a : Int) (k : Nat) : pgs a (k + 1) = pgs a k ++ [pg (a + k)] := by simp [pgs, List.range_succ]
theorem pgs_len (a : Int) (k : Nat) : (pgs a k).length = k := by simp [pgs]

/-- Block B lies as it lay. -/
def KeepB (B : Nat) (X Y : World) : Prop := Y.heap[B]? = X.heap[B]?
theorem KeepB.cell {B : Nat} {X Y : World} (h : KeepB B X Y) (o : Nat) : Y.cell? ⟨B, o, none⟩ = X.cell? ⟨B, o, none⟩ := World.cell?_of_block (a := ⟨B, o, none⟩) h
theorem keepB_t {B : Nat} {X Y Z : World} (h : KeepB B X Y) (k : KeepB B Y Z) : KeepB B X Z := Eq.trans k h
theorem keepB_b {B : Nat} {w : World} (hB : B < w.heap.size) (W : World) (l : Nat) (o o' : Obj) (hl : w.heap.size ≤ l) (_ : W.heap[l]? = some o) (_ : o.isCells = false) (_ : o.isWalk = false) : KeepB B W (W.putObj l o') :=
  World.putObj_heap_other (by omega)

set_option maxRecDepth 100000 in
set_option maxHeartbeats 1000000 in
theorem pages1_in (F : Fence) (n : Nat) (h32 : F.fn 34) (hro : F.round = none) (hn : 1 ≤ n) (l Br : Nat) (a b : Int) (h0 : 0 ≤ a) (h1 : a ≤ b) (h2 : b < 64) (J Jx : List Pg → World → Prop)
    (hY : ∀ pre x W, J pre W → pre.length < (b - a + 1).toNat → YieldAt F (n - 1) Tryd.prog l #[.int .i64 x.1] W fun e W' =>
      (e = .returned (.bool true) ∧ J (pre ++ [x]) W' ∧ KeepB Br W W') ∨ (e = .returned (.bool false) ∧ Jx (pre ++ [x]) W'))
    (W : World) (hc0 : W.cell? ⟨Br, 0, none⟩ = some (.int .i64 a)) (hc1 : W.cell? ⟨Br, 1, none⟩ = some (.int .i64 b)) (hJ0 : J [] W) :
    CallsIn F n Tryd.prog 34 #[.func (.yield l) #[] #[], .pointer (some ⟨Br, 0, none⟩)] W fun e W' => (∃ v, e = .returned v) ∧
      ((∃ ys, ys = pgs a (b - a + 1).toNat ∧ J ys W') ∨ (∃ pre, True ∧ Jx pre W')) := by
  obtain ⟨N, hN⟩ : ∃ N : Nat, b = a + N - 1 := ⟨(b - a + 1).toNat, by omega⟩
  subst hN
  have hN : (a + N - 1 - a + 1).toNat = N := by omega
  rw [hN] at hY ⊢
  clear hN
  refine callsIn_of_wp Tryd.func34 rfl h32 ?_ hro
  simp only [Tryd.ntmps34, List.size_toArray, List.length_cons, List.length_nil, Nat.reduceAdd, Nat.reduceSub, Array.replicate_succ, Array.replicate_zero, List.push_toArray, List.append_toArray, List.nil_append, List.cons_append]
  gi_wp2
  gi_loopw [3] (fun p wr => ∃ k : Nat, k ≤ N ∧ p = .int .i64 (a + k) ∧ J (pgs a k) wr ∧ KeepB Br W wr)
    (fun p _ => N - (intOf p - a).toNat)
  case atStart =>
    exact ⟨0, by omega, by simp, hJ0, rfl⟩
  case round =>
    obtain ⟨k, hk, rfl, hJs, hB⟩ := hrel
    have hc1' : wr.cell? ⟨Br, 1, none⟩ = some (.int .i64 (a + N - 1)) := (hB.cell 1).trans hc1
    by_cases hlt : k < N
    · obtain ⟨fn, tmps, assign, body, hy, hR⟩ := hY (pgs a k) (pg (a + k)) wr hJs (by rw [pgs_len]; omega)
      rw [pg_val _ (by omega) (by omega)] at hy
      gi_wp2
      refine hR.mono ?_
      rintro e W3 (⟨rfl, hJ3, hk3⟩ | ⟨rfl, hJx3⟩)
      · gi_wp2
        go_roundw
        case rel => exact ⟨k + 1, by omega, by go_num, by rw [pgs_succ]; exact hJ3, keepB_t hB hk3⟩
        case measure => simp [intOf]; omega
      · gi_wp2
        refine bodyPost_ret (results_none rfl _ _ _) rfl ?_
        exact ⟨⟨_, rfl⟩, .inr ⟨_, trivial, hJx3⟩⟩
    · obtain rfl : k = N := by omega
      gi_wp2
      go_end0
      exact ⟨⟨_, rfl⟩, .inl ⟨_, rfl, hJs⟩⟩

set_option maxHeartbeats 1000000 in
theorem pages_in (F : Fence) (n : Nat) (h : F.fn 31) (hro : F.round = none) (a b : Int) (w : World) :
    CallsIn F n Tryd.prog 31 #[.agg #[.int .i64 a, .int .i64 b]] w fun e w' => e = .returned (.func (.func 34) #[] #[.pointer (some ⟨w.heap.size, 0, none⟩)]) ∧ w' = w.alloc (.cells #[.int .i64 a, .int .i64 b] 23) := by
  refine callsIn_of_wp Tryd.func31 rfl h ?_ hro
  simp only [Tryd.ntmps31, List.size_toArray, List.length_cons, List.length_nil, Nat.reduceAdd, Nat.reduceSub, Array.replicate_succ, Array.replicate_zero, List.push_toArray, List.append_toArray, List.nil_append, List.cons_append]
  gi_wp2
  go_ret
  exact ⟨rfl, rfl⟩

theorem pages_stops (F : Fence) (n : Nat) (h32 : F.fn 34) (hro : F.round = none) (hn : 1 ≤ n) (Br : Nat) (a b : Int) (h0 : 0 ≤ a) (h1 : a ≤ b) (h2 : b < 64) (w : World) (hBr : Br < w.heap.size)
    (hc0 : w.cell? ⟨Br, 0, none⟩ = some (.int .i64 a)) (hc1 : w.cell? ⟨Br, 1, none⟩ = some (.int .i64 b)) :
    SeqStopsK F n Tryd.prog 34 #[.pointer (some ⟨Br, 0, none⟩)] (fun x : Pg => #[Value.int .i64 x.1]) (KeepB Br) (fun ys => ys = pgs a (b - a + 1).toNat) (fun _ => True) (b - a + 1).toNat w := fun l J Jx W hW _ _ hY hJ0 =>
  pages1_in F n h32 hro hn l Br a b h0 h1 h2 J Jx hY W ((hW.cell (p := ⟨Br, 0, none⟩) hBr).trans hc0) ((hW.cell (p := ⟨Br, 1, none⟩) hBr).trans hc1) hJ0

theorem ownsRow_less {W : World} {base base' : Nat} {e : TypeId} {size : Nat} {v : Value} {k : Nat} {xs : List Value} (h : W.ownsRow base e size v k xs) (hb : base' ≤ base) : W.ownsRow base' e size v k xs := by
  refine ⟨h.1, ?_⟩
  rcases h.2 with hn | ⟨g, cap, cur, hv, hbg, rest⟩
  · exact .inl hn
  · exact .inr ⟨g, cap, cur, hv, Nat.le_trans hb hbg, rest⟩

/-- A variable in a box takes a row that append has made. -/
theorem boxed_append {W w1 : World} {n₀ base B : Nat} {t e : TypeId} {size : Nat} {v v' : Value} {k m : Nat} {xs ys : List Value} {tmp : Obj}
    (hv : Boxed W B t v) (hrow : W.ownsRow base e size v k xs) (hB : B < base) (hn : n₀ ≤ B) (hs : base ≤ W.heap.size)
    (hown' : w1.ownsRow base e size v' m ys) (hgrow : (W.alloc tmp).grownBy w1 v.ownBlock) :
    Boxed w1 B t v ∧ Boxed (w1.setCell ⟨B, 0, none⟩ v') B t v' ∧ (w1.setCell ⟨B, 0, none⟩ v').ownsRow base e size v' m ys ∧ KeepsOthers W (w1.setCell ⟨B, 0, none⟩ v') ∧ Below n₀ W (w1.setCell ⟨B, 0, none⟩ v') ∧
      (∀ Br, Br < base → Br ≠ B → KeepB Br W (w1.setCell ⟨B, 0, none⟩ v')) := by
  have hne : ∀ j, j < base → some j ≠ v.ownBlock := fun j hj e' => by have := (hrow.lt j e'.symm).1; omega
  have hne' : ∀ j, j < base → v'.ownBlock ≠ some j := fun j hj e' => by have := (hown'.lt j e').1; omega
  have hv1 : Boxed w1 B t v := (hv.alloc tmp).kept hgrow (hne B hB)
  refine ⟨hv1, hv1.set v', hown'.kept (grownBy_setCell' w1 B v') (.inr (hne' B hB)), ?_, ?_, ?_⟩
  · refine ((KeepsOthers.alloc W tmp).trans (KeepsOthers.of_grownBy hgrow fun j o ej hj => ?_)).trans (KeepsOthers.setCell _ _ _)
    rcases (hrow.alloc tmp).2 with ⟨rfl, _⟩ | ⟨g, cap, cur, rfl, _, hgb, _⟩
    · simp [Value.ownBlock] at ej
    · have : g = j := by simpa [Value.ownBlock] using ej
      subst this; rw [hgb] at hj; cases hj; rfl
  · exact (((Below.refl n₀ W).alloc (by omega) tmp).grown hgrow (by simp; omega) (fun j e' => by have := (hrow.lt j e').1; omega)).setCell (p := ⟨B, 0, none⟩) hn _
  · intro Br hBr hBB
    show (w1.setCell ⟨B, 0, none⟩ v').heap[Br]? = W.heap[Br]?
    rw [Below.heap_setCell w1 ⟨B, 0, none⟩ v' Br hBB, hgrow.block Br (by simp; omega) (hne Br hBr), Below.heap_alloc W tmp Br (by omega)]

end Go.Proofs.YtmaebbbaooodaaaDoor
