/- The iterator over the entries of a table (package space), as a contract. -/
import Derived.Test.YtpkgfkhaiifooaaGreatDoorSpV
import Derived.Test.YtpkgfkhaiifooaaGreatDoorGE
import Derived.Test.YtpkgfkhaiifooaaGreatDoorPages
namespace Go.Proofs.YtpkgfkhaiifooaaGreatDoor
open Go Go.Proofs Go.RowKit Go.Shelf
set_option linter.unusedSimpArgs false
set_option linter.unusedVariables false
attribute [local go_sem] Oper.semAt_some

/-- An entry as one value. -/
def entV (e : Int × Int × Bool × Bool × Bool) : Value := .agg #[.int .i64 e.1, .int .i64 e.2.1, .bool e.2.2.1, .bool e.2.2.2.1, .bool e.2.2.2.2]
/-- The block of a slice, and the blocks that the iterator reads, lie as they lay. -/
def KeepA (A : Option Addr) (X Y : World) : Prop := ∀ b o p, A = some ⟨b, o, p⟩ → KeepB b X Y
def KeepE (Br : Nat) (B : Option Addr) (X Y : World) : Prop := KeepB 0 X Y ∧ KeepB Br X Y ∧ KeepA B X Y
theorem keepE_t {Br : Nat} {B : Option Addr} {X Y Z : World} (h : KeepE Br B X Y) (k : KeepE Br B Y Z) : KeepE Br B X Z :=
  ⟨keepB_t h.1 k.1, keepB_t h.2.1 k.2.1, fun b o p e => keepB_t (h.2.2 b o p e) (k.2.2 b o p e)⟩
theorem keepE_b {Br : Nat} {B : Option Addr} {w : World} (h0 : 0 < w.heap.size) (h1 : Br < w.heap.size) (h2 : ∀ b o p, B = some ⟨b, o, p⟩ → b < w.heap.size) (W : World) (l : Nat) (o o' : Obj) (hl : w.heap.size ≤ l) (e1 : W.heap[l]? = some o) (e2 : o.isCells = false) (e3 : o.isWalk = false) : KeepE Br B W (W.putObj l o') :=
  ⟨keepB_b h0 W l o o' hl e1 e2 e3, keepB_b h1 W l o o' hl e1 e2 e3, fun b q p e => keepB_b (h2 b q p e) W l o o' hl e1 e2 e3⟩
theorem KeepB.of_below {B : Nat} {X Y : World} (h : Below X.heap.size X Y) (hB : B < X.heap.size) : KeepB B X Y := h.block B hB
theorem LayOK.keep {w w' : World} (h : LayOK w) (k : KeepB 0 w w') : LayOK w' := fun j hj => (k.cell j).trans (h j hj)
theorem Rd.keepA {w w' : World} {sz n : Nat} {A : Option Addr} {xs : List Value} (h : Rd w sz A n xs) (k : KeepA A w w') : Rd w' sz A n xs := by
  refine ⟨h.1, fun h0 => ?_⟩
  obtain ⟨b, off, rfl, hb, hc⟩ := h.2 h0
  have hk := k b off none rfl
  refine ⟨b, off, rfl, ?_, fun j u hu => (hk.cell _).trans (hc j u hu)⟩
  have : w'.heap[b]? = some w.heap[b] := hk.trans (by simp [hb])
  exact (Array.getElem?_eq_some_iff.1 this).1

theorem grown_below {X Y : World} (h : Below X.heap.size X Y) : X.grownBy Y none :=
  ⟨h.os, h.tape, h.output, h.size, fun k hk _ => h.block k hk⟩

set_option maxRecDepth 100000 in
set_option maxHeartbeats 4000000 in
theorem entries1_in (F : Fence) (n : Nat) (h32 : F.fn 82) (hf : F.fn 80) (hU : ∀ x u, x < 18446744073709551616 → LayOK u → CallsIn F (n - 1) Tryz.prog 80 #[.int .u64 (x : Nat)] u fun e u' => EnRes u u' (unpR x) e) (hro : F.round = none) (hn : 1 ≤ n) (l Br : Nat) (B : Option Addr) (d : Nat) (es : List Nat) (hes : es.length = 64)
    (hsm : ∀ p, p < 64 → es.getD p 0 < 18446744073709551616) (hok : ∀ p, p < 64 → (unpR (es.getD p 0)).2 = 0) (J Jx : List Pg → World → Prop)
    (hY : ∀ pre x W, J pre W → pre.length < 64 → YieldAt F (n - 1) Tryz.prog l #[.int .i64 x.1, entV (entP es x.1.toNat)] W fun e W' =>
      (e = .returned (.bool true) ∧ J (pre ++ [x]) W' ∧ KeepE Br B W W') ∨ (e = .returned (.bool false) ∧ Jx (pre ++ [x]) W'))
    (W : World) (hc2 : W.cell? ⟨Br, 2, none⟩ = some (.slice B 64 d)) (hL : LayOK W) (hR : Rd W 1 B 64 (uw es)) (hBr : Br < W.heap.size) (hJ0 : J [] W)
    (hJb : ∀ pre X Y, J pre X → X.grownBy Y none → J pre Y) :
    CallsIn F n Tryz.prog 82 #[.func (.yield l) #[] #[], .pointer (some ⟨Br, 0, none⟩)] W fun e W' => (∃ v, e = .returned v) ∧
      ((∃ ys, ys = pgs 0 64 ∧ J ys W') ∨ (∃ pre, True ∧ Jx pre W')) := by
  refine callsIn_of_wp Tryz.func82 rfl h32 ?_ hro
  simp only [Tryz.ntmps82, List.size_toArray, List.length_cons, List.length_nil, Nat.reduceAdd, Nat.reduceSub, Array.replicate_succ, Array.replicate_zero, List.push_toArray, List.append_toArray, List.nil_append, List.cons_append]
  gi_wp2
  gi_loopw [10] (fun p wr => ∃ k : Nat, k ≤ 64 ∧ p = .int .i64 k ∧ J (pgs 0 k) wr ∧ KeepE Br B W wr)
    (fun p _ => 64 - (intOf p).toNat)
  case atStart =>
    exact ⟨0, by omega, by simp, hJ0, rfl, rfl, fun _ _ _ _ => rfl⟩
  case round =>
    obtain ⟨k, hk, rfl, hJs, hB⟩ := hrel
    have hLr := hL.keep hB.1
    have hRr := hR.keepA hB.2.2
    by_cases hlt : k < 64
    · obtain ⟨A0, o0, hBe, hcell⟩ : ∃ b o, B = some ⟨b, o, none⟩ ∧ wr.cell? ⟨b, o + k, none⟩ = some (.int .u64 ((es.getD k 0 : Nat) : Int)) := by
        obtain ⟨b, off, e, _, hc⟩ := hRr.2 (by omega)
        refine ⟨b, off, e, hc k _ ?_⟩
        have : k < es.length := by omega
        simp [uw, this]
      subst hBe
      have hx := hsm k hlt
      have hk0 := hok k hlt
      have hfe : entP es k = (unpR (es.getD k 0)).1 := rfl
      generalize es.getD k 0 = z at hx hk0 hfe hcell
      gi_wp2_with (gi_at_call 80; refine (hU _ _ hx hLr).mono ?_; rintro e w1 ⟨rfl, hb1⟩; rw [hk0])
      have hLr1 : J (pgs 0 k) (w1.alloc (.cells #[.int .i64 (unpR z).1.1, .int .i64 (unpR z).1.2.1, .bool (unpR z).1.2.2.1, .bool (unpR z).1.2.2.2.1, .bool (unpR z).1.2.2.2.2] 57)) := hJb _ _ _ (hJb _ _ _ hJs (grown_below hb1)) (grown_below ((Below.refl _ _).alloc (Nat.le_refl _) _))
      obtain ⟨fn, tmps, assign, body, hy, hR0⟩ := hY (pgs 0 k) (pg k) _ hLr1 (by rw [pgs_len]; omega)
      rw [pg_val _ (by omega) (by omega), Int.toNat_natCast, hfe] at hy
      unfold entV at hy
      have hBa : Below wr.heap.size wr (w1.alloc (.cells #[.int .i64 (unpR z).1.1, .int .i64 (unpR z).1.2.1, .bool (unpR z).1.2.2.1, .bool (unpR z).1.2.2.2.1, .bool (unpR z).1.2.2.2.2] 57)) := balloc hb1 _
      have hA0 := World.block_lt_of_cell? _ _ hcell
      have hc2r : wr.cell? ⟨Br, 2, none⟩ = some (.slice (some ⟨A0, o0, none⟩) 64 d) := (hB.2.1.cell 2).trans hc2
      have hKa : KeepE Br (some ⟨A0, o0, none⟩) wr _ := ⟨KeepB.of_below hBa hLr.lt, KeepB.of_below hBa (World.block_lt_of_cell? _ _ hc2r), fun b o p e => by injection e with e; injection e with e; subst e; exact KeepB.of_below hBa hA0⟩
      gi_wp2
      refine hR0.mono ?_
      rintro e W3 (⟨rfl, hJ3, hk3⟩ | ⟨rfl, hJx3⟩)
      · gi_wp2
        go_roundw
        case rel => exact ⟨k + 1, by omega, by go_num, by rw [pgs_succ, Int.zero_add]; exact hJ3, keepE_t hB (keepE_t hKa hk3)⟩
        case measure => simp [intOf]; omega
      · gi_wp2
        refine bodyPost_ret (results_none rfl _ _ _) rfl ?_
        exact ⟨⟨_, rfl⟩, .inr ⟨_, trivial, hJx3⟩⟩
    · obtain rfl : k = 64 := by omega
      gi_wp2
      go_end0
      exact ⟨⟨_, rfl⟩, .inl ⟨_, rfl, hJs⟩⟩
end Go.Proofs.YtpkgfkhaiifooaaGreatDoor
