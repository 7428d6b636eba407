/- The reader of a text of regions: all ranges. -/
import Derived.Test.YtfblbkhiaglelaaDoorRd3
import Derived.Maps.AppendAt
namespace Go.Proofs.YtfblbkhiaglelaaDoor
open Go Go.Proofs Go.RowKit
set_option linter.unusedSimpArgs false
set_option linter.unusedVariables false
set_option maxRecDepth 100000

theorem infoIntR : (Tryd.prog.info? 3).map (fun i => (i.zero, i.size, i.bytes)) = some (some (.int .i64 0), 1, 8) := by kernel_rfl
theorem one_no (s : List UInt8) (a n k : Nat) (h : numL (s.drop a) = (n, k, false)) : oneL (s.drop a) = (0, 0, k, false) := by unfold oneL; rw [h, if_pos rfl]
theorem one_dash (s : List UInt8) (a n k n2 k2 : Nat) (ok : Bool) (h : numL (s.drop a) = (n, k, true)) (hd : s.getD (a + k) 0 = 45) (h2 : numL (s.drop (a + k + 1)) = (n2, k2, ok)) :
    oneL (s.drop a) = if ok = false then (0, 0, k + 1 + k2, false) else (n, n2, k + 1 + k2, true) := by
  unfold oneL
  rw [h, if_neg (by simp)]
  simp only
  rw [gd0, List.getD_eq_getElem?_getD, List.getElem?_drop, ← List.getD_eq_getElem?_getD, hd, if_pos rfl, List.drop_drop, show a + (k + 1) = a + k + 1 by omega, h2]
theorem one_plain (s : List UInt8) (a n k : Nat) (h : numL (s.drop a) = (n, k, true)) (hd : s.getD (a + k) 0 ≠ 45) : oneL (s.drop a) = (n, n, k, true) := by
  unfold oneL
  rw [h, if_neg (by simp)]
  simp only
  rw [gd0, List.getD_eq_getElem?_getD, List.getElem?_drop, ← List.getD_eq_getElem?_getD, if_neg hd]
theorem numL_bd (t : List UInt8) : (numL t).1 ≤ 99 ∧ (numL t).2.1 ≤ 2 ∧ ((numL t).2.2 = true → 1 ≤ (numL t).2.1) := by
  unfold numL
  split
  · rename_i h
    obtain ⟨h1, h2⟩ := isD_b h
    split
    · rename_i h'
      obtain ⟨h3, h4⟩ := isD_b h'.2
      exact ⟨by simp only; omega, by simp, by simp⟩
    · exact ⟨by simp only; omega, by simp, by simp⟩
  · exact ⟨by simp, by simp, by simp⟩
theorem numL_in (s : List UInt8) (a : Nat) (h : a ≤ s.length) : a + (numL (s.drop a)).2.1 ≤ s.length := by
  have := numL_le (s.drop a)
  rw [List.length_drop] at this
  omega
/-- Two rows beside the reader's block. -/
structure Two (B : Nat) (wr : World) (v1 v2 : Value) (out : List (Int × Int)) (pl : List Int) : Prop where
  a : wr.ownsRow B 65 2 v1 out.length (flat2 .i64 out)
  b : wr.ownsRow B 3 1 v2 pl.length (pl.map (Value.int .i64))
  ne : ∀ g, v1.ownBlock = some g → v2.ownBlock ≠ some g
theorem Two.tch {B b : Nat} {w w' : World} {v1 v2 : Value} {out : List (Int × Int)} {pl : List Int} (h : Two B w v1 v2 out pl) (t : Tch b w w') (hb : b < B) : Two B w' v1 v2 out pl :=
  ⟨t.own h.a (fun e => by have := (h.a.lt b e).1; omega), t.own h.b (fun e => by have := (h.b.lt b e).1; omega), h.ne⟩
theorem Two.alloc {B : Nat} {w : World} {v1 v2 : Value} {out : List (Int × Int)} {pl : List Int} (h : Two B w v1 v2 out pl) (o : Obj) : Two B (w.alloc o) v1 v2 out pl := ⟨h.a.alloc o, h.b.alloc o, h.ne⟩
theorem Two.app2 {B : Nat} {w w' : World} {v1 v2 v' : Value} {out : List (Int × Int)} {pl : List Int} {z : Int} (h : Two B w v1 v2 out pl) (hg : w.grownBy w' v2.ownBlock) (hown : w'.ownsRow B 3 1 v' (pl.length + 1) (pl.map (Value.int .i64) ++ [.int .i64 z])) (hl : v'.ownBlock = v2.ownBlock ∨ v'.ownBlock = some w.heap.size) : Two B w' v1 v' out (pl ++ [z]) := by
  refine ⟨h.a.kept hg ?_, ?_, fun g e e' => ?_⟩
  · rcases hv : v1.ownBlock with _ | g
    · exact .inl rfl
    · exact .inr (fun e => h.ne g hv e.symm)
  · rw [List.length_append, List.map_append]; exact hown
  · rcases hl with hl | hl
    · exact h.ne g e (by rw [← hl]; exact e')
    · rw [hl] at e'
      injection e' with e'
      have := (h.a.lt g e).2
      omega
theorem Two.app1 {B : Nat} {w w' : World} {v1 v2 v' : Value} {out : List (Int × Int)} {pl : List Int} {x y : Int} (h : Two B w v1 v2 out pl) (hg : w.grownBy w' v1.ownBlock) (hown : w'.ownsRow B 65 2 v' (out.length + 1) (flat2 .i64 out ++ [.int .i64 x, .int .i64 y])) (hl : v'.ownBlock = v1.ownBlock ∨ v'.ownBlock = some w.heap.size) : Two B w' v' v2 (out ++ [(x, y)]) pl := by
  refine ⟨?_, h.b.kept hg ?_, fun g e e' => ?_⟩
  · rw [List.length_append, flat2_append]; exact hown
  · rcases hv : v2.ownBlock with _ | g
    · exact .inl rfl
    · exact .inr (fun e => h.ne g e.symm hv)
  · rcases hl with hl | hl
    · exact h.ne g (by rw [← hl]; exact e) e'
    · rw [hl] at e
      injection e with e
      have := (h.b.lt g e').2
      omega
theorem Tch.grown {B b : Nat} {w wr w' : World} {row : Option Nat} (h : Tch b w wr) (hg : wr.grownBy w' row) (hr : ∀ g, row = some g → w.heap.size ≤ g) : Tch b w w' := by
  obtain ⟨h1, h2, h3, h4, h5⟩ := hg
  refine ⟨h1.trans h.os, h2.trans h.tape, h3.trans h.output, Nat.le_trans h.size h4, fun k hk hb => ?_⟩
  refine (h5 k (Nat.lt_of_lt_of_le hk h.size) (fun e => ?_)).trans (h.block k hk hb)
  have := hr k e.symm
  omega
end Go.Proofs.YtfblbkhiaglelaaDoor
