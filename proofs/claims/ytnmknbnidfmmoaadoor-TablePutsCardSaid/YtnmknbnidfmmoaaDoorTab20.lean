/- Page tables: the reference's own. -/
import Derived.Test.YtnmknbnidfmmoaaDoorTab19
namespace Go.Proofs.YtnmknbnidfmmoaaDoor
open Go Go.Proofs Go.RowKit
set_option linter.unusedSimpArgs false
set_option linter.unusedVariables false
set_option maxRecDepth 100000

set_option maxHeartbeats 4000000 in
theorem rOwn_any (r : Int) (ls : List Int) (es : List Nat) (A B : Option Addr) (c d : Nat) (w : World) (hA : Rd w 1 A ls.length (iw ls)) (hB : Rd w 1 B es.length (uw es)) (hn : ls.length ≤ 1000) (hm : es.length ≤ 1000) :
    Calls Tryd.prog 56 #[tabV r A ls.length c B es.length d] w fun e w' => ∃ v, e = .returned v ∧ TbV w' v (r, ls, es) ∧ Below w.heap.size w w' := by
  obtain ⟨i0, hi, hz0, hz1, hz2⟩ := info_parts infoInt
  obtain ⟨j0, hj, hy0, hy1, hy2⟩ := info_parts infoU64
  unfold tabV
  have kT := (Bk.new w #[.int .i64 r, .slice A ls.length c, .slice B es.length d] 25).alloc (.cells #[.int .i64 0, .slice none 0 0, .slice none 0 0] 25)
  have kR := Bk.new (w.alloc (.cells #[.int .i64 r, .slice A ls.length c, .slice B es.length d] 25)) #[.int .i64 0, .slice none 0 0, .slice none 0 0] 25
  rw [World.size_alloc] at kR
  have hB1 := balloc (balloc (Below.refl _ w) (.cells #[.int .i64 r, .slice A ls.length c, .slice B es.length d] 25)) (.cells #[.int .i64 0, .slice none 0 0, .slice none 0 0] 25)
  generalize hw1 : (w.alloc (.cells #[.int .i64 r, .slice A ls.length c, .slice B es.length d] 25)).alloc (.cells #[.int .i64 0, .slice none 0 0, .slice none 0 0] 25) = w1 at *
  have hA1 := hA.below hB1 (Nat.le_refl _)
  have hE1 := hB.below hB1 (Nat.le_refl _)
  have c0 := kT.cell 0
  have c1 := kT.cell 1
  have c2 := kT.cell 2
  simp at c0 c1 c2
  have hsR := kR.lt
  go_enter Tryd.func56, Tryd.ntmps56
  go_wp2_with fail
  go_region_held3 (fun w' => w'.cell? ⟨w.heap.size, 0, none⟩ = some (.int .i64 r) ∧ w'.cell? ⟨w.heap.size, 1, none⟩ = some (.slice A ls.length c) ∧ w'.cell? ⟨w.heap.size, 2, none⟩ = some (.slice B es.length d))
    (refine ⟨?_, ?_, ?_⟩ <;> (repeat (with_reducible first | exact c0 | exact c1 | exact c2 | refine cell_drew ?_ | refine cell_later hbI ?_ | refine cell_later hbU ?_ | refine cell_alloc _ ?_ | refine cell_far ?_ (by simp) _)))
    (first
      | (refine step_append_new rfl _ _ 22 rfl 3 i0 (.int .i64 0) 1 8 Tryd.underlying22 hi hz0 hz1 hz2 rfl (by decide) _ rfl A ls.length c (iw ls) rfl (by repeat (with_reducible first | exact hA1 | refine Rd.drew1 ?_ | refine Rd.to ?_ hbU | refine Rd.alloc ?_ _)) (oneCells_int _ _) (by simp only [maxLen]; omega) (by omega) (w.heap.size + 1 + 1) (by (try simp only [World.size_alloc, World.size_drew]); omega) ?_
         intro AI cI wI hrI hcI hbI
         have kRI : Bk wI (w.heap.size + 1) #[.int .i64 0, .slice none 0 0, .slice none 0 0] 25 := by repeat (with_reducible first | exact kR | refine Bk.to ?_ hbI | refine Bk.to ?_ hbU | refine Bk.drew ?_ | refine Bk.alloc ?_ _)
         obtain ⟨cRI, fRI, lRI⟩ := kRI.facts)
      | (refine step_append_new rfl _ _ 23 rfl 66 j0 (.int .u64 0) 1 8 Tryd.underlying23 hj hy0 hy1 hy2 rfl (by decide) _ rfl B es.length d (uw es) rfl (by repeat (with_reducible first | exact hE1 | refine Rd.drew1 ?_ | refine Rd.to ?_ hbI | refine Rd.alloc ?_ _)) (oneCells_uw _) (by simp only [maxLen]; omega) (by omega) (w.heap.size + 1 + 1) (by (try simp only [World.size_alloc, World.size_drew]); omega) ?_
         intro AU cU wU hrU hcU hbU
         have kRU : Bk wU (w.heap.size + 1) #[.int .i64 0, .slice none 0 0, .slice none 0 0] 25 := by repeat (with_reducible first | exact kR | refine Bk.to ?_ hbU | refine Bk.to ?_ hbI | refine Bk.drew ?_ | refine Bk.alloc ?_ _)
         obtain ⟨cRU, fRU, lRU⟩ := kRU.facts))
  all_goals
    have hBU : Below w.heap.size w wU := by repeat (with_reducible first | exact hB1 | refine bnext ?_ hbU | refine bnext ?_ hbI | refine below_drew ?_ | refine balloc ?_ _)
    have hrI2 : RdIn wU (w.heap.size + 1 + 1) wI.heap.size 1 AI ls.length (iw ls) := by repeat (with_reducible first | exact hrI | refine RdIn.to ?_ hbU | refine RdIn.alloc ?_ _)
    have kF := kRU.put3 (.int .i64 r) (.slice AI ls.length cI) (.slice AU es.length cU)
    have hBF := below_put3 hBU (g := w.heap.size + 1) (by omega) (.int .i64 r) (.slice AI ls.length cI) (.slice AU es.length cU)
    have hIF := rdin_put3 hrI2 (g := w.heap.size + 1) (by omega) (.int .i64 r) (.slice AI ls.length cI) (.slice AU es.length cU)
    have hUF := rdin_put3 hrU (g := w.heap.size + 1) (by omega) (.int .i64 r) (.slice AI ls.length cI) (.slice AU es.length cU)
    go_wp2_with fail
    exact bodyPost_ret (kF.res1 (P := Tryd.prog) rfl _ rfl (by kernel_rfl) (by kernel_rfl)) rfl ⟨_, rfl, ⟨AI, cI, AU, cU, rfl, hIF.1, hUF.1, hcI⟩, hBF⟩
end Go.Proofs.YtnmknbnidfmmoaaDoor
