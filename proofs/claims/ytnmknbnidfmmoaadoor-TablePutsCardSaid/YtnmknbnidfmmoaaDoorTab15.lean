/- Page tables: release. -/
import Derived.Test.YtnmknbnidfmmoaaDoorTab14
namespace Go.Proofs.YtnmknbnidfmmoaaDoor
open Go Go.Proofs Go.RowKit
set_option linter.unusedSimpArgs false
set_option linter.unusedVariables false
set_option maxRecDepth 100000

/-- The frame that release returns, and the leaves behind it. -/
def relF (ls : List Int) (es : List Nat) (q : Nat) : Int := if emptyB es q then ls.getD q 0 else -1
def relL (ls : List Int) (es : List Nat) (q : Nat) : List Int := if emptyB es q then ls.set q (-1) else ls
/-- All old blocks but b are as they were. -/
def Beside (b : Nat) (w w' : World) : Prop := Below b w w' ∧ ∀ j, j < w.heap.size → j ≠ b → w'.heap[j]? = w.heap[j]?
theorem Beside.of {b : Nat} {w w' : World} (h : Below w.heap.size w w') (hb : b < w.heap.size) : Beside b w w' := ⟨h.mono (by omega), fun j hj _ => h.block j hj⟩

def RelPost (r : Int) (ls : List Int) (es : List Nat) (b q : Nat) (w : World) (e : Ending) (w' : World) : Prop :=
  e = .returned (.int .i64 (relF ls es q)) ∧ Bk w' b (arrL r (relL ls es q) es).toArray 69 ∧ Beside b w w'

section
variable {w w1 : World} {b q : Nat}
theorem relB (w : World) (b q : Nat) : Below w.heap.size w (((w.alloc (.cells #[.pointer (some ⟨b, 0, none⟩)] 99)).alloc (.cells #[.int .i64 q] 3)).alloc (.cells #[.int .i64 (-1)] 3)) := balloc (balloc (balloc (Below.refl _ w) _) _) _
end

set_option maxHeartbeats 2000000 in
theorem release_arr (r : Int) (ls : List Int) (es : List Nat) (b q : Nat) (w : World) (h1 : ls.length = 8) (h2 : es.length = 64) (hq : q < 8) (hs : wsmall es) (hU : ∀ p, p < 64 → unpE (es.getD p 0) = 0) (kA : Bk w b (arrL r ls es).toArray 69) (hL : LayOK w) :
    Calls Tryd.prog 60 #[.pointer (some ⟨b, 0, none⟩), .int .i64 q] w fun e w' => RelPost r ls es b q w e w' := by
  have hmf : ∀ (fn : Fn) (first cap : Array Value) (w : World), (Instr.makeFunc fn first cap).run Tryd.prog w = .ok (.func fn first cap) w := fun _ _ _ _ => rfl
  have k1 := ((Bk.new w #[.pointer (some ⟨b, 0, none⟩)] 99).alloc (.cells #[.int .i64 q] 3)).alloc (.cells #[.int .i64 (-1)] 3)
  have k2 := (Bk.new (w.alloc (.cells #[.pointer (some ⟨b, 0, none⟩)] 99)) #[.int .i64 q] 3).alloc (.cells #[.int .i64 (-1)] 3)
  have k3 := Bk.new ((w.alloc (.cells #[.pointer (some ⟨b, 0, none⟩)] 99)).alloc (.cells #[.int .i64 q] 3)) #[.int .i64 (-1)] 3
  rw [World.size_alloc] at k2
  rw [World.size_alloc, World.size_alloc] at k3
  have hB1 := relB w b q
  generalize hw1 : ((w.alloc (.cells #[.pointer (some ⟨b, 0, none⟩)] 99)).alloc (.cells #[.int .i64 q] 3)).alloc (.cells #[.int .i64 (-1)] 3) = w1 at *
  have hbw : b < w.heap.size := kA.lt
  obtain ⟨c1, f1, l1⟩ := k1.facts
  obtain ⟨c2, f2, l2⟩ := k2.facts
  obtain ⟨c3, f3, l3⟩ := k3.facts
  rcases hem : emptyB es q with _ | _
  · have HE := Lib.hid hem
    clear hem
    go_enter_defers Tryd.func60, Tryd.ntmps60
    go_wp2_with fail
    refine (isEmpty_arr r ls es b q _ h1 h2 hq hs hU (kA.to hB1) (hL.below hB1)).mono ?_
    rw [HE.out]
    rintro e w2 ⟨rfl, hb2⟩
    clear c1 f1 l1 c2 f2 l2 c3 f3 l3
    replace k3 := k3.to hb2
    replace hB1 := bnext hB1 hb2
    obtain ⟨c3, f3, l3⟩ := k3.facts
    go_wp2_with fail
    have k4 := k3.put 0 (.int .i64 (-1))
    have hB4 := hB1.setCell (p := ⟨w.heap.size + 1 + 1, 0, none⟩) (by show w.heap.size ≤ w.heap.size + 1 + 1; omega) (.int .i64 (-1))
    generalize w2.setCell ⟨w.heap.size + 1 + 1, 0, none⟩ (.int .i64 (-1)) = w4 at *
    have hc4 : w4.cell? ⟨w.heap.size + 1 + 1, 0, none⟩ = some (.int .i64 (-1)) := k4.cell 0
    refine leaves_cons (f := 73) (args := #[.pointer (some ⟨w.heap.size + 1 + 1, 0, none⟩), .pointer (some ⟨w.heap.size, 0, none⟩), .pointer (some ⟨w.heap.size + 1, 0, none⟩)]) (by simp) (by simp [go_sem]) ?_
    refine (rel1_no _ _ _ .returning _ hc4).mono ?_
    rintro e u' w'' ⟨rfl, rfl, rfl⟩
    refine ⟨.int .i64 (-1), by simp [results, Tryd.results60, asAddr, go_sem, hc4], ?_⟩
    refine ⟨?_, ?_, Beside.of hB4 hbw⟩
    · unfold relF; rw [HE.out]; rfl
    · unfold relL; rw [HE.out]; exact kA.to hB4
  · have HE := Lib.hid hem
    clear hem
    go_enter_defers Tryd.func60, Tryd.ntmps60
    go_wp2_with fail
    refine (isEmpty_arr r ls es b q _ h1 h2 hq hs hU (kA.to hB1) (hL.below hB1)).mono ?_
    rw [HE.out]
    rintro e w2 ⟨rfl, hb2⟩
    clear c1 f1 l1 c2 f2 l2 c3 f3 l3
    replace k1 := k1.to hb2
    replace k2 := k2.to hb2
    replace k3 := k3.to hb2
    replace hB1 := bnext hB1 hb2
    obtain ⟨c1, f1, l1⟩ := k1.facts
    obtain ⟨c2, f2, l2⟩ := k2.facts
    obtain ⟨c3, f3, l3⟩ := k3.facts
    have kA2 := kA.to hB1
    have cl := arr_leaf h1 kA2 hq
    have lA := kA2.lt
    have hqI : (q : Int) < 8 := by omega
    obtain ⟨z, hz⟩ : ∃ z, z = ls.getD q 0 := ⟨_, rfl⟩
    rw [← hz] at cl
    have HZ := Lib.hid hz
    clear hz
    go_wp2_with fail
    go_still_tail 6, (by kernel_rfl)
    change wpList _ _ _ _ _ w2.drew
    go_wp2_with fail
    have h3 : w.heap.size ≤ w.heap.size + 1 + 1 := by omega
    have k4 := ((k3.put 0 (.int .i64 z)).put 0 (.int .i64 z)).drew
    have k1' := ((k1.far (p := ⟨w.heap.size + 1 + 1, 0, none⟩) (by show w.heap.size ≠ w.heap.size + 1 + 1; omega) (.int .i64 z)).far (p := ⟨w.heap.size + 1 + 1, 0, none⟩) (by show w.heap.size ≠ w.heap.size + 1 + 1; omega) (.int .i64 z)).drew
    have k2' := ((k2.far (p := ⟨w.heap.size + 1 + 1, 0, none⟩) (by show w.heap.size + 1 ≠ w.heap.size + 1 + 1; omega) (.int .i64 z)).far (p := ⟨w.heap.size + 1 + 1, 0, none⟩) (by show w.heap.size + 1 ≠ w.heap.size + 1 + 1; omega) (.int .i64 z)).drew
    have hB4 := below_drew ((hB1.setCell (p := ⟨w.heap.size + 1 + 1, 0, none⟩) h3 (.int .i64 z)).setCell (p := ⟨w.heap.size + 1 + 1, 0, none⟩) h3 (.int .i64 z))
    clear c1 f1 l1 c2 f2 l2 c3 f3 l3 cl lA
    generalize ((w2.setCell ⟨w.heap.size + 1 + 1, 0, none⟩ (.int .i64 z)).setCell ⟨w.heap.size + 1 + 1, 0, none⟩ (.int .i64 z)).drew = w4 at *
    have hc4 : w4.cell? ⟨w.heap.size + 1 + 1, 0, none⟩ = some (.int .i64 z) := k4.cell 0
    have kA4 := kA.to hB4
    have hrF : relF ls es q = z := by unfold relF; rw [HE.out, HZ.out]; rfl
    have hrL : relL ls es q = ls.set q (-1) := by unfold relL; rw [HE.out]; rfl
    refine leaves_cons (f := 73) (args := #[.pointer (some ⟨w.heap.size + 1 + 1, 0, none⟩), .pointer (some ⟨w.heap.size, 0, none⟩), .pointer (some ⟨w.heap.size + 1, 0, none⟩)]) (by simp) (by simp [go_sem]) ?_
    by_cases hz1 : z = -1
    · rw [hz1] at hc4
      refine (rel1_no _ _ _ .returning _ hc4).mono ?_
      rintro e u' w'' ⟨rfl, rfl, rfl⟩
      refine ⟨.int .i64 (-1), by simp [results, Tryd.results60, asAddr, go_sem, hc4], ?_⟩
      refine ⟨by rw [hrF, hz1], ?_, Beside.of hB4 hbw⟩
      rw [hrL]
      have hse : ls.set q (-1) = ls := by
        have hl : q < ls.length := by omega
        have hg := HZ.out
        rw [hz1, List.getD_eq_getElem?_getD, List.getElem?_eq_getElem hl] at hg
        rw [hg]
        exact List.set_getElem_self hl
      rw [hse]
      exact kA4
    · refine (rel1_yes r ls es b q _ _ _ z .returning _ h1 hq kA4 hz1 hc4 (k1'.cell 0) (k2'.cell 0)).mono ?_
      rintro e u' w'' ⟨rfl, rfl, rfl⟩
      have k5 := (k4.far (p := ⟨b, 1 + q, none⟩) (by show w.heap.size + 1 + 1 ≠ b; omega) (.int .i64 (-1))).drew
      have hc5 : (w4.setCell ⟨b, 1 + q, none⟩ (.int .i64 (-1))).drew.cell? ⟨w.heap.size + 1 + 1, 0, none⟩ = some (.int .i64 z) := k5.cell 0
      have kA5 := (kA4.put (1 + q) (.int .i64 (-1))).drew
      rw [arr_setleaf h1 q hq (-1)] at kA5
      have hbe : Beside b w (w4.setCell ⟨b, 1 + q, none⟩ (.int .i64 (-1))).drew :=
        ⟨below_drew ((show Below b w w4 from hB4.mono (by omega)).setCell (p := ⟨b, 1 + q, none⟩) (Nat.le_refl _) _), fun j hj hne => (Below.heap_setCell w4 ⟨b, 1 + q, none⟩ _ j hne).trans (hB4.block j hj)⟩
      refine ⟨.int .i64 z, ?_, by rw [hrF], by rw [hrL]; exact kA5, hbe⟩
      generalize (w4.setCell ⟨b, 1 + q, none⟩ (.int .i64 (-1))).drew = w5 at *
      simp [results, Tryd.results60, asAddr, go_sem, hc5]
end Go.Proofs.YtnmknbnidfmmoaaDoor
