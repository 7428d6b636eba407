/- The kit's OwnInts. -/
import Derived.Test.YtmjahjdnfijpkaaDoorFkB
namespace Go.Proofs.YtmjahjdnfijpkaaDoor
open Go Go.Proofs Go.RowKit
set_option linter.unusedSimpArgs false
set_option linter.unusedVariables false
set_option maxRecDepth 100000

theorem OwnInts28_any (A : Option Addr) (n c : Nat) (zs : List Int) (w : World) (hr : Rd w 1 A n (iw zs)) (hl : zs.length = n) (hn : n ≤ 1000000) :
    Calls Tryd.prog 13 #[.slice A n c] w fun e w' => ∃ A' c', e = .returned (.slice A' n c') ∧ n ≤ c' ∧ Rd w' 1 A' n (iw zs) ∧ (∀ b off, 0 < n → A' = some ⟨b, off, none⟩ → w.heap.size ≤ b) ∧ Below w.heap.size w w' := by
  obtain ⟨i0, hi, hz0, hz1, hz2⟩ := info_parts infoInt
  have hr1 := hr.alloc (.cells #[] 3)
  have hem := own_empty w 3 1
  go_enter Tryd.func13, Tryd.ntmps13
  go_wp2_with (at_builtin; refine wpList_append_rd _ rfl _ _ 23 rfl w.heap.size 3 i0 (.int .i64 0) 1 8 Tryd.underlying23 hi hz0 hz1 hz2 rfl (by decide) _ _ _ rfl hem _ n c (iw zs) rfl hr1 (oneCells_int _ _) (by simp only [maxLen]; omega) (by omega) (by simp) ?_; intro v' w1 hown' hgrow)
  go_ret
  rw [Nat.zero_add, List.nil_append] at hown'
  obtain ⟨A', c', rfl, hrd⟩ := own_slice hown'
  refine ⟨A', c', rfl, ?_, hrd, fun b off h0 e => own_loc hown' b off h0 e, (balloc (Below.refl _ w) _).grown hgrow (by simp) (fun k e => by cases e; exact Nat.le_refl _)⟩
  rcases Nat.eq_zero_or_pos n with h0 | h0
  · omega
  · exact own_cap hown' h0
end Go.Proofs.YtmjahjdnfijpkaaDoor
