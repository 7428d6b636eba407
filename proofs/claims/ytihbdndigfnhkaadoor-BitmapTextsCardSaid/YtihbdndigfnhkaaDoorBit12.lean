/- The members of a set as a row of Bools. -/
import Derived.Test.YtihbdndigfnhkaaDoorBit11
namespace Go.Proofs.YtihbdndigfnhkaaDoor
open Go Go.Proofs Go.RowKit
set_option linter.unusedSimpArgs false
set_option linter.unusedVariables false

/-- The members of a set of N numbers. -/
def mem (ws : List Nat) (N : Nat) : List Bool := (List.range N).map (wbit ws)
theorem mem_len (ws : List Nat) (N : Nat) : (mem ws N).length = N := by simp [mem]
theorem mem_succ (ws : List Nat) (N : Nat) : mem ws (N + 1) = mem ws N ++ [wbit ws N] := by simp [mem, List.range_succ]
theorem bw_append (a b : List Bool) : bw (a ++ b) = bw a ++ bw b := by simp [bw]

theorem own_below {w w' : World} {B : Nat} {e : TypeId} {size n : Nat} {v : Value} {xs : List Value} (h : w.ownsRow B e size v n xs) (hb : Below w.heap.size w w') : w'.ownsRow B e size v n xs := by
  refine ⟨h.1, ?_⟩
  rcases h.2 with hn | ⟨g, cap, cur, hv, hbg, hg, rest⟩
  · exact .inl hn
  · exact .inr ⟨g, cap, cur, hv, hbg, (hb.block g (Array.getElem?_eq_some_iff.1 hg).1).trans hg, rest⟩

set_option maxRecDepth 100000 in
theorem members_any (N : Nat) (A : Option Addr) (n c : Nat) (ws : List Nat) (w : World) (hr : Rd w 1 A n (uw ws)) (hs : wsmall ws) (h1 : N ≤ 64 * n) (h2 : N ≤ 1024) :
    Calls Tryd.prog 46 #[.agg #[.int .i64 N, .slice A n c]] w fun e w' => ∃ v', e = .returned v' ∧ w'.ownsRow w.heap.size 4 1 v' N (bw (mem ws N)) ∧ Below w.heap.size w w' := by
  obtain ⟨i0, hi, hz0, hz1, hz2⟩ := info_parts infoB
  go_enter Tryd.func46, Tryd.ntmps46
  have kB := Bk.new w #[.int .i64 N, .slice A n c] 24
  have hr1 := hr.alloc (.cells #[.int .i64 N, .slice A n c] 24)
  have hsz : (w.alloc (.cells #[.int .i64 N, .slice A n c] 24)).heap.size = w.heap.size + 1 := by simp
  have hbw := (Below.refl w.heap.size w).alloc (Nat.le_refl _) (.cells #[.int .i64 N, .slice A n c] 24)
  go_wp2_with fail
  generalize w.alloc (.cells #[.int .i64 N, .slice A n c] 24) = w1 at *
  go_loopw [3, 4] (fun s i wr => ∃ k : Nat, k ≤ N ∧ i = .int .i64 k ∧ wr.ownsRow w1.heap.size 4 1 s k (bw (mem ws k)) ∧ Below w1.heap.size w1 wr) (fun _ i _ => N - (intOf i).toNat)
  case atStart => exact ⟨0, by omega, rfl, own_nil _ _ _ _, Below.refl _ _⟩
  case round =>
    obtain ⟨k, hk, rfl, hown, hB⟩ := hrel
    obtain ⟨cB, fB, lB⟩ := (kB.to hB).facts
    by_cases hlt : k < N
    · go_wp2_with (first | (go_at_call 49; refine (rhas_any _ _ _ _ ws k _ (hr1.below hB (Nat.le_refl _)) hs (by omega) (by omega)).mono ?_; rintro e w2 ⟨rfl, hb2⟩; have hB2 := bnext hB hb2; have hown1 := own_below hown hb2) | (at_builtin; refine wpList_append_own _ rfl _ _ 64 rfl w1.heap.size 4 i0 (.bool false) 1 1 Tryd.underlying64 hi hz0 hz1 hz2 rfl (by decide) _ _ _ rfl (hown1.alloc _) ⟨w2.heap.size, 0, none⟩ 1 1 [.bool (wbit ws k)] rfl rfl (cell_one_new _ _ _) (by simp [Value.oneCell']) (by simp only [maxLen]; omega) (by omega) (by have := hB2.size; simp; omega) ?_; intro v' w3 hown' hgrow _))
      have hown2 : w3.ownsRow w1.heap.size 4 1 v' (k + 1) (bw (mem ws (k + 1))) := by
        rw [mem_succ, bw_append]; exact hown'
      have hB3 : Below w1.heap.size w1 w3 := (hB2.alloc hB2.size _).grown hgrow (by have := hB2.size; simp; omega) (fun q e => (hown1.lt q e).1)
      clear hown' hgrow hown hown1 hB hB2
      go_roundw
      case rel => exact ⟨k + 1, by omega, by go_num, hown2, hB3⟩
      case measure => simp [intOf]; omega
    · obtain rfl : k = N := by omega
      go_wp2_with fail
      go_ret
      exact ⟨_, rfl, own_less hown (by omega), hbw.trans (hB.mono (by omega))⟩

end Go.Proofs.YtihbdndigfnhkaaDoor
