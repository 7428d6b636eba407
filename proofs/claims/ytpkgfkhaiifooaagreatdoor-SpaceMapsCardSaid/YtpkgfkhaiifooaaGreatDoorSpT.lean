/- Copies of rows (slices.Clone at three types), and of a table (space.twin). -/
import Derived.Test.YtpkgfkhaiifooaaGreatDoorSpV
import Derived.Test.YtpkgfkhaiifooaaGreatDoorOwn
import Derived.Test.YtpkgfkhaiifooaaGreatDoorRgK
import Derived.Test.YtpkgfkhaiifooaaGreatDoorGZ
import Derived.Deep.RegionHeld3
namespace Go.Proofs.YtpkgfkhaiifooaaGreatDoor
open Go Go.Proofs Go.RowKit
set_option linter.unusedSimpArgs false
set_option linter.unusedVariables false
set_option maxRecDepth 100000

theorem cloneR_sp (A : Option Addr) (n c : Nat) (rs : List (Int × Int)) (w : World) (hr : Rd w 2 A n (flat2 .i64 rs)) (hn : n ≤ 1000000) :
    Calls Tryz.prog 52 #[.slice A n c] w fun e w' => ∃ v', e = .returned v' ∧ w'.ownsRow w.heap.size 72 2 v' n (flat2 .i64 rs) ∧ Below w.heap.size w w' := by
  have hnil := fun (w : World) (A : Option Addr) (n c : Nat) => Lib.run_eql_slice_nil (P := Tryz.prog) w 22 72 A n c 0 0 Tryz.underlying22
  rcases A with _ | ad
  · have hm : n = 0 := by
      rcases Nat.eq_zero_or_pos n with h0 | h0
      · exact h0
      · obtain ⟨b, off, h, _⟩ := hr.2 h0
        cases h
    subst hm
    have hw : flat2 .i64 rs = [] := List.eq_nil_of_length_eq_zero (by simpa using hr.1)
    rw [hw]
    go_enter Tryz.func52, Tryz.ntmps52
    go_wp2_with fail
    go_ret
    exact ⟨_, rfl, World.ownsRow_nil _ _ _ _, by (repeat' (first | exact Below.refl _ _ | assumption | refine balloc ?_ _ | refine below_drawn ?_ _ | refine below_drew ?_ | refine bnext ?_ hb24 | refine bnext ?_ hb23 | refine bnext ?_ hb22 | refine bnext ?_ hb21 | refine bnext ?_ hb20 | refine bnext ?_ hb19 | refine bnext ?_ hb18 | refine bnext ?_ hb17 | refine bnext ?_ hb16 | refine bnext ?_ hb15 | refine bnext ?_ hb14 | refine bnext ?_ hb13 | refine bnext ?_ hb12 | refine bnext ?_ hb11 | refine bnext ?_ hb10 | refine bnext ?_ hb9 | refine bnext ?_ hb8 | refine bnext ?_ hb7 | refine bnext ?_ hb6 | refine bnext ?_ hb5 | refine bnext ?_ hb4 | refine bnext ?_ hb3 | refine bnext ?_ hb2 | refine bnext ?_ hb1))⟩
  · obtain ⟨i0, hi, hz0, hz1, hz2⟩ := info_parts infoRgK
    go_enter Tryz.func52, Tryz.ntmps52
    go_wp2_with (at_builtin; refine wpList_append_rd _ rfl _ _ 22 rfl w.heap.size 72 i0 (.agg #[.int .i64 0, .int .i64 0]) 2 16 Tryz.underlying22 hi hz0 hz1 hz2 rfl (by decide) _ _ _ rfl (own_empty w 72 2) _ n c (flat2 .i64 rs) rfl (hr.alloc _) (oneCells_flat2 _ _) (by simp only [maxLen]; omega) (by omega) (by simp) ?_; intro v' w1 hown' hgrow)
    go_ret
    rw [Nat.zero_add, List.nil_append] at hown'
    exact ⟨_, rfl, hown', (((Below.refl _ w).alloc (Nat.le_refl _) _).grown hgrow (by simp) (fun k e => by cases e; exact Nat.le_refl _))⟩
theorem cloneW_sp (ad : Addr) (n c : Nat) (ws : List Nat) (w : World) (hr : Rd w 1 (some ad) n (uw ws)) (hn : n ≤ 1000000) :
    Calls Tryz.prog 54 #[.slice (some ad) n c] w fun e w' => ∃ v', e = .returned v' ∧ w'.ownsRow w.heap.size 85 1 v' n (uw ws) ∧ Below w.heap.size w w' := by
  have hnil := fun (w : World) (A : Option Addr) (n c : Nat) => Lib.run_eql_slice_nil (P := Tryz.prog) w 24 85 A n c 0 0 Tryz.underlying24
  obtain ⟨i0, hi, hz0, hz1, hz2⟩ := info_parts infoU64
  go_enter Tryz.func54, Tryz.ntmps54
  go_wp2_with (at_builtin; refine wpList_append_rd _ rfl _ _ 24 rfl w.heap.size 85 i0 (.int .u64 0) 1 8 Tryz.underlying24 hi hz0 hz1 hz2 rfl (by decide) _ _ _ rfl (own_empty w 85 1) _ n c (uw ws) rfl (hr.alloc _) (oneCells_uw _) (by simp only [maxLen]; omega) (by omega) (by simp) ?_; intro v' w1 hown' hgrow)
  go_ret
  rw [Nat.zero_add, List.nil_append] at hown'
  exact ⟨_, rfl, hown', (((Below.refl _ w).alloc (Nat.le_refl _) _).grown hgrow (by simp) (fun k e => by cases e; exact Nat.le_refl _))⟩
theorem cloneI_sp (ad : Addr) (n c : Nat) (ls : List Int) (w : World) (hr : Rd w 1 (some ad) n (iw ls)) (hn : n ≤ 1000000) :
    Calls Tryz.prog 53 #[.slice (some ad) n c] w fun e w' => ∃ v', e = .returned v' ∧ w'.ownsRow w.heap.size 3 1 v' n (iw ls) ∧ Below w.heap.size w w' := by
  have hnil := fun (w : World) (A : Option Addr) (n c : Nat) => Lib.run_eql_slice_nil (P := Tryz.prog) w 23 3 A n c 0 0 Tryz.underlying23
  obtain ⟨i0, hi, hz0, hz1, hz2⟩ := info_parts infoInt
  go_enter Tryz.func53, Tryz.ntmps53
  go_wp2_with (at_builtin; refine wpList_append_rd _ rfl _ _ 23 rfl w.heap.size 3 i0 (.int .i64 0) 1 8 Tryz.underlying23 hi hz0 hz1 hz2 rfl (by decide) _ _ _ rfl (own_empty w 3 1) _ n c (iw ls) rfl (hr.alloc _) (oneCells_int _ _) (by simp only [maxLen]; omega) (by omega) (by simp) ?_; intro v' w1 hown' hgrow)
  go_ret
  rw [Nat.zero_add, List.nil_append] at hown'
  exact ⟨_, rfl, hown', (((Below.refl _ w).alloc (Nat.le_refl _) _).grown hgrow (by simp) (fun k e => by cases e; exact Nat.le_refl _))⟩

set_option maxHeartbeats 4000000 in
theorem twin_any (r : Int) (ls : List Int) (es : List Nat) (v : Value) (w : World) (hv : TbV w v (r, ls, es)) (hn : ls.length = 8) (hm : es.length = 64) :
    Calls Tryz.prog 22 #[v] w fun e w' => ∃ gA cA gB cB, e = .returned (.agg #[.int .i64 r, .slice (some ⟨gA, 0, none⟩) 8 cA, .slice (some ⟨gB, 0, none⟩) 64 cB]) ∧ Own2 w' w.heap.size gA cA gB cB ls es ∧ Below w.heap.size w w' := by
  obtain ⟨A, c, B, d, rfl, hA, hB, hcc⟩ := hv
  simp only at hA hB hcc
  unfold tabV
  simp only
  rw [hn] at hA ⊢
  rw [hm] at hB ⊢
  obtain ⟨bA, oA, rfl, hAl, _⟩ := id (hA.2 (by omega))
  obtain ⟨bB, oB, rfl, hBl, _⟩ := id (hB.2 (by omega))
  clear hn hm hcc
  have kT := (Bk.new w #[.int .i64 r, .slice (some ⟨bA, oA, none⟩) 8 c, .slice (some ⟨bB, oB, none⟩) 64 d] 26).alloc (.cells #[.int .i64 0, .slice none 0 0, .slice none 0 0] 26)
  have kR := Bk.new (w.alloc (.cells #[.int .i64 r, .slice (some ⟨bA, oA, none⟩) 8 c, .slice (some ⟨bB, oB, none⟩) 64 d] 26)) #[.int .i64 0, .slice none 0 0, .slice none 0 0] 26
  rw [World.size_alloc] at kR
  have hB1 := balloc (balloc (Below.refl _ w) (.cells #[.int .i64 r, .slice (some ⟨bA, oA, none⟩) 8 c, .slice (some ⟨bB, oB, none⟩) 64 d] 26)) (.cells #[.int .i64 0, .slice none 0 0, .slice none 0 0] 26)
  generalize hw1 : (w.alloc (.cells #[.int .i64 r, .slice (some ⟨bA, oA, none⟩) 8 c, .slice (some ⟨bB, oB, none⟩) 64 d] 26)).alloc (.cells #[.int .i64 0, .slice none 0 0, .slice none 0 0] 26) = w1 at *
  have hA1 := hA.below hB1 (Nat.le_refl _)
  have hE1 := hB.below hB1 (Nat.le_refl _)
  have c0 := kT.cell 0
  have c1 := kT.cell 1
  have c2 := kT.cell 2
  simp at c0 c1 c2
  have hsR := kR.lt
  go_enter Tryz.func22, Tryz.ntmps22
  go_wp2_with fail
  go_region_held3 (fun w' => w'.cell? ⟨w.heap.size, 0, none⟩ = some (.int .i64 r) ∧ w'.cell? ⟨w.heap.size, 1, none⟩ = some (.slice (some ⟨bA, oA, none⟩) 8 c) ∧ w'.cell? ⟨w.heap.size, 2, none⟩ = some (.slice (some ⟨bB, oB, none⟩) 64 d))
    (refine ⟨?_, ?_, ?_⟩ <;> (repeat (with_reducible first | exact c0 | exact c1 | exact c2 | refine cell_drew ?_ | refine cell_later hbI ?_ | refine cell_later hbU ?_ | refine cell_alloc _ ?_ | refine cell_far ?_ (by simp) _)))
    (first
      | (go_at_call 53
         refine (cloneI_sp ⟨bA, oA, none⟩ 8 c ls _ (by repeat (with_reducible first | exact hA1 | refine Rd.drew1 ?_ | refine Rd.to ?_ hbU | refine Rd.alloc ?_ _)) (by omega)).mono ?_
         rintro e wI ⟨vI, rfl, hoI, hbI⟩
         obtain ⟨gI, cI, rfl, hgI, hlI⟩ := hoI.form (by omega)
         have hsI : w1.heap.size ≤ wI.heap.size := Nat.le_trans (by (try simp only [World.size_alloc, World.size_drew]); omega) hbI.size
         have kRI : Bk wI (w.heap.size + 1) #[.int .i64 0, .slice none 0 0, .slice none 0 0] 26 := by repeat (with_reducible first | exact kR | refine Bk.to ?_ hbI | refine Bk.to ?_ hbU | refine Bk.drew ?_ | refine Bk.alloc ?_ _)
         obtain ⟨cRI, fRI, lRI⟩ := kRI.facts)
      | (go_at_call 54
         refine (cloneW_sp ⟨bB, oB, none⟩ 64 d es _ (by repeat (with_reducible first | exact hE1 | refine Rd.drew1 ?_ | refine Rd.to ?_ hbI | refine Rd.alloc ?_ _)) (by omega)).mono ?_
         rintro e wU ⟨vU, rfl, hoU, hbU⟩
         obtain ⟨gU, cU, rfl, hgU, hlU⟩ := hoU.form (by omega)
         have kRU : Bk wU (w.heap.size + 1) #[.int .i64 0, .slice none 0 0, .slice none 0 0] 26 := by repeat (with_reducible first | exact kR | refine Bk.to ?_ hbU | refine Bk.to ?_ hbI | refine Bk.drew ?_ | refine Bk.alloc ?_ _)
         obtain ⟨cRU, fRU, lRU⟩ := kRU.facts))
  all_goals
    have hBU : Below w.heap.size w wU := by repeat (with_reducible first | exact hB1 | refine bnext ?_ hbU | refine bnext ?_ hbI | refine below_drew ?_ | refine balloc ?_ _)
    simp only [World.size_alloc, World.size_drew] at hlI hlU hgI hgU
    have hoI1 := own_less (base' := w.heap.size + 1 + 1) hoI (by (try simp only [World.size_alloc, World.size_drew]); omega)
    have hoU1 := own_less (base' := w.heap.size + 1 + 1) hoU (by (try simp only [World.size_alloc, World.size_drew]); omega)
    have hoI2 : wU.ownsRow (w.heap.size + 1 + 1) 3 1 (.slice (some ⟨gI, 0, none⟩) 8 cI) 8 (iw ls) := by repeat (with_reducible first | exact hoI1 | refine own_below ?_ hbU | refine World.ownsRow.alloc ?_ _)
    have hO : Own2 wU (w.heap.size + 1 + 1) gI cI gU cU ls es := ⟨hoI2, hoU1, by omega⟩
    have kF := kRU.put3 (.int .i64 r) (.slice (some ⟨gI, 0, none⟩) 8 cI) (.slice (some ⟨gU, 0, none⟩) 64 cU)
    have hBF := below_put3 hBU (g := w.heap.size + 1) (by omega) (.int .i64 r) (.slice (some ⟨gI, 0, none⟩) 8 cI) (.slice (some ⟨gU, 0, none⟩) 64 cU)
    have hOF := ((hO.far (p := ⟨w.heap.size + 1, 0, none⟩) (by show _ < _; simp only; omega) (.int .i64 r)).far (p := ⟨w.heap.size + 1, 1, none⟩) (by show _ < _; simp only; omega) (.slice (some ⟨gI, 0, none⟩) 8 cI)).far (p := ⟨w.heap.size + 1, 2, none⟩) (by show _ < _; simp only; omega) (.slice (some ⟨gU, 0, none⟩) 64 cU)
    go_wp2_with fail
    exact bodyPost_ret (kF.res1 (P := Tryz.prog) rfl _ rfl (by kernel_rfl) (by kernel_rfl)) rfl ⟨_, _, _, _, rfl, hOF.less (by omega), hBF⟩
end Go.Proofs.YtpkgfkhaiifooaaGreatDoor
