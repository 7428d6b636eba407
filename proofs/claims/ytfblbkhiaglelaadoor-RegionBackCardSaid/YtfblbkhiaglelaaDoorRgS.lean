/- The regions of a set of pages, the gaps, and how many pages are mapped. -/
import Derived.Test.YtfblbkhiaglelaaDoorRgK
import Derived.Test.YtfblbkhiaglelaaDoorRgG0
import Derived.Test.YtfblbkhiaglelaaDoorBox
namespace Go.Proofs.YtfblbkhiaglelaaDoor
open Go Go.Proofs Go.RowKit
set_option linter.unusedSimpArgs false
set_option linter.unusedVariables false
set_option maxRecDepth 100000

theorem not_bitS (m j : Nat) (hm : m < 18446744073709551616) (hj : j < 64) : (18446744073709551615 - m).testBit j = !m.testBit j := by
  have h := Nat.testBit_two_pow_sub_succ (n := 64) (x := m) (by simpa using hm) j
  rw [show 2 ^ 64 - (m + 1) = 18446744073709551615 - m by omega] at h
  rw [h]
  simp [hj]
def SgR (w : World) (F : Nat → Bool) (v i : Value) (wr : World) : Prop :=
  ∃ k : Nat, k ≤ 64 ∧ i = .int .i64 k ∧ (k < 64 → F k = true → k = 0 ∨ F (k - 1) = false) ∧ wr.ownsRow w.heap.size 65 2 v (regK F k).length (flat2 .i64 (regK F k)) ∧ Below w.heap.size w wr
def SgQ (w : World) (F : Nat → Bool) (p g : Nat) (v i : Value) (wr : World) : Prop :=
  ∃ q : Nat, p ≤ q ∧ q < 64 ∧ i = .int .i64 q ∧ F q = true ∧ regK F (q + 1) = regK F p ++ [((p : Int), (q : Int))] ∧ Bk wr g #[.int .i64 p, .int .i64 q] 65 ∧ wr.ownsRow w.heap.size 65 2 v (regK F p).length (flat2 .i64 (regK F p)) ∧ Below w.heap.size w wr
set_option maxHeartbeats 4000000 in
theorem sregions_any (x : Nat) (w : World) (hx : x < 18446744073709551616) :
    Calls Tryd.prog 36 #[.int .u64 x] w fun e w' => ∃ v, e = .returned v ∧ w'.ownsRow w.heap.size 65 2 v (regs x.testBit).length (flat2 .i64 (regs x.testBit)) ∧ Below w.heap.size w w' := by
  obtain ⟨i0, hi, hz0, hz1, hz2⟩ := info_parts infoRgK
  have HF := Lib.hid (fun p w h => shas_any x p w hx h)
  generalize x.testBit = F at HF ⊢
  clear hx
  go_enter Tryd.func36, Tryd.ntmps36
  go_wp2_with fail
  go_loopw [3, 4] (SgR w F) (fun _ i _ => 64 - (intOf i).toNat)
  case atStart => exact ⟨0, by omega, rfl, fun _ _ => .inl rfl, World.ownsRow_nil _ _ _ _, Below.refl _ _⟩
  case round =>
    obtain ⟨k, hk, rfl, hnew, hown, hB⟩ := hrel
    have hkl := regK_len F k
    by_cases hlt : k < 64
    · have hkI : (k : Int) < 64 := by omega
      have HS := Lib.hid (HF.out k wr hlt)
      have Hno := Lib.hid (regK_no F k)
      have Hnew := Lib.hid (regK_new F k)
      have Hn := Lib.hid (hnew hlt)
      clear hnew
      rcases hF : F k with _ | _
      · have Hr := Lib.hid (Hno.out hF)
        have HFk := Lib.hid hF
        rw [hF] at HS
        clear hF Hno Hnew Hn
        go_wp2_with (go_at_call 31; refine HS.out.mono ?_; rintro e w' ⟨rfl, rfl⟩)
        go_roundw
        case rel => exact ⟨k + 1, by omega, by go_num, (fun _ _ => .inr (by rw [Nat.add_sub_cancel]; exact HFk.out)), by rw [Hr.out]; exact hown, hB⟩
        case measure => simp [intOf]; omega
      · have Hr := Lib.hid (Hnew.out hF (Hn.out hF))
        have HFk := Lib.hid hF
        rw [hF] at HS
        clear hF Hno Hnew Hn
        go_wp2_with (go_at_call 31; refine HS.out.mono ?_; rintro e w' ⟨rfl, rfl⟩)
        have K0 := Bk.new w' #[.int .i64 k, .int .i64 k] 65
        have o0 := hown.alloc (.cells #[.int .i64 k, .int .i64 k] 65)
        have B0 : Below w.heap.size w (w'.alloc (.cells #[.int .i64 k, .int .i64 k] 65)) := hB.alloc hB.size _
        have hgv : ∀ q, u3.ownBlock = some q → q < w'.heap.size := fun q e => (hown.lt q e).2
        have hgw := hB.size
        generalize w'.alloc (.cells #[.int .i64 k, .int .i64 k] 65) = w1 at *
        clear hown hB HS
        generalize w'.heap.size = g at *
        have Hgv := Lib.hid hgv
        clear hgv
        go_loopw [4] (SgQ w F k g u3) (fun i _ => 64 - (intOf i).toNat)
        case atStart => exact ⟨k, by omega, hlt, rfl, HFk.out, Hr.out, K0, o0, B0⟩
        case round =>
          clear K0 o0 B0 Hr hkI
          obtain ⟨q, hpq, hq, rfl, hFq, hreg, K, hown, hB⟩ := hrel
          have HR := Lib.hid hreg
          obtain ⟨cg, fg, lg⟩ := K.facts
          have cg0 := cg 0
          have cg1 := cg 1
          simp only [List.getElem?_toArray, List.getElem?_cons_zero, List.getElem?_cons_succ] at cg0 cg1
          have HQ := Lib.hid hFq
          clear hFq hreg cg
          by_cases hq1 : q + 1 < 64
          · have hqI : (q : Int) + 1 < 64 := by omega
            have HS := Lib.hid (HF.out (q + 1) wr hq1)
            rw [show ((q + 1 : Nat) : Int) = (q : Int) + 1 by omega] at HS
            rcases hF : F (q + 1) with _ | _
            · have HE : Hid (q + 1 < 64 → F (q + 1) = true → q + 1 = 0 ∨ F (q + 1 - 1) = false) := Lib.hid (fun _ h => by rw [hF] at h; cases h)
              rw [hF] at HS
              clear hF
              go_wp2_with (first | (go_at_call 31; refine HS.out.mono ?_; rintro e w' ⟨rfl, rfl⟩) | (at_builtin; refine wpList_append_own _ rfl _ _ 22 rfl w.heap.size 65 i0 (.agg #[.int .i64 0, .int .i64 0]) 2 16 Tryd.underlying22 hi hz0 hz1 hz2 rfl (by decide) _ _ _ rfl (hown.alloc _) ⟨w'.heap.size, 0, none⟩ 1 1 [.int .i64 (k : Int), .int .i64 (q : Int)] rfl rfl (cell_two_new _ _ _ _) (by simp [Value.oneCell']) (by simp only [maxLen]; omega) (by omega) (by have := hB.size; simp; omega) ?_; intro v' w3 hown' hgrow _))
              have hown2 : w3.ownsRow w.heap.size 65 2 v' (regK F (q + 1)).length (flat2 .i64 (regK F (q + 1))) := by
                rw [HR.out, flat2_append, List.length_append]; exact hown'
              have hB3 : Below w.heap.size w w3 := (hB.alloc hB.size _).grown hgrow (by have := hB.size; simp; omega) (fun q e => (hown.lt q e).1)
              clear hown' hgrow hown hB
              go_wp2_with fail
              go_roundw
              case rel => first | exact ⟨q + 1, by omega, by go_num, HE.out, hown2, hB3⟩ | ((repeat apply Exists.intro); exact ⟨⟨q + 1, by omega, by go_num, HE.out, hown2, hB3⟩, rfl⟩)
              case measure => simp [intOf]; omega
            · have HN := Lib.hid (regK_on F q (regK F k) k _ hF HQ.out HR.out)
              have HE := Lib.hid hF
              rw [hF] at HS
              clear hF
              go_wp2_with (go_at_call 31; refine HS.out.mono ?_; rintro e w' ⟨rfl, rfl⟩)
              go_roundw
              case rel =>
                refine ⟨q + 1, by omega, by omega, by go_num, HE.out, HN.out, K.put 1 _, ownsRow_setCell_other hown (fun e => absurd (Hgv.out g e) (Nat.lt_irrefl _)) _, hB.setCell (p := ⟨g, 1, none⟩) hgw _⟩
              case measure => simp [intOf]; omega
          · have hqI : ¬ (q : Int) + 1 < 64 := by omega
            have HE : Hid (q + 1 < 64 → F (q + 1) = true → q + 1 = 0 ∨ F (q + 1 - 1) = false) := Lib.hid (fun h _ => absurd h hq1)
            go_wp2_with (at_builtin; refine wpList_append_own _ rfl _ _ 22 rfl w.heap.size 65 i0 (.agg #[.int .i64 0, .int .i64 0]) 2 16 Tryd.underlying22 hi hz0 hz1 hz2 rfl (by decide) _ _ _ rfl (hown.alloc _) ⟨wr.heap.size, 0, none⟩ 1 1 [.int .i64 (k : Int), .int .i64 (q : Int)] rfl rfl (cell_two_new _ _ _ _) (by simp [Value.oneCell']) (by simp only [maxLen]; omega) (by omega) (by have := hB.size; simp; omega) ?_; intro v' w3 hown' hgrow _)
            have hown2 : w3.ownsRow w.heap.size 65 2 v' (regK F (q + 1)).length (flat2 .i64 (regK F (q + 1))) := by
              rw [HR.out, flat2_append, List.length_append]; exact hown'
            have hB3 : Below w.heap.size w w3 := (hB.alloc hB.size _).grown hgrow (by have := hB.size; simp; omega) (fun q e => (hown.lt q e).1)
            clear hown' hgrow hown hB
            go_wp2_with fail
            go_roundw
            case rel => first | exact ⟨q + 1, by omega, by go_num, HE.out, hown2, hB3⟩ | ((repeat apply Exists.intro); exact ⟨⟨q + 1, by omega, by go_num, HE.out, hown2, hB3⟩, rfl⟩)
            case measure => simp [intOf]; omega
    · obtain rfl : k = 64 := by omega
      go_wp2_with fail
      go_ret
      exact ⟨_, rfl, hown, hB⟩
end Go.Proofs.YtfblbkhiaglelaaDoor
