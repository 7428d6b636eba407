/- Regions of a set of pages, and pages that are mapped and unmapped, by the reference. -/
import Derived.Test.YtfblbkhiaglelaaDoorRgE
import Derived.Deep.AppendLies
namespace Go.Proofs.YtfblbkhiaglelaaDoor
open Go Go.Proofs Go.RowKit
set_option linter.unusedSimpArgs false
set_option linter.unusedVariables false
set_option maxRecDepth 100000

theorem infoRgF : (Tryd.prog.info? 65).map (fun i => (i.zero, i.size, i.bytes)) = some (some (.agg #[.int .i64 0, .int .i64 0]), 2, 16) := by kernel_rfl
theorem flat2_setL (k : IntKind) (l : List (Int × Int)) (a b p : Int) : (flat2 k (l ++ [(a, b)])).set (l.length * 2 + 1) (.int k p) = flat2 k (l ++ [(a, p)]) := by
  rw [flat2_append, flat2_append, List.set_append_right _ _ (by rw [flat2_len]; omega), flat2_len, show l.length * 2 + 1 - l.length * 2 = 1 by omega]
  rfl
theorem flat2_lastL (k : IntKind) (l : List (Int × Int)) (a b : Int) : (flat2 k (l ++ [(a, b)]))[l.length * 2 + 1]? = some (.int k b) := by
  have := (flat2_at k (l ++ [(a, b)]) l.length (a, b) (by simp)).2
  rwa [show 2 * l.length + 1 = l.length * 2 + 1 by omega] at this
def RgsR (w : World) (F : Nat → Bool) (v i : Value) (wr : World) : Prop := ∃ k : Nat, k ≤ 64 ∧ i = .int .i64 k ∧ wr.ownsRow w.heap.size 65 2 v (regK F k).length (flat2 .i64 (regK F k)) ∧ Below w.heap.size w wr
set_option maxHeartbeats 2000000 in
theorem rregions_t (A : Option Addr) (c : Nat) (f : Nat → Bool) (w : World) (hr : Rd w 1 A 64 (bw (bl f))) :
    Calls Tryd.prog 37 #[.slice A 64 c, .bool true] w fun e w' => ∃ v, e = .returned v ∧ w'.ownsRow w.heap.size 65 2 v (regs (fun p => f p == true)).length (flat2 .i64 (regs (fun p => f p == true))) ∧ Below w.heap.size w w' := by
  obtain ⟨F, hF⟩ : ∃ F, F = fun p => f p == true := ⟨_, rfl⟩
  rw [← hF]
  have HF : Hid (∀ p, F p = (f p == true)) := Lib.hid (fun p => by rw [hF])
  clear hF
  obtain ⟨i0, hi, hz0, hz1, hz2⟩ := info_parts infoRgF
  go_enter Tryd.func37, Tryd.ntmps37
  go_wp2_with fail
  go_loopw [5, 6] (RgsR w F) (fun _ i _ => 64 - (intOf i).toNat)
  case atStart => exact ⟨0, by omega, rfl, World.ownsRow_nil _ _ _ _, Below.refl _ _⟩
  case round =>
    obtain ⟨k, hk, rfl, hown, hB⟩ := hrel
    have hkl := regK_len F k
    by_cases hlt : k < 64
    · obtain ⟨b, off, rfl, hb, hc⟩ := hr.bool (i := k) hlt
      rw [bl_get f k hlt] at hc
      have hcw := (hB.cell (p := ⟨b, off + k, none⟩) hb).trans hc
      have hkI : (k : Int) < 64 := by omega
      have HFk := HF.out k
      have Hno := Lib.hid (regK_no F k)
      have Hnew := Lib.hid (regK_new F k)
      rcases hF : F k with _ | _
      · rw [hF] at HFk
        have hu : f k = false := by revert HFk; cases f k <;> simp
        rw [hu] at hcw
        have Hr := Lib.hid (Hno.out hF)
        clear HFk Hno Hnew hF hu hc
        go_wp2_with fail
        go_roundw
        case rel => first | exact ⟨k + 1, by omega, by go_num, by rw [Hr.out]; exact hown, hB⟩ | ((repeat apply Exists.intro); exact ⟨⟨k + 1, by omega, by go_num, by rw [Hr.out]; exact hown, hB⟩, rfl⟩)
        case measure => simp [intOf]; omega
      · rw [hF] at HFk
        have hu : f k = true := by revert HFk; cases f k <;> simp
        rw [hu] at hcw
        by_cases hk0 : k = 0
        · have HN := Lib.hid (Hnew.out hF (.inl hk0))
          have Hk0 := Lib.hid hk0
          clear HFk Hno Hnew hF hu hc
          subst hk0
          simp only [Nat.add_zero] at hcw
          rw [show ((0 : Nat) : Int) = 0 from rfl] at HN
          go_wp2_with (at_builtin; refine wpList_append_own _ rfl _ _ 22 rfl w.heap.size 65 i0 (.agg #[.int .i64 0, .int .i64 0]) 2 16 Tryd.underlying22 hi hz0 hz1 hz2 rfl (by decide) _ _ _ rfl (hown.alloc _) ⟨wr.heap.size, 0, none⟩ 1 1 [.int .i64 0, .int .i64 0] rfl rfl (cell_two_new _ _ _ _) (by simp [Value.oneCell']) (by simp only [maxLen]; omega) (by omega) (by have := hB.size; simp; omega) ?_; intro v' w3 hown' hgrow _)
          have hown2 : w3.ownsRow w.heap.size 65 2 v' (regK F (0 + 1)).length (flat2 .i64 (regK F (0 + 1))) := by
            rw [HN.out, flat2_append, List.length_append]; exact hown'
          have hB3 : Below w.heap.size w w3 := (hB.alloc hB.size _).grown hgrow (by have := hB.size; simp; omega) (fun q e => (hown.lt q e).1)
          clear hown' hgrow hown hB
          go_roundw
          case rel => first | exact ⟨0 + 1, by omega, by go_num, hown2, hB3⟩ | ((repeat apply Exists.intro); exact ⟨⟨0 + 1, by omega, by go_num, hown2, hB3⟩, rfl⟩)
          case measure => first | (simp [intOf]; done) | (simp [intOf]; omega)
        · obtain ⟨q, rfl⟩ : ∃ q, k = q + 1 := ⟨k - 1, by omega⟩
          obtain ⟨b', off', he, hb', hc'⟩ := hr.bool (i := q) (by omega)
          injection he with he
          injection he with hq1 hq2
          subst hq1 hq2
          rw [bl_get f q (by omega)] at hc'
          have hcw' := (hB.cell (p := ⟨b, off + q, none⟩) hb).trans hc'
          have HFq := HF.out q
          rw [Nat.add_sub_cancel] at Hnew
          rcases hF' : F q with _ | _
          · rw [hF'] at HFq
            have hu' : f q = false := by revert HFq; cases f q <;> simp
            rw [hu'] at hcw'
            have HN := Lib.hid (Hnew.out hF (.inr hF'))
            rw [show ((q + 1 : Nat) : Int) = (q : Int) + 1 by omega] at HN
            clear HFk Hno Hnew hF hu hc HFq hF' hu' hc'
            go_wp2_with (at_builtin; refine wpList_append_own _ rfl _ _ 22 rfl w.heap.size 65 i0 (.agg #[.int .i64 0, .int .i64 0]) 2 16 Tryd.underlying22 hi hz0 hz1 hz2 rfl (by decide) _ _ _ rfl (hown.alloc _) ⟨wr.heap.size, 0, none⟩ 1 1 [.int .i64 ((q : Int) + 1), .int .i64 ((q : Int) + 1)] rfl rfl (cell_two_new _ _ _ _) (by simp [Value.oneCell']) (by simp only [maxLen]; omega) (by omega) (by have := hB.size; simp; omega) ?_; intro v' w3 hown' hgrow _)
            have hown2 : w3.ownsRow w.heap.size 65 2 v' (regK F (q + 1 + 1)).length (flat2 .i64 (regK F (q + 1 + 1))) := by
              rw [HN.out, flat2_append, List.length_append]; exact hown'
            have hB3 : Below w.heap.size w w3 := (hB.alloc hB.size _).grown hgrow (by have := hB.size; simp; omega) (fun q e => (hown.lt q e).1)
            clear hown' hgrow hown hB
            go_roundw
            case rel => first | exact ⟨q + 1 + 1, by omega, by go_num, hown2, hB3⟩ | ((repeat apply Exists.intro); exact ⟨⟨q + 1 + 1, by omega, by go_num, hown2, hB3⟩, rfl⟩)
            case measure => simp [intOf]; omega
          · rw [hF'] at HFq
            have hu' : f q = true := by revert HFq; cases f q <;> simp
            rw [hu'] at hcw'
            obtain ⟨l, a, hla⟩ := (regK_ok F (q + 1) (by omega)).2.2.2.1 ⟨by omega, by simpa using hF'⟩
            have HN := Lib.hid (regK_on F q l a _ hF hF' hla)
            rw [hla] at hown hkl
            rw [show ((q + 1 : Nat) : Int) = (q : Int) + 1 by omega] at HN
            have hnn : (l ++ [(a, ((q + 1 : Nat) : Int) - 1)]).length = l.length + 1 := by simp
            rw [hnn] at hown hkl
            obtain ⟨g, cap, rfl, hg1, hg2⟩ := hown.form (by omega)
            have hcs : wr.cell? ⟨g, l.length * 2 + 1, none⟩ = some (.int .i64 (((q + 1 : Nat) : Int) - 1)) := by
              rw [hown.cellAt _ (by omega)]; exact flat2_lastL _ _ _ _
            have hfr := hown.frozenAt (l.length * 2 + 1)
            have hst := (hown.stored (l.length * 2 + 1) (.int .i64 ((q : Int) + 1))).1
            rw [flat2_setL] at hst
            generalize (((q + 1 : Nat) : Int) - 1) = z at hcs
            have hgne : ¬ b = g := by omega
            clear HFk Hno Hnew hF hu hc HFq hF' hu' hc' hla hnn
            go_wp2_with fail
            have hst2 : (wr.setCell ⟨g, l.length * 2 + 1, none⟩ (.int .i64 ((q : Int) + 1))).ownsRow w.heap.size 65 2 (.slice (some ⟨g, 0, none⟩) (l.length + 1) cap) (regK F (q + 2)).length (flat2 .i64 (regK F (q + 2))) := by
              rw [HN.out, List.length_append]; exact hst
            have hB3 := hB.setCell (p := ⟨g, l.length * 2 + 1, none⟩) hg1 (.int .i64 ((q : Int) + 1))
            go_roundw
            case rel => first | exact ⟨q + 2, by omega, by go_num, hst2, hB3⟩ | ((repeat apply Exists.intro); exact ⟨⟨q + 2, by omega, by go_num, hst2, hB3⟩, rfl⟩)
            case measure => simp [intOf]; omega
    · obtain rfl : k = 64 := by omega
      go_wp2_with fail
      go_ret
      exact ⟨_, rfl, hown, hB⟩
set_option maxHeartbeats 2000000 in
theorem rregions_f (A : Option Addr) (c : Nat) (f : Nat → Bool) (w : World) (hr : Rd w 1 A 64 (bw (bl f))) :
    Calls Tryd.prog 37 #[.slice A 64 c, .bool false] w fun e w' => ∃ v, e = .returned v ∧ w'.ownsRow w.heap.size 65 2 v (regs (fun p => f p == false)).length (flat2 .i64 (regs (fun p => f p == false))) ∧ Below w.heap.size w w' := by
  obtain ⟨F, hF⟩ : ∃ F, F = fun p => f p == false := ⟨_, rfl⟩
  rw [← hF]
  have HF : Hid (∀ p, F p = (f p == false)) := Lib.hid (fun p => by rw [hF])
  clear hF
  obtain ⟨i0, hi, hz0, hz1, hz2⟩ := info_parts infoRgF
  go_enter Tryd.func37, Tryd.ntmps37
  go_wp2_with fail
  go_loopw [5, 6] (RgsR w F) (fun _ i _ => 64 - (intOf i).toNat)
  case atStart => exact ⟨0, by omega, rfl, World.ownsRow_nil _ _ _ _, Below.refl _ _⟩
  case round =>
    obtain ⟨k, hk, rfl, hown, hB⟩ := hrel
    have hkl := regK_len F k
    by_cases hlt : k < 64
    · obtain ⟨b, off, rfl, hb, hc⟩ := hr.bool (i := k) hlt
      rw [bl_get f k hlt] at hc
      have hcw := (hB.cell (p := ⟨b, off + k, none⟩) hb).trans hc
      have hkI : (k : Int) < 64 := by omega
      have HFk := HF.out k
      have Hno := Lib.hid (regK_no F k)
      have Hnew := Lib.hid (regK_new F k)
      rcases hF : F k with _ | _
      · rw [hF] at HFk
        have hu : f k = true := by revert HFk; cases f k <;> simp
        rw [hu] at hcw
        have Hr := Lib.hid (Hno.out hF)
        clear HFk Hno Hnew hF hu hc
        go_wp2_with fail
        go_roundw
        case rel => first | exact ⟨k + 1, by omega, by go_num, by rw [Hr.out]; exact hown, hB⟩ | ((repeat apply Exists.intro); exact ⟨⟨k + 1, by omega, by go_num, by rw [Hr.out]; exact hown, hB⟩, rfl⟩)
        case measure => simp [intOf]; omega
      · rw [hF] at HFk
        have hu : f k = false := by revert HFk; cases f k <;> simp
        rw [hu] at hcw
        by_cases hk0 : k = 0
        · have HN := Lib.hid (Hnew.out hF (.inl hk0))
          have Hk0 := Lib.hid hk0
          clear HFk Hno Hnew hF hu hc
          subst hk0
          simp only [Nat.add_zero] at hcw
          rw [show ((0 : Nat) : Int) = 0 from rfl] at HN
          go_wp2_with (at_builtin; refine wpList_append_own _ rfl _ _ 22 rfl w.heap.size 65 i0 (.agg #[.int .i64 0, .int .i64 0]) 2 16 Tryd.underlying22 hi hz0 hz1 hz2 rfl (by decide) _ _ _ rfl (hown.alloc _) ⟨wr.heap.size, 0, none⟩ 1 1 [.int .i64 0, .int .i64 0] rfl rfl (cell_two_new _ _ _ _) (by simp [Value.oneCell']) (by simp only [maxLen]; omega) (by omega) (by have := hB.size; simp; omega) ?_; intro v' w3 hown' hgrow _)
          have hown2 : w3.ownsRow w.heap.size 65 2 v' (regK F (0 + 1)).length (flat2 .i64 (regK F (0 + 1))) := by
            rw [HN.out, flat2_append, List.length_append]; exact hown'
          have hB3 : Below w.heap.size w w3 := (hB.alloc hB.size _).grown hgrow (by have := hB.size; simp; omega) (fun q e => (hown.lt q e).1)
          clear hown' hgrow hown hB
          go_roundw
          case rel => first | exact ⟨0 + 1, by omega, by go_num, hown2, hB3⟩ | ((repeat apply Exists.intro); exact ⟨⟨0 + 1, by omega, by go_num, hown2, hB3⟩, rfl⟩)
          case measure => first | (simp [intOf]; done) | (simp [intOf]; omega)
        · obtain ⟨q, rfl⟩ : ∃ q, k = q + 1 := ⟨k - 1, by omega⟩
          obtain ⟨b', off', he, hb', hc'⟩ := hr.bool (i := q) (by omega)
          injection he with he
          injection he with hq1 hq2
          subst hq1 hq2
          rw [bl_get f q (by omega)] at hc'
          have hcw' := (hB.cell (p := ⟨b, off + q, none⟩) hb).trans hc'
          have HFq := HF.out q
          rw [Nat.add_sub_cancel] at Hnew
          rcases hF' : F q with _ | _
          · rw [hF'] at HFq
            have hu' : f q = true := by revert HFq; cases f q <;> simp
            rw [hu'] at hcw'
            have HN := Lib.hid (Hnew.out hF (.inr hF'))
            rw [show ((q + 1 : Nat) : Int) = (q : Int) + 1 by omega] at HN
            clear HFk Hno Hnew hF hu hc HFq hF' hu' hc'
            go_wp2_with (at_builtin; refine wpList_append_own _ rfl _ _ 22 rfl w.heap.size 65 i0 (.agg #[.int .i64 0, .int .i64 0]) 2 16 Tryd.underlying22 hi hz0 hz1 hz2 rfl (by decide) _ _ _ rfl (hown.alloc _) ⟨wr.heap.size, 0, none⟩ 1 1 [.int .i64 ((q : Int) + 1), .int .i64 ((q : Int) + 1)] rfl rfl (cell_two_new _ _ _ _) (by simp [Value.oneCell']) (by simp only [maxLen]; omega) (by omega) (by have := hB.size; simp; omega) ?_; intro v' w3 hown' hgrow _)
            have hown2 : w3.ownsRow w.heap.size 65 2 v' (regK F (q + 1 + 1)).length (flat2 .i64 (regK F (q + 1 + 1))) := by
              rw [HN.out, flat2_append, List.length_append]; exact hown'
            have hB3 : Below w.heap.size w w3 := (hB.alloc hB.size _).grown hgrow (by have := hB.size; simp; omega) (fun q e => (hown.lt q e).1)
            clear hown' hgrow hown hB
            go_roundw
            case rel => first | exact ⟨q + 1 + 1, by omega, by go_num, hown2, hB3⟩ | ((repeat apply Exists.intro); exact ⟨⟨q + 1 + 1, by omega, by go_num, hown2, hB3⟩, rfl⟩)
            case measure => simp [intOf]; omega
          · rw [hF'] at HFq
            have hu' : f q = false := by revert HFq; cases f q <;> simp
            rw [hu'] at hcw'
            obtain ⟨l, a, hla⟩ := (regK_ok F (q + 1) (by omega)).2.2.2.1 ⟨by omega, by simpa using hF'⟩
            have HN := Lib.hid (regK_on F q l a _ hF hF' hla)
            rw [hla] at hown hkl
            rw [show ((q + 1 : Nat) : Int) = (q : Int) + 1 by omega] at HN
            have hnn : (l ++ [(a, ((q + 1 : Nat) : Int) - 1)]).length = l.length + 1 := by simp
            rw [hnn] at hown hkl
            obtain ⟨g, cap, rfl, hg1, hg2⟩ := hown.form (by omega)
            have hcs : wr.cell? ⟨g, l.length * 2 + 1, none⟩ = some (.int .i64 (((q + 1 : Nat) : Int) - 1)) := by
              rw [hown.cellAt _ (by omega)]; exact flat2_lastL _ _ _ _
            have hfr := hown.frozenAt (l.length * 2 + 1)
            have hst := (hown.stored (l.length * 2 + 1) (.int .i64 ((q : Int) + 1))).1
            rw [flat2_setL] at hst
            generalize (((q + 1 : Nat) : Int) - 1) = z at hcs
            have hgne : ¬ b = g := by omega
            clear HFk Hno Hnew hF hu hc HFq hF' hu' hc' hla hnn
            go_wp2_with fail
            have hst2 : (wr.setCell ⟨g, l.length * 2 + 1, none⟩ (.int .i64 ((q : Int) + 1))).ownsRow w.heap.size 65 2 (.slice (some ⟨g, 0, none⟩) (l.length + 1) cap) (regK F (q + 2)).length (flat2 .i64 (regK F (q + 2))) := by
              rw [HN.out, List.length_append]; exact hst
            have hB3 := hB.setCell (p := ⟨g, l.length * 2 + 1, none⟩) hg1 (.int .i64 ((q : Int) + 1))
            go_roundw
            case rel => first | exact ⟨q + 2, by omega, by go_num, hst2, hB3⟩ | ((repeat apply Exists.intro); exact ⟨⟨q + 2, by omega, by go_num, hst2, hB3⟩, rfl⟩)
            case measure => simp [intOf]; omega
    · obtain rfl : k = 64 := by omega
      go_wp2_with fail
      go_ret
      exact ⟨_, rfl, hown, hB⟩
theorem rregions_any (A : Option Addr) (c : Nat) (f : Nat → Bool) (inn : Bool) (w : World) (hr : Rd w 1 A 64 (bw (bl f))) :
    Calls Tryd.prog 37 #[.slice A 64 c, .bool inn] w fun e w' => ∃ v, e = .returned v ∧ w'.ownsRow w.heap.size 65 2 v (regs (fun p => f p == inn)).length (flat2 .i64 (regs (fun p => f p == inn))) ∧ Below w.heap.size w w' := by
  cases inn
  · exact rregions_f A c f w hr
  · exact rregions_t A c f w hr
end Go.Proofs.YtfblbkhiaglelaaDoor
