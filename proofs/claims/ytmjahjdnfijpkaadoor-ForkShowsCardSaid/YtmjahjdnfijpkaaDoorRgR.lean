/- Regions made of numbers. -/
import Derived.Test.YtmjahjdnfijpkaaDoorRgK
import Derived.Test.YtmjahjdnfijpkaaDoorHO
import Derived.Test.YtmjahjdnfijpkaaDoorMod
namespace Go.Proofs.YtmjahjdnfijpkaaDoor
open Go Go.Proofs Go.RowKit
set_option linter.unusedSimpArgs false
set_option linter.unusedVariables false
set_option maxRecDepth 100000

theorem any_bl (l : List Bool) (h : l.length = 64) : ∃ f, l = bl f := by
  refine ⟨fun p => l.getD p false, ?_⟩
  apply List.ext_getElem
  · rw [bl_len, h]
  · intro i h1 h2
    simp [bl, List.getD_eq_getElem?_getD, List.getElem?_eq_getElem h1]
def InR (w : World) (g : Nat) (wr : World) : Prop := ∃ l : List Bool, l.length = 64 ∧ wr.ownsRow w.heap.size 4 1 (.slice (some ⟨g, 0, none⟩) 64 64) 64 (bw l) ∧ Below w.heap.size w wr
set_option maxHeartbeats 4000000 in
theorem Regions_any (A : Option Addr) (n c : Nat) (zs : List Int) (w : World) (hr : Rd w 1 A n (zs.map (Value.int .i64))) (hn : n ≤ maxLen) :
    Calls Tryd.prog 64 #[.slice A n c] w fun e w' => ∃ f v, e = .returned v ∧ w'.ownsRow w.heap.size 81 2 v (regs f).length (flat2 .i64 (regs f)) ∧ Below w.heap.size w w' := by
  obtain ⟨i0, hi, hz0, hz1, hz2⟩ := info_parts infoRgK
  have hmk := run_make_row' (P := Tryd.prog) 119 4 (.bool false) 1 Tryd.underlying119 infoBool rfl .i64 .i64 64 (by omega) (by omega)
  replace hmk : ∀ w : World, (Instr.makeSlice 119 (.int .i64 64) (.int .i64 64)).run Tryd.prog w = .ok (.slice (some ⟨w.heap.size, 0, none⟩) 64 64) (w.alloc (.cells (madeCells #[.bool false] 64) 4)) := hmk
  go_enter Tryd.func64, Tryd.ntmps64
  go_wp2_with fail
  have hown := own_falses w 4 64 (by omega)
  have hB := balloc (Below.refl _ w) (.cells (madeCells #[.bool false] 64) 4)
  generalize w.alloc (.cells (madeCells #[.bool false] 64) 4) = w1 at *
  obtain ⟨g, hg⟩ : ∃ g, g = w.heap.size := ⟨_, rfl⟩
  have hin : InR w g w1 := ⟨_, List.length_replicate .., by rw [hg]; exact hown, hB⟩
  rw [← hg]
  have hgw : w.heap.size ≤ g := by omega
  clear hown hmk hg hB
  clear hn
  go_loopw [4] (fun i wr => ∃ k : Nat, k ≤ n ∧ k ≤ 8 ∧ i = .int .i64 k ∧ InR w g wr) (fun i _ => 8 - (intOf i).toNat)
  case atStart => exact ⟨0, by omega, by omega, rfl, hin⟩
  case round =>
    clear hin
    obtain ⟨k, hk, hk8, rfl, hin⟩ := hrel
    by_cases hlt : k < n ∧ k < 8
    · obtain ⟨hlt1, hlt2⟩ := hlt
      have hltI : (k : Int) < (n : Int) := by omega
      have hlt8 : (k : Int) < 8 := by omega
      obtain ⟨gb, off, x, rfl, hgb, hx, c1⟩ := hr.num (i := k) hlt1
      clear hx
      have hgg : gb ≠ g := by omega
      have c1' : wr.cell? ⟨gb, off + k, none⟩ = some (.int .i64 x) := by obtain ⟨l, hl, hown, hB⟩ := hin; exact (hB.cell (p := ⟨gb, off + k, none⟩) hgb).trans c1
      go_wp2_with (go_at_call 65; refine (Mod_any _ _ _ (by omega) (by omega)).mono ?_; rintro e wx ⟨rfl, rfl⟩)
      have hx0 : 0 ≤ x % 64 := by omega
      have hx1 : x % 64 < 64 := by omega
      generalize x % 64 = y at *
      go_loopw [6] (fun i wr => ∃ p : Nat, (p : Int) ≤ 64 ∧ i = .int .i64 p ∧ InR w g wr) (fun i _ => 64 - (intOf i).toNat)
      case atStart =>
        obtain ⟨p, rfl⟩ : ∃ p : Nat, y = p := ⟨y.toNat, by omega⟩
        exact ⟨p, by omega, rfl, hin⟩
      case round =>
        clear hin c1'
        obtain ⟨p, hp, rfl, hin⟩ := hrel
        have c1' : wr.cell? ⟨gb, off + k, none⟩ = some (.int .i64 x) := by obtain ⟨l, hl, hown, hB⟩ := hin; exact (hB.cell (p := ⟨gb, off + k, none⟩) hgb).trans c1
        by_cases hp64 : p < 64
        · have hpI : (p : Int) < 64 := by omega
          obtain ⟨l, hl, hown, hB⟩ := hin
          have hcw := own_boolAt hown (i := p) hp64
          have hfw := hown.frozenAt p
          generalize l.getD p false = u at hcw
          have hst := own_putB hown p (!u)
          have hB2 := hB.setCell (p := ⟨g, p, none⟩) (by show w.heap.size ≤ g; omega) (.bool (!u))
          by_cases hle : (p : Int) ≤ y + wrap64 (x.tdiv 64) % 9
          · go_wp2_with (go_at_call 65; refine (Mod_any _ _ _ (by omega) (by omega)).mono ?_; rintro e wx ⟨rfl, rfl⟩)
            go_roundw
            case rel => exact ⟨p + 1, by omega, by go_num, _, by rw [List.length_set]; exact hl, hst, hB2⟩
            case measure => simp [intOf]; omega
          · go_wp2_with (go_at_call 65; refine (Mod_any _ _ _ (by omega) (by omega)).mono ?_; rintro e wx ⟨rfl, rfl⟩)
            go_roundw
            case rel => exact ⟨k + 1, by omega, by omega, by go_num, l, hl, hown, hB⟩
            case measure => simp [intOf]; omega
        · have hpI : ¬ (p : Int) < 64 := by omega
          go_wp2_with (go_at_call 65; refine (Mod_any _ _ _ (by omega) (by omega)).mono ?_; rintro e wx ⟨rfl, rfl⟩)
          all_goals
            go_roundw
            case rel => exact ⟨k + 1, by omega, by omega, by go_num, hin⟩
            case measure => simp [intOf]; omega
    · obtain ⟨l, hl, hownI, hBS⟩ := hin
      obtain ⟨f, rfl⟩ := any_bl l hl
      have hr := Rd.own hownI
      have HF : Hid (∀ p, f p = (f p == true)) := Lib.hid (fun p => by simp)
      obtain ⟨F, hF⟩ : ∃ F, F = f := ⟨_, rfl⟩
      have HF : Hid (∀ p, F p = (f p == true)) := Lib.hid (fun p => by rw [hF]; simp)
      clear hF
      by_cases hkn : k < n
      · have hkI : (k : Int) < (n : Int) := by omega
        have hk8 : ¬ (k : Int) < 8 := by omega
        go_wp2_with fail
        generalize wr = wS at *
        clear hownI
        generalize some (⟨g, 0, none⟩ : Addr) = Ai at *
        clear hlt hk hk8 hkI hkn
        go_loopw [7, 8] (RgsR wS F) (fun _ i _ => 64 - (intOf i).toNat)
        case atStart => exact ⟨0, by omega, rfl, World.ownsRow_nil _ _ _ _, Below.refl _ _⟩
        case round =>
          obtain ⟨k, hk, rfl, hown, hB⟩ := hrel
          have hkl := regK_len F k
          by_cases hlt : k < 64
          · obtain ⟨b, off, rfl, hb, hc⟩ := hr.bool (i := k) hlt
            rw [bl_get f k hlt] at hc
            have hcw := (hB.cell (p := ⟨b, off + k, none⟩) hb).trans hc
            have hkI : (k : Int) < 64 := by omega
            have HFk := HF.out k
            have Hno := Lib.hid (regK_no F k)
            have Hnew := Lib.hid (regK_new F k)
            rcases hF : F k with _ | _
            · rw [hF] at HFk
              have hu : f k = false := by revert HFk; cases f k <;> simp
              rw [hu] at hcw
              have Hr := Lib.hid (Hno.out hF)
              clear HFk Hno Hnew hF hu hc
              go_wp2_with fail
              go_roundw
              case rel => first | exact ⟨k + 1, by omega, by go_num, by rw [Hr.out]; exact hown, hB⟩ | ((repeat apply Exists.intro); exact ⟨⟨k + 1, by omega, by go_num, by rw [Hr.out]; exact hown, hB⟩, rfl⟩)
              case measure => simp [intOf]; omega
            · rw [hF] at HFk
              have hu : f k = true := by revert HFk; cases f k <;> simp
              rw [hu] at hcw
              by_cases hk0 : k = 0
              · have HN := Lib.hid (Hnew.out hF (.inl hk0))
                have Hk0 := Lib.hid hk0
                clear HFk Hno Hnew hF hu hc
                subst hk0
                simp only [Nat.add_zero] at hcw
                rw [show ((0 : Nat) : Int) = 0 from rfl] at HN
                go_wp2_with (at_builtin; refine wpList_append_own _ rfl _ _ 22 rfl wS.heap.size 81 i0 (.agg #[.int .i64 0, .int .i64 0]) 2 16 Tryd.underlying22 hi hz0 hz1 hz2 rfl (by decide) _ _ _ rfl (hown.alloc _) ⟨wr.heap.size, 0, none⟩ 1 1 [.int .i64 0, .int .i64 0] rfl rfl (cell_two_new _ _ _ _) (by simp [Value.oneCell']) (by simp only [maxLen]; omega) (by omega) (by have := hB.size; simp; omega) ?_; intro v' w3 hown' hgrow _)
                have hown2 : w3.ownsRow wS.heap.size 81 2 v' (regK F (0 + 1)).length (flat2 .i64 (regK F (0 + 1))) := by
                  rw [HN.out, flat2_append, List.length_append]; exact hown'
                have hB3 : Below wS.heap.size wS w3 := (hB.alloc hB.size _).grown hgrow (by have := hB.size; simp; omega) (fun q e => (hown.lt q e).1)
                clear hown' hgrow hown hB
                go_roundw
                case rel => first | exact ⟨0 + 1, by omega, by go_num, hown2, hB3⟩ | ((repeat apply Exists.intro); exact ⟨⟨0 + 1, by omega, by go_num, hown2, hB3⟩, rfl⟩)
                case measure => first | (simp [intOf]; done) | (simp [intOf]; omega)
              · obtain ⟨q, rfl⟩ : ∃ q, k = q + 1 := ⟨k - 1, by omega⟩
                obtain ⟨b', off', he, hb', hc'⟩ := hr.bool (i := q) (by omega)
                injection he with he
                injection he with hq1 hq2
                subst hq1 hq2
                rw [bl_get f q (by omega)] at hc'
                have hcw' := (hB.cell (p := ⟨b, off + q, none⟩) hb).trans hc'
                have HFq := HF.out q
                rw [Nat.add_sub_cancel] at Hnew
                rcases hF' : F q with _ | _
                · rw [hF'] at HFq
                  have hu' : f q = false := by revert HFq; cases f q <;> simp
                  rw [hu'] at hcw'
                  have HN := Lib.hid (Hnew.out hF (.inr hF'))
                  rw [show ((q + 1 : Nat) : Int) = (q : Int) + 1 by omega] at HN
                  clear HFk Hno Hnew hF hu hc HFq hF' hu' hc'
                  go_wp2_with (at_builtin; refine wpList_append_own _ rfl _ _ 22 rfl wS.heap.size 81 i0 (.agg #[.int .i64 0, .int .i64 0]) 2 16 Tryd.underlying22 hi hz0 hz1 hz2 rfl (by decide) _ _ _ rfl (hown.alloc _) ⟨wr.heap.size, 0, none⟩ 1 1 [.int .i64 ((q : Int) + 1), .int .i64 ((q : Int) + 1)] rfl rfl (cell_two_new _ _ _ _) (by simp [Value.oneCell']) (by simp only [maxLen]; omega) (by omega) (by have := hB.size; simp; omega) ?_; intro v' w3 hown' hgrow _)
                  have hown2 : w3.ownsRow wS.heap.size 81 2 v' (regK F (q + 1 + 1)).length (flat2 .i64 (regK F (q + 1 + 1))) := by
                    rw [HN.out, flat2_append, List.length_append]; exact hown'
                  have hB3 : Below wS.heap.size wS w3 := (hB.alloc hB.size _).grown hgrow (by have := hB.size; simp; omega) (fun q e => (hown.lt q e).1)
                  clear hown' hgrow hown hB
                  go_roundw
                  case rel => first | exact ⟨q + 1 + 1, by omega, by go_num, hown2, hB3⟩ | ((repeat apply Exists.intro); exact ⟨⟨q + 1 + 1, by omega, by go_num, hown2, hB3⟩, rfl⟩)
                  case measure => simp [intOf]; omega
                · rw [hF'] at HFq
                  have hu' : f q = true := by revert HFq; cases f q <;> simp
                  rw [hu'] at hcw'
                  obtain ⟨l, a, hla⟩ := (regK_ok F (q + 1) (by omega)).2.2.2.1 ⟨by omega, by simpa using hF'⟩
                  have HN := Lib.hid (regK_on F q l a _ hF hF' hla)
                  rw [hla] at hown hkl
                  rw [show ((q + 1 : Nat) : Int) = (q : Int) + 1 by omega] at HN
                  have hnn : (l ++ [(a, ((q + 1 : Nat) : Int) - 1)]).length = l.length + 1 := by simp
                  rw [hnn] at hown hkl
                  obtain ⟨g, cap, rfl, hg1, hg2⟩ := hown.form (by omega)
                  have hcs : wr.cell? ⟨g, l.length * 2 + 1, none⟩ = some (.int .i64 (((q + 1 : Nat) : Int) - 1)) := by
                    rw [hown.cellAt _ (by omega)]; exact flat2_lastL _ _ _ _
                  have hfr := hown.frozenAt (l.length * 2 + 1)
                  have hst := (hown.stored (l.length * 2 + 1) (.int .i64 ((q : Int) + 1))).1
                  rw [flat2_setL] at hst
                  generalize (((q + 1 : Nat) : Int) - 1) = z at hcs
                  have hgne : ¬ b = g := by omega
                  clear HFk Hno Hnew hF hu hc HFq hF' hu' hc' hla hnn
                  go_wp2_with fail
                  have hst2 : (wr.setCell ⟨g, l.length * 2 + 1, none⟩ (.int .i64 ((q : Int) + 1))).ownsRow wS.heap.size 81 2 (.slice (some ⟨g, 0, none⟩) (l.length + 1) cap) (regK F (q + 2)).length (flat2 .i64 (regK F (q + 2))) := by
                    rw [HN.out, List.length_append]; exact hst
                  have hB3 := hB.setCell (p := ⟨g, l.length * 2 + 1, none⟩) hg1 (.int .i64 ((q : Int) + 1))
                  go_roundw
                  case rel => first | exact ⟨q + 2, by omega, by go_num, hst2, hB3⟩ | ((repeat apply Exists.intro); exact ⟨⟨q + 2, by omega, by go_num, hst2, hB3⟩, rfl⟩)
                  case measure => simp [intOf]; omega
          · obtain rfl : k = 64 := by omega
            go_wp2_with fail
            go_ret
            exact ⟨F, _, rfl, own_less hown hBS.size, hBS.trans (hB.mono hBS.size)⟩
      · have hkI : ¬ (k : Int) < (n : Int) := by omega
        go_wp2_with fail
        generalize wr = wS at *
        clear hownI
        generalize some (⟨g, 0, none⟩ : Addr) = Ai at *
        clear hlt hk hk8 hkI hkn
        go_loopw [7, 8] (RgsR wS F) (fun _ i _ => 64 - (intOf i).toNat)
        case atStart => exact ⟨0, by omega, rfl, World.ownsRow_nil _ _ _ _, Below.refl _ _⟩
        case round =>
          obtain ⟨k, hk, rfl, hown, hB⟩ := hrel
          have hkl := regK_len F k
          by_cases hlt : k < 64
          · obtain ⟨b, off, rfl, hb, hc⟩ := hr.bool (i := k) hlt
            rw [bl_get f k hlt] at hc
            have hcw := (hB.cell (p := ⟨b, off + k, none⟩) hb).trans hc
            have hkI : (k : Int) < 64 := by omega
            have HFk := HF.out k
            have Hno := Lib.hid (regK_no F k)
            have Hnew := Lib.hid (regK_new F k)
            rcases hF : F k with _ | _
            · rw [hF] at HFk
              have hu : f k = false := by revert HFk; cases f k <;> simp
              rw [hu] at hcw
              have Hr := Lib.hid (Hno.out hF)
              clear HFk Hno Hnew hF hu hc
              go_wp2_with fail
              go_roundw
              case rel => first | exact ⟨k + 1, by omega, by go_num, by rw [Hr.out]; exact hown, hB⟩ | ((repeat apply Exists.intro); exact ⟨⟨k + 1, by omega, by go_num, by rw [Hr.out]; exact hown, hB⟩, rfl⟩)
              case measure => simp [intOf]; omega
            · rw [hF] at HFk
              have hu : f k = true := by revert HFk; cases f k <;> simp
              rw [hu] at hcw
              by_cases hk0 : k = 0
              · have HN := Lib.hid (Hnew.out hF (.inl hk0))
                have Hk0 := Lib.hid hk0
                clear HFk Hno Hnew hF hu hc
                subst hk0
                simp only [Nat.add_zero] at hcw
                rw [show ((0 : Nat) : Int) = 0 from rfl] at HN
                go_wp2_with (at_builtin; refine wpList_append_own _ rfl _ _ 22 rfl wS.heap.size 81 i0 (.agg #[.int .i64 0, .int .i64 0]) 2 16 Tryd.underlying22 hi hz0 hz1 hz2 rfl (by decide) _ _ _ rfl (hown.alloc _) ⟨wr.heap.size, 0, none⟩ 1 1 [.int .i64 0, .int .i64 0] rfl rfl (cell_two_new _ _ _ _) (by simp [Value.oneCell']) (by simp only [maxLen]; omega) (by omega) (by have := hB.size; simp; omega) ?_; intro v' w3 hown' hgrow _)
                have hown2 : w3.ownsRow wS.heap.size 81 2 v' (regK F (0 + 1)).length (flat2 .i64 (regK F (0 + 1))) := by
                  rw [HN.out, flat2_append, List.length_append]; exact hown'
                have hB3 : Below wS.heap.size wS w3 := (hB.alloc hB.size _).grown hgrow (by have := hB.size; simp; omega) (fun q e => (hown.lt q e).1)
                clear hown' hgrow hown hB
                go_roundw
                case rel => first | exact ⟨0 + 1, by omega, by go_num, hown2, hB3⟩ | ((repeat apply Exists.intro); exact ⟨⟨0 + 1, by omega, by go_num, hown2, hB3⟩, rfl⟩)
                case measure => first | (simp [intOf]; done) | (simp [intOf]; omega)
              · obtain ⟨q, rfl⟩ : ∃ q, k = q + 1 := ⟨k - 1, by omega⟩
                obtain ⟨b', off', he, hb', hc'⟩ := hr.bool (i := q) (by omega)
                injection he with he
                injection he with hq1 hq2
                subst hq1 hq2
                rw [bl_get f q (by omega)] at hc'
                have hcw' := (hB.cell (p := ⟨b, off + q, none⟩) hb).trans hc'
                have HFq := HF.out q
                rw [Nat.add_sub_cancel] at Hnew
                rcases hF' : F q with _ | _
                · rw [hF'] at HFq
                  have hu' : f q = false := by revert HFq; cases f q <;> simp
                  rw [hu'] at hcw'
                  have HN := Lib.hid (Hnew.out hF (.inr hF'))
                  rw [show ((q + 1 : Nat) : Int) = (q : Int) + 1 by omega] at HN
                  clear HFk Hno Hnew hF hu hc HFq hF' hu' hc'
                  go_wp2_with (at_builtin; refine wpList_append_own _ rfl _ _ 22 rfl wS.heap.size 81 i0 (.agg #[.int .i64 0, .int .i64 0]) 2 16 Tryd.underlying22 hi hz0 hz1 hz2 rfl (by decide) _ _ _ rfl (hown.alloc _) ⟨wr.heap.size, 0, none⟩ 1 1 [.int .i64 ((q : Int) + 1), .int .i64 ((q : Int) + 1)] rfl rfl (cell_two_new _ _ _ _) (by simp [Value.oneCell']) (by simp only [maxLen]; omega) (by omega) (by have := hB.size; simp; omega) ?_; intro v' w3 hown' hgrow _)
                  have hown2 : w3.ownsRow wS.heap.size 81 2 v' (regK F (q + 1 + 1)).length (flat2 .i64 (regK F (q + 1 + 1))) := by
                    rw [HN.out, flat2_append, List.length_append]; exact hown'
                  have hB3 : Below wS.heap.size wS w3 := (hB.alloc hB.size _).grown hgrow (by have := hB.size; simp; omega) (fun q e => (hown.lt q e).1)
                  clear hown' hgrow hown hB
                  go_roundw
                  case rel => first | exact ⟨q + 1 + 1, by omega, by go_num, hown2, hB3⟩ | ((repeat apply Exists.intro); exact ⟨⟨q + 1 + 1, by omega, by go_num, hown2, hB3⟩, rfl⟩)
                  case measure => simp [intOf]; omega
                · rw [hF'] at HFq
                  have hu' : f q = true := by revert HFq; cases f q <;> simp
                  rw [hu'] at hcw'
                  obtain ⟨l, a, hla⟩ := (regK_ok F (q + 1) (by omega)).2.2.2.1 ⟨by omega, by simpa using hF'⟩
                  have HN := Lib.hid (regK_on F q l a _ hF hF' hla)
                  rw [hla] at hown hkl
                  rw [show ((q + 1 : Nat) : Int) = (q : Int) + 1 by omega] at HN
                  have hnn : (l ++ [(a, ((q + 1 : Nat) : Int) - 1)]).length = l.length + 1 := by simp
                  rw [hnn] at hown hkl
                  obtain ⟨g, cap, rfl, hg1, hg2⟩ := hown.form (by omega)
                  have hcs : wr.cell? ⟨g, l.length * 2 + 1, none⟩ = some (.int .i64 (((q + 1 : Nat) : Int) - 1)) := by
                    rw [hown.cellAt _ (by omega)]; exact flat2_lastL _ _ _ _
                  have hfr := hown.frozenAt (l.length * 2 + 1)
                  have hst := (hown.stored (l.length * 2 + 1) (.int .i64 ((q : Int) + 1))).1
                  rw [flat2_setL] at hst
                  generalize (((q + 1 : Nat) : Int) - 1) = z at hcs
                  have hgne : ¬ b = g := by omega
                  clear HFk Hno Hnew hF hu hc HFq hF' hu' hc' hla hnn
                  go_wp2_with fail
                  have hst2 : (wr.setCell ⟨g, l.length * 2 + 1, none⟩ (.int .i64 ((q : Int) + 1))).ownsRow wS.heap.size 81 2 (.slice (some ⟨g, 0, none⟩) (l.length + 1) cap) (regK F (q + 2)).length (flat2 .i64 (regK F (q + 2))) := by
                    rw [HN.out, List.length_append]; exact hst
                  have hB3 := hB.setCell (p := ⟨g, l.length * 2 + 1, none⟩) hg1 (.int .i64 ((q : Int) + 1))
                  go_roundw
                  case rel => first | exact ⟨q + 2, by omega, by go_num, hst2, hB3⟩ | ((repeat apply Exists.intro); exact ⟨⟨q + 2, by omega, by go_num, hst2, hB3⟩, rfl⟩)
                  case measure => simp [intOf]; omega
          · obtain rfl : k = 64 := by omega
            go_wp2_with fail
            go_ret
            exact ⟨F, _, rfl, own_less hown hBS.size, hBS.trans (hB.mono hBS.size)⟩
end Go.Proofs.YtmjahjdnfijpkaaDoor
