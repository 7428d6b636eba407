/- SpaceSides returns true, whatever the numbers. -/
import Derived.Test.YtpkgfkhaiifooaaDoorMe27
import Derived.Test.YtpkgfkhaiifooaaDoorSd27
import Derived.Deep.RegionHeld3
import Derived.Deep.DeepCutAuto
namespace Go.Proofs.YtpkgfkhaiifooaaDoor
open Go Go.Proofs Go.RowKit
set_option linter.unusedSimpArgs false
set_option linter.unusedVariables false
set_option maxRecDepth 100000

set_option maxHeartbeats 32000000 in
theorem SpaceSides_true (nums more : List Int) (A M : Option Addr) (c cm : Nat) (page count : Int) (w : World) (hr : Rd w 1 A nums.length (iw nums)) (hn : nums.length ≤ maxLen) (hM : Rd w 1 M more.length (iw more)) (hL : LayOK w) :
    Calls Tryd.prog 3 #[.slice A nums.length c, .slice M more.length cm, .int .i64 page, .int .i64 count] w fun e w' => e = .returned (.bool true) ∧ Below w.heap.size w w' := by
  obtain ⟨p, hp⟩ : ∃ p : Nat, page % 64 = p := ⟨(page % 64).toNat, by have := Int.emod_nonneg page (show (64 : Int) ≠ 0 by omega); omega⟩
  have hp64 : p < 64 := by have := Int.emod_lt_of_pos page (show (0 : Int) < 64 by omega); omega
  obtain ⟨ct, hct⟩ : ∃ ct : Int, count % 4 = ct := ⟨_, rfl⟩
  have hc0 : 0 ≤ ct := by have := Int.emod_nonneg count (show (4 : Int) ≠ 0 by omega); omega
  have hc1 : ct < 4 := by have := Int.emod_lt_of_pos count (show (0 : Int) < 4 by omega); omega
  have HMp := Lib.hid (fun W => Mod_any page 64 W (by omega) (by omega))
  have HMc := Lib.hid (fun W => Mod_any count 4 W (by omega) (by omega))
  rw [hp] at HMp
  rw [hct] at HMc
  have HMd := Lib.hid (made27_any nums more A M c cm w hr hn hM hL)
  have hB0 := Below.refl w.heap.size w
  clear hp hct hr hn hM
  go_enter Tryd.func3, Tryd.ntmps3
  go_wp2_with fail
  refine HMd.out.mono ?_
  rintro e w1 ⟨rs, es, v1, rfl, hE, hs, hrl, hv, hb1⟩
  replace hL := hL.below hb1
  replace hB0 := bnext hB0 hb1
  obtain ⟨A1, c1, L1, cl1, B1, d1, rfl, _, _, _, _⟩ := id hv
  simp only [spcV] at hv ⊢
  have hcs := sides_cases hE hs p hp64 ct
  have hA1 : accR (rs, 200, mL27 8, es) p false ct = (finR (rs, 200, mL27 8, es) p false ct, 0) := by
    unfold accR; rw [if_neg (by simpa using hE), if_neg (by omega), Int.toNat_natCast]
  have hA2 : accR (rs, 200, mL27 8, es) p true ct = (finR (rs, 200, mL27 8, es) p true ct, 0) := by
    unfold accR; rw [if_neg (by simpa using hE), if_neg (by omega), Int.toNat_natCast]
  have HA1 := Lib.hid (fun v W h hl => Access_any rs 200 (mL27 8) es v p false ct W h (by omega) hs hl)
  have HA2 := Lib.hid (fun v W h hl => Access_any rs 200 (mL27 8) es v p true ct W h (by omega) hs hl)
  have HSt := Lib.hid (fun v W h hl => Set_any rs 200 (mL27 8) es v p 1 5 true false false W h (by omega) hs hl)
  rw [hA1] at HA1
  rw [hA2] at HA2
  have hA3 : ∀ es2 : List Nat, spcE (rs, 200, mL27 8, es2) = 0 → ∀ b : Bool, finR (rs, 200, mL27 8, es2) p b ct = 3 → accR (rs, 200, mL27 8, es2) p b ct = (3, 0) := fun es2 h2 b h3 => by
    unfold accR; rw [if_neg (by simpa using h2), if_neg (by omega), Int.toNat_natCast, h3]
  have HA3 := Lib.hid hA3
  clear hA1 hA2 hA3 hE
  generalize finR (rs, 200, mL27 8, es) p false ct = a at *
  generalize finR (rs, 200, mL27 8, es) p true ct = b at *
  have Hr := Lib.hid hrl
  have HE1 : Hid (True) := Lib.hid trivial
  clear hc0 hc1 hrl hs
  go_upto_region 2 with fail
  have kX := Bk.new w1 #[.slice A1 rs.length c1, .int .i64 200, .slice L1 (mL27 8).length cl1, .slice B1 es.length d1] 28
  have hcN := balloc (Below.refl _ w1) (.cells #[.slice A1 rs.length c1, .int .i64 200, .slice L1 (mL27 8).length cl1, .slice B1 es.length d1] 28)
  generalize w1.alloc (.cells #[.slice A1 rs.length c1, .int .i64 200, .slice L1 (mL27 8).length cl1, .slice B1 es.length d1] 28) = w2 at *
  replace hv := hv.to hcN
  replace hL := hL.below hcN
  replace hB0 := bnext hB0 hcN
  clear hcN hb1
  obtain ⟨cX, fX, lX⟩ := kX.facts
  go_wp2_with fail
  refine (HMp.out _).mono ?_
  rintro e wm ⟨rfl, rfl⟩
  go_wp2_with fail
  refine (HMc.out _).mono ?_
  rintro e wm ⟨rfl, rfl⟩
  go_wp2_with fail
  refine (HA1.out _ _ hv hL).mono ?_
  rintro e w3 ⟨rfl, hb3⟩
  replace hv := hv.to hb3
  replace hL := hL.below hb3
  replace hB0 := bnext hB0 hb3
  replace kX := kX.to hb3
  clear hb3 cX fX lX
  obtain ⟨cX, fX, lX⟩ := kX.facts
  go_wp2_with fail
  refine (HA2.out _ _ hv hL).mono ?_
  rintro e w4 ⟨rfl, hb4⟩
  replace hv := hv.to hb4
  replace hL := hL.below hb4
  replace hB0 := bnext hB0 hb4
  replace kX := kX.to hb4
  clear hb4 cX fX lX HA1 HA2
  -- CASES
  rcases hS : setR (rs, 200, mL27 8, es) p 1 5 true false false with ⟨⟨rs', r', ls', es'⟩, er⟩
  rw [hS] at hcs HSt
  simp only at hcs
  have HS := Lib.hid hS
  clear hS
  have x0 := kX.cell 0
  have x1 := kX.cell 1
  have x2 := kX.cell 2
  have x3 := kX.cell 3
  simp at x0 x1 x2 x3
  have hpx := kX.lt
  have hwx : w4.heap.size = w4.heap.size := rfl
  have HCS := Lib.hid hcs
  clear hcs
  have hcut9 : ∀ (Q : Prop), Q → Q := fun _ h => h
  rcases HCS.out with ⟨rfl, rfl, rfl⟩ | ⟨rfl, rfl, rfl⟩ | ⟨hab, x, he, hE2, hs2, hf1, hf2⟩
  · go_upto_region 9 with fail
    go_cut [14, 17] (fun sa sb wx => ∃ p2, sa = .int .i64 6 ∧ sb = .pointer (some ⟨p2, 0, none⟩) ∧ SpX wx p2 (rs', r', ls', es') w4.heap.size ∧ Below w4.heap.size w4 wx)
    case first =>
      go_region_held3 (fun w' => w'.cell? ⟨w1.heap.size, 0, none⟩ = some (.slice A1 rs.length c1) ∧ w'.cell? ⟨w1.heap.size, 1, none⟩ = some (.int .i64 200) ∧ w'.cell? ⟨w1.heap.size, 2, none⟩ = some (.slice L1 (mL27 8).length cl1) ∧ w'.cell? ⟨w1.heap.size, 3, none⟩ = some (.slice B1 es.length d1))
        (refine ⟨?_, ?_, ?_, ?_⟩ <;> (repeat (with_reducible first | exact x0 | exact x1 | exact x2 | exact x3 | refine cell_drew ?_ | refine cell_later hbP ?_ | refine cell_later hbQ ?_ | refine cell_alloc _ ?_ | refine cell_far ?_ (by show _ ≠ _; simp only; omega) _)))
        (first
          | (go_at_call 12
             have _h := hbP
             refine (HSt.out _ _ (by repeat (with_reducible first | exact hv | refine SpV.to ?_ hbP | refine SpV.to ?_ (below_drew (Below.refl _ _)) | refine SpV.to ?_ (balloc (Below.refl _ _) _))) (by repeat (with_reducible first | exact hL | refine LayOK.below ?_ hbP | refine LayOK.drew ?_ | refine LayOK.alloc ?_ _))).mono ?_
             rintro e wQ ⟨vQ, rfl, hvQ, hlQ, hbQ⟩
             obtain ⟨AQ, cQ, LQ, clQ, BQ, dQ, rfl, _, _, _, _⟩ := id hvQ
             simp only [spcV] at hvQ hlQ ⊢
             have hsQ : w4.heap.size ≤ wQ.heap.size := Nat.le_trans hsP (Nat.le_trans (by (try simp only [World.size_alloc, World.size_drew]); omega) hbQ.size)
             first
                 | (refine have_to (g := w4.heap.size) (cs := #[.slice none 0 0, .int .i64 0, .slice none 0 0, .slice none 0 0]) (t := 28) hbQ ?_ ?_
                    · (repeat (with_reducible first | exact Bk.newd _ _ _ | exact Bk.newda _ _ _ _ | exact Bk.newad _ _ _ _ | exact Bk.newa _ _ _ _ | exact Bk.new _ _ _ | refine Bk.to ?_ hbP | refine Bk.alloc ?_ _ | refine Bk.drew ?_))
                    intro hgN kN
                    obtain ⟨cN, fN, lN⟩ := kN.facts)
                 | (refine have_to (g := wP.heap.size) (cs := #[.slice none 0 0, .int .i64 0, .slice none 0 0, .slice none 0 0]) (t := 28) hbQ ?_ ?_
                    · (repeat (with_reducible first | exact Bk.newd _ _ _ | exact Bk.newda _ _ _ _ | exact Bk.newad _ _ _ _ | exact Bk.newa _ _ _ _ | exact Bk.new _ _ _ | refine Bk.to ?_ hbP | refine Bk.alloc ?_ _ | refine Bk.drew ?_))
                    intro hgN kN
                    obtain ⟨cN, fN, lN⟩ := kN.facts)
                 | skip)
          | (go_at_call 13
             refine (page5c_any false _).mono ?_
             rintro e wP ⟨rfl, hbP⟩
             have hsP : w4.heap.size ≤ wP.heap.size := Nat.le_trans (by (try simp only [World.size_alloc, World.size_drew]); omega) hbP.size))
      all_goals
        have hbQw : Below w4.heap.size w4 wQ := by repeat (with_reducible first | exact Below.refl _ _ | refine bnext ?_ hbQ | refine bnext ?_ hbP | refine below_drew ?_ | refine balloc ?_ _)
        go_wp2_with fail
        go_meet
        first
          | exact ⟨_, rfl, rfl, ⟨AQ, cQ, LQ, clQ, BQ, dQ, kN.put4 _ _ _ _, spv_put4 hvQ hlQ hgN _ _ _ _, hlQ.mono (by (try simp only [World.size_alloc, World.size_drew]); omega)⟩, below_put4 hbQw (by omega) _ _ _ _⟩
          | exact ⟨_, rfl, rfl, ⟨AQ, cQ, LQ, clQ, BQ, dQ, Bk.new _ _ _, hvQ.to (balloc (Below.refl _ _) _), hlQ.mono (by (try simp only [World.size_alloc, World.size_drew]); omega)⟩, balloc hbQw _⟩
    case rest =>
      obtain ⟨p2, rfl, rfl, ⟨A7, c7, L7, cl7, B7, d7, kY, hvY, hlY⟩, hcC⟩ := hcut
      simp only at kY hvY hlY
      replace hL := hL.below hcC
      replace hB0 := bnext hB0 hcC
      clear hcC x0 x1 x2 x3
      go_wp2_with fail
      refine (awake27_any _ hL).mono ?_
      rintro e wa ⟨rfl, hba⟩
      go_wp2_with fail
      go_ret
      exact ⟨rfl, bnext hB0 hba⟩
  · go_upto_region 9 with fail
    go_cut [14, 17] (fun sa sb wx => ∃ p2, sa = .int .i64 9 ∧ sb = .pointer (some ⟨p2, 0, none⟩) ∧ SpX wx p2 (rs', r', ls', es') w4.heap.size ∧ Below w4.heap.size w4 wx)
    case first =>
      go_region_held3 (fun w' => w'.cell? ⟨w1.heap.size, 0, none⟩ = some (.slice A1 rs.length c1) ∧ w'.cell? ⟨w1.heap.size, 1, none⟩ = some (.int .i64 200) ∧ w'.cell? ⟨w1.heap.size, 2, none⟩ = some (.slice L1 (mL27 8).length cl1) ∧ w'.cell? ⟨w1.heap.size, 3, none⟩ = some (.slice B1 es.length d1))
        (refine ⟨?_, ?_, ?_, ?_⟩ <;> (repeat (with_reducible first | exact x0 | exact x1 | exact x2 | exact x3 | refine cell_drew ?_ | refine cell_later hbP ?_ | refine cell_later hbQ ?_ | refine cell_alloc _ ?_ | refine cell_far ?_ (by show _ ≠ _; simp only; omega) _)))
        (first
          | (go_at_call 12
             have _h := hbP
             refine (HSt.out _ _ (by repeat (with_reducible first | exact hv | refine SpV.to ?_ hbP | refine SpV.to ?_ (below_drew (Below.refl _ _)) | refine SpV.to ?_ (balloc (Below.refl _ _) _))) (by repeat (with_reducible first | exact hL | refine LayOK.below ?_ hbP | refine LayOK.drew ?_ | refine LayOK.alloc ?_ _))).mono ?_
             rintro e wQ ⟨vQ, rfl, hvQ, hlQ, hbQ⟩
             obtain ⟨AQ, cQ, LQ, clQ, BQ, dQ, rfl, _, _, _, _⟩ := id hvQ
             simp only [spcV] at hvQ hlQ ⊢
             have hsQ : w4.heap.size ≤ wQ.heap.size := Nat.le_trans hsP (Nat.le_trans (by (try simp only [World.size_alloc, World.size_drew]); omega) hbQ.size)
             first
                 | (refine have_to (g := w4.heap.size) (cs := #[.slice none 0 0, .int .i64 0, .slice none 0 0, .slice none 0 0]) (t := 28) hbQ ?_ ?_
                    · (repeat (with_reducible first | exact Bk.newd _ _ _ | exact Bk.newda _ _ _ _ | exact Bk.newad _ _ _ _ | exact Bk.newa _ _ _ _ | exact Bk.new _ _ _ | refine Bk.to ?_ hbP | refine Bk.alloc ?_ _ | refine Bk.drew ?_))
                    intro hgN kN
                    obtain ⟨cN, fN, lN⟩ := kN.facts)
                 | (refine have_to (g := wP.heap.size) (cs := #[.slice none 0 0, .int .i64 0, .slice none 0 0, .slice none 0 0]) (t := 28) hbQ ?_ ?_
                    · (repeat (with_reducible first | exact Bk.newd _ _ _ | exact Bk.newda _ _ _ _ | exact Bk.newad _ _ _ _ | exact Bk.newa _ _ _ _ | exact Bk.new _ _ _ | refine Bk.to ?_ hbP | refine Bk.alloc ?_ _ | refine Bk.drew ?_))
                    intro hgN kN
                    obtain ⟨cN, fN, lN⟩ := kN.facts)
                 | skip)
          | (go_at_call 13
             refine (page5c_any false _).mono ?_
             rintro e wP ⟨rfl, hbP⟩
             have hsP : w4.heap.size ≤ wP.heap.size := Nat.le_trans (by (try simp only [World.size_alloc, World.size_drew]); omega) hbP.size))
      all_goals
        have hbQw : Below w4.heap.size w4 wQ := by repeat (with_reducible first | exact Below.refl _ _ | refine bnext ?_ hbQ | refine bnext ?_ hbP | refine below_drew ?_ | refine balloc ?_ _)
        go_wp2_with fail
        go_meet
        first
          | exact ⟨_, rfl, rfl, ⟨AQ, cQ, LQ, clQ, BQ, dQ, kN.put4 _ _ _ _, spv_put4 hvQ hlQ hgN _ _ _ _, hlQ.mono (by (try simp only [World.size_alloc, World.size_drew]); omega)⟩, below_put4 hbQw (by omega) _ _ _ _⟩
          | exact ⟨_, rfl, rfl, ⟨AQ, cQ, LQ, clQ, BQ, dQ, Bk.new _ _ _, hvQ.to (balloc (Below.refl _ _) _), hlQ.mono (by (try simp only [World.size_alloc, World.size_drew]); omega)⟩, balloc hbQw _⟩
    case rest =>
      obtain ⟨p2, rfl, rfl, ⟨A7, c7, L7, cl7, B7, d7, kY, hvY, hlY⟩, hcC⟩ := hcut
      simp only at kY hvY hlY
      replace hL := hL.below hcC
      replace hB0 := bnext hB0 hcC
      clear hcC x0 x1 x2 x3
      go_wp2_with fail
      refine (awake27_any _ hL).mono ?_
      rintro e wa ⟨rfl, hba⟩
      go_wp2_with fail
      go_ret
      exact ⟨rfl, bnext hB0 hba⟩
  · injection he with he1 he2
    simp only [Prod.mk.injEq] at he1
    obtain ⟨rfl, rfl, rfl, rfl⟩ := he1
    subst he2
    have HCk := Lib.hid (fun v W h1 h2 => spCheck_any rs' 200 (mL27 8) (es.set p x) v W h1 (by have := Hr.out; omega) hs2 h2)
    rw [hE2] at HCk
    have HF1 := Lib.hid (fun v W h1 h2 => findsT_any rs' 200 (mL27 8) (es.set p x) v p false ct 3 W h1 (by have := Hr.out; omega) hs2 h2 (HA3.out _ hE2 false hf1))
    have HF2 := Lib.hid (fun v W h1 h2 => findsT_any rs' 200 (mL27 8) (es.set p x) v p true ct 3 W h1 (by have := Hr.out; omega) hs2 h2 (HA3.out _ hE2 true hf2))
    clear hE2 hs2 hf1 hf2 hcut9
    clear HCS HS
    generalize es.set p x = es2 at *
    rcases hab with ⟨rfl, rfl⟩ | ⟨rfl, rfl⟩ | ⟨rfl, rfl⟩ | ⟨rfl, rfl⟩ | ⟨rfl, rfl⟩
    all_goals
      go_upto_region 9 with fail
      go_cut [14, 17] (fun sa sb wx => ∃ p2, sa = .int .i64 0 ∧ sb = .pointer (some ⟨p2, 0, none⟩) ∧ SpX wx p2 (rs', 200, mL27 8, es2) w4.heap.size ∧ Below w4.heap.size w4 wx)
      case first =>
        go_region_held3 (fun w' => w'.cell? ⟨w1.heap.size, 0, none⟩ = some (.slice A1 rs'.length c1) ∧ w'.cell? ⟨w1.heap.size, 1, none⟩ = some (.int .i64 200) ∧ w'.cell? ⟨w1.heap.size, 2, none⟩ = some (.slice L1 (mL27 8).length cl1) ∧ w'.cell? ⟨w1.heap.size, 3, none⟩ = some (.slice B1 es.length d1))
          (refine ⟨?_, ?_, ?_, ?_⟩ <;> (repeat (with_reducible first | exact x0 | exact x1 | exact x2 | exact x3 | refine cell_drew ?_ | refine cell_later hbP ?_ | refine cell_later hbQ ?_ | refine cell_alloc _ ?_ | refine cell_far ?_ (by show _ ≠ _; simp only; omega) _)))
          (first
            | (go_at_call 12
               have _h := hbP
               refine (HSt.out _ _ (by repeat (with_reducible first | exact hv | refine SpV.to ?_ hbP | refine SpV.to ?_ (below_drew (Below.refl _ _)) | refine SpV.to ?_ (balloc (Below.refl _ _) _))) (by repeat (with_reducible first | exact hL | refine LayOK.below ?_ hbP | refine LayOK.drew ?_ | refine LayOK.alloc ?_ _))).mono ?_
               rintro e wQ ⟨vQ, rfl, hvQ, hlQ, hbQ⟩
               obtain ⟨AQ, cQ, LQ, clQ, BQ, dQ, rfl, _, _, _, _⟩ := id hvQ
               simp only [spcV] at hvQ hlQ ⊢
               have hsQ : w4.heap.size ≤ wQ.heap.size := Nat.le_trans hsP (Nat.le_trans (by (try simp only [World.size_alloc, World.size_drew]); omega) hbQ.size)
               first
                   | (refine have_to (g := w4.heap.size) (cs := #[.slice none 0 0, .int .i64 0, .slice none 0 0, .slice none 0 0]) (t := 28) hbQ ?_ ?_
                      · (repeat (with_reducible first | exact Bk.newd _ _ _ | exact Bk.newda _ _ _ _ | exact Bk.newad _ _ _ _ | exact Bk.newa _ _ _ _ | exact Bk.new _ _ _ | refine Bk.to ?_ hbP | refine Bk.alloc ?_ _ | refine Bk.drew ?_))
                      intro hgN kN
                      obtain ⟨cN, fN, lN⟩ := kN.facts)
                   | (refine have_to (g := wP.heap.size) (cs := #[.slice none 0 0, .int .i64 0, .slice none 0 0, .slice none 0 0]) (t := 28) hbQ ?_ ?_
                      · (repeat (with_reducible first | exact Bk.newd _ _ _ | exact Bk.newda _ _ _ _ | exact Bk.newad _ _ _ _ | exact Bk.newa _ _ _ _ | exact Bk.new _ _ _ | refine Bk.to ?_ hbP | refine Bk.alloc ?_ _ | refine Bk.drew ?_))
                      intro hgN kN
                      obtain ⟨cN, fN, lN⟩ := kN.facts)
                   | skip)
            | (go_at_call 13
               refine (page5c_any false _).mono ?_
               rintro e wP ⟨rfl, hbP⟩
               have hsP : w4.heap.size ≤ wP.heap.size := Nat.le_trans (by (try simp only [World.size_alloc, World.size_drew]); omega) hbP.size))
        all_goals
          have hbQw : Below w4.heap.size w4 wQ := by repeat (with_reducible first | exact Below.refl _ _ | refine bnext ?_ hbQ | refine bnext ?_ hbP | refine below_drew ?_ | refine balloc ?_ _)
          go_wp2_with fail
          go_meet
          first
            | exact ⟨_, rfl, rfl, ⟨AQ, cQ, LQ, clQ, BQ, dQ, kN.put4 _ _ _ _, spv_put4 hvQ hlQ hgN _ _ _ _, hlQ.mono (by (try simp only [World.size_alloc, World.size_drew]); omega)⟩, below_put4 hbQw (by omega) _ _ _ _⟩
            | exact ⟨_, rfl, rfl, ⟨AQ, cQ, LQ, clQ, BQ, dQ, Bk.new _ _ _, hvQ.to (balloc (Below.refl _ _) _), hlQ.mono (by (try simp only [World.size_alloc, World.size_drew]); omega)⟩, balloc hbQw _⟩
      case rest =>
        obtain ⟨p2, rfl, rfl, ⟨A7, c7, L7, cl7, B7, d7, kY, hvY, hlY⟩, hcC⟩ := hcut
        simp only at kY hvY hlY
        replace hL := hL.below hcC
        replace hB0 := bnext hB0 hcC
        clear hcC x0 x1 x2 x3
        obtain ⟨cY, fY, lY⟩ := kY.facts
        go_wp2_with fail
        refine (HCk.out _ _ hvY hL).mono ?_
        rintro e w5 ⟨rfl, hb5⟩
        replace hvY := hvY.to hb5
        replace hL := hL.below hb5
        replace hB0 := bnext hB0 hb5
        replace kY := kY.to hb5
        clear cY fY lY hb5
        obtain ⟨cY, fY, lY⟩ := kY.facts
        go_wp2_with fail
        refine (HF1.out _ _ hvY hL).mono ?_
        rintro e w6 ⟨rfl, hb6⟩
        replace hvY := hvY.to hb6
        replace hL := hL.below hb6
        replace hB0 := bnext hB0 hb6
        replace kY := kY.to hb6
        clear cY fY lY hb6
        obtain ⟨cY, fY, lY⟩ := kY.facts
        go_wp2_with fail
        refine (HF2.out _ _ hvY hL).mono ?_
        rintro e w7 ⟨rfl, hb7⟩
        replace hL := hL.below hb7
        replace hB0 := bnext hB0 hb7
        clear cY fY lY hb7
        go_wp2_with fail
        refine (awake27_any _ hL).mono ?_
        rintro e wa ⟨rfl, hba⟩
        go_wp2_with fail
        go_ret
        exact ⟨rfl, bnext hB0 hba⟩
end Go.Proofs.YtpkgfkhaiifooaaDoor
