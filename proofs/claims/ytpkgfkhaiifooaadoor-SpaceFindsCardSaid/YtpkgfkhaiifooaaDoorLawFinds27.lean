/- SpaceFinds returns true, whatever the address space and the numbers. -/
import Derived.Test.YtpkgfkhaiifooaaDoorSpA
import Derived.Test.YtpkgfkhaiifooaaDoorSpU
import Derived.Test.YtpkgfkhaiifooaaDoorSame0
import Derived.Deep.RegionHeld3
import Derived.Deep.RegionLaw
import Derived.Deep.DeepCutAuto
namespace Go.Proofs.YtpkgfkhaiifooaaDoor
open Go Go.Proofs Go.RowKit
set_option linter.unusedSimpArgs false
set_option linter.unusedVariables false
set_option maxRecDepth 100000

set_option maxHeartbeats 16000000 in
theorem SpaceFinds_true (rs : List (Int × Int)) (r : Int) (ls : List Int) (es : List Nat) (v : Value) (page : Int) (wr : Bool) (count : Int) (w : World) (hv : SpV w v (rs, r, ls, es)) (hs : wsmall es) (hL : LayOK w) :
    Calls Tryd.prog 5 #[v, .int .i64 page, .bool wr, .int .i64 count] w fun e w' => e = .returned (.bool true) ∧ Below w.heap.size w w' := by
  obtain ⟨A, c, L, cl, B, d, hve, _, _, _, _⟩ := id hv
  subst hve
  unfold spcV at hv ⊢
  simp only at hv ⊢
  have kS := Bk.new w #[.slice A rs.length c, .int .i64 r, .slice L ls.length cl, .slice B es.length d] 28
  have hB0 := balloc (Below.refl _ w) (.cells #[.slice A rs.length c, .int .i64 r, .slice L ls.length cl, .slice B es.length d] 28)
  generalize hw1 : w.alloc (.cells #[.slice A rs.length c, .int .i64 r, .slice L ls.length cl, .slice B es.length d] 28) = w0 at *
  have hS := hv.to hB0
  have hL0 := hL
  replace hL := hL.below hB0
  clear hv
  have HLt := Lib.hid (fun v W h => light_any rs r ls es v W h)
  obtain ⟨cS, fS, lS⟩ := kS.facts
  by_cases hlt : rs.length ≤ 70 ∧ ls.length ≤ 10 ∧ es.length ≤ 70
  case neg =>
    rw [decide_eq_false hlt] at HLt
    clear hlt
    go_enter Tryd.func5, Tryd.ntmps5
    go_wp2_with fail
    refine (HLt.out _ _ hS).mono ?_
    rintro e w1 ⟨rfl, hb1⟩
    go_wp2_with fail
    refine (awake27_any _ (hL.below hb1)).mono ?_
    rintro e w2 ⟨rfl, hb2⟩
    go_wp2_with fail
    go_ret
    exact ⟨rfl, bnext (bnext hB0 hb1) hb2⟩
  rw [decide_eq_true hlt] at HLt
  obtain ⟨hl1, hl2, hl3⟩ := hlt
  clear cS fS lS hL0
  have HA := Lib.hid (fun v W h hl => Access_any rs r ls es v page wr count W h (by omega) hs hl)
  have HAr := Lib.hid (fun v W h => rAccess_any rs r ls es v page wr count W h (by omega) hs)
  have HC := Lib.hid (fun v W h hl => spCheck_any rs r ls es v W h (by omega) hs hl)
  have HCr := Lib.hid (fun v W h => rSpCheck_any rs r ls es v W h (by omega) hs)
  have HO := Lib.hid (fun v W h hl => Owner_any rs r ls es v count W h (by omega) hs hl)
  have HOr := Lib.hid (fun v W h => rOwner_any rs r ls es v count W h (by omega) hs)
  have HZ := Lib.hid (fun v W h hl => Size_any rs r ls es v W h (by omega) hs hl)
  have HZr := Lib.hid (fun v W h => rSize_any rs r ls es v W h (by omega) hs)
  have hol : (ownR (rs, r, ls, es) count).1.length ≤ 1000 := by
    unfold ownR
    split
    · simp
    · split
      · simp
      · exact Nat.le_trans (by have := List.length_filter_le (ownB es count) (List.range 64); simpa [ownL] using this) (by omega)
  generalize spcE (rs, r, ls, es) = ce at *
  generalize hzz1 : accR (rs, r, ls, es) page wr count = q1 at *
  generalize hzz2 : ownR (rs, r, ls, es) count = q2 at *
  generalize hzz3 : sizR (rs, r, ls, es) = q3 at *
  clear hzz1 hzz2 hzz3
  obtain ⟨a1, e1⟩ := q1
  obtain ⟨a2, e2⟩ := q2
  obtain ⟨a3, e3⟩ := q3
  simp only at hol
  have HOS := Lib.hid (fun v W h => OwnSpace_any rs r ls es v W h (by omega) (by omega) (by omega))
  have HSS := Lib.hid (fun v v2 W h h2 => SameSpace_eq rs r ls es v v2 W h h2 hs (by omega) (by omega) (by omega))
  have HSI := Lib.hid (fun v v2 W h h2 => SameInts_v a2 v v2 W h h2 hol)
  clear hl1 hl2 hl3 hol
  obtain ⟨cS, fS, lS⟩ := kS.facts
  go_enter Tryd.func5, Tryd.ntmps5
  go_wp2_with fail
  clear cS fS lS hw1
  refine (HLt.out _ _ hS).mono ?_
  rintro e w1 ⟨rfl, hb1⟩
  replace hS := hS.to hb1
  replace kS := kS.to hb1
  replace hL := hL.below hb1
  replace hB0 := bnext hB0 hb1
  clear hb1
  obtain ⟨c_kS, f_kS, l_kS⟩ := kS.facts
  go_wp2_with fail
  clear c_kS f_kS l_kS
  refine (HOS.out _ _ hS).mono ?_
  rintro e w2 ⟨v1, rfl, hX, hb2⟩
  replace hS := hS.to hb2
  replace kS := kS.to hb2
  replace hL := hL.below hb2
  replace hB0 := bnext hB0 hb2
  clear hb2
  obtain ⟨A2, c2, L2, cl2, B2, d2, rfl, _, _, _, _⟩ := id hX
  simp only [spcV] at hX ⊢
  obtain ⟨c_kS, f_kS, l_kS⟩ := kS.facts
  go_upto_region 4 with fail
  clear c_kS f_kS l_kS
  have kX := Bk.new w2 #[.slice A2 rs.length c2, .int .i64 r, .slice L2 ls.length cl2, .slice B2 es.length d2] 28
  have hcN := balloc (Below.refl _ w2) (.cells #[.slice A2 rs.length c2, .int .i64 r, .slice L2 ls.length cl2, .slice B2 es.length d2] 28)
  generalize w2.alloc (.cells #[.slice A2 rs.length c2, .int .i64 r, .slice L2 ls.length cl2, .slice B2 es.length d2] 28) = w3 at *
  replace hS := hS.to hcN
  replace hX := hX.to hcN
  replace kS := kS.to hcN
  replace hL := hL.below hcN
  replace hB0 := bnext hB0 hcN
  clear hcN
  obtain ⟨c_kS, f_kS, l_kS⟩ := kS.facts
  obtain ⟨c_kX, f_kX, l_kX⟩ := kX.facts
  go_wp2_with fail
  clear c_kS f_kS l_kS
  clear c_kX f_kX l_kX
  refine (HA.out _ _ hX hL).mono ?_
  rintro e w4 ⟨rfl, hb4⟩
  replace hS := hS.to hb4
  replace hX := hX.to hb4
  replace kS := kS.to hb4
  replace kX := kX.to hb4
  replace hL := hL.below hb4
  replace hB0 := bnext hB0 hb4
  clear hb4
  obtain ⟨c_kS, f_kS, l_kS⟩ := kS.facts
  obtain ⟨c_kX, f_kX, l_kX⟩ := kX.facts
  go_wp2_with fail
  clear c_kS f_kS l_kS
  clear c_kX f_kX l_kX
  refine (HAr.out _ _ hS).mono ?_
  rintro e w5 ⟨rfl, hb5⟩
  replace hS := hS.to hb5
  replace hX := hX.to hb5
  replace kS := kS.to hb5
  replace kX := kX.to hb5
  replace hL := hL.below hb5
  replace hB0 := bnext hB0 hb5
  clear hb5
  obtain ⟨c_kS, f_kS, l_kS⟩ := kS.facts
  obtain ⟨c_kX, f_kX, l_kX⟩ := kX.facts
  go_upto_region 6 with fail
  clear c_kS f_kS l_kS
  clear c_kX f_kX l_kX
  have kx0 := kX.cell 0
  have kx1 := kX.cell 1
  have kx2 := kX.cell 2
  have kx3 := kX.cell 3
  have ks0 := kS.cell 0
  have ks1 := kS.cell 1
  have ks2 := kS.cell 2
  have ks3 := kS.cell 3
  simp at kx0 kx1 kx2 kx3 ks0 ks1 ks2 ks3
  go_cut [56] (fun sa wx => sa = .bool false ∧ Below w5.heap.size w5 wx)
  case first =>
    go_region_held3 (fun w' => w'.cell? ⟨w2.heap.size, 0, none⟩ = some (.slice A2 rs.length c2) ∧ w'.cell? ⟨w2.heap.size, 1, none⟩ = some (.int .i64 r) ∧ w'.cell? ⟨w2.heap.size, 2, none⟩ = some (.slice L2 ls.length cl2) ∧ w'.cell? ⟨w2.heap.size, 3, none⟩ = some (.slice B2 es.length d2) ∧ w'.cell? ⟨w.heap.size, 0, none⟩ = some (.slice A rs.length c) ∧ w'.cell? ⟨w.heap.size, 1, none⟩ = some (.int .i64 r) ∧ w'.cell? ⟨w.heap.size, 2, none⟩ = some (.slice L ls.length cl) ∧ w'.cell? ⟨w.heap.size, 3, none⟩ = some (.slice B es.length d))
      (refine ⟨?_, ?_, ?_, ?_, ?_, ?_, ?_, ?_⟩ <;> (repeat (with_reducible first | exact kx0 | exact kx1 | exact kx2 | exact kx3 | exact ks0 | exact ks1 | exact ks2 | exact ks3 | refine cell_drew ?_ | refine cell_later hbP ?_ | refine cell_later hbQ ?_)))
      (first
        | (go_at_call 24; have _h := hbP; refine (HCr.out _ _ (by repeat (with_reducible first | exact hS | refine SpV.to ?_ hbP | refine SpV.to ?_ (below_drew (Below.refl _ _))))).mono ?_; rintro e wQ ⟨rfl, hbQ⟩)
        | (go_at_call 15; refine (HC.out _ _ (by repeat (with_reducible first | exact hX | refine SpV.to ?_ (below_drew (Below.refl _ _)))) (by repeat (with_reducible first | exact hL | refine LayOK.drew ?_))).mono ?_; rintro e wP ⟨rfl, hbP⟩))
    all_goals
      go_wp2_with fail
      go_meet
      exact ⟨rfl, by repeat (with_reducible first | exact Below.refl _ _ | refine bnext ?_ hbQ | refine bnext ?_ hbP | refine below_drew ?_)⟩
  case rest =>
    obtain ⟨rfl, hcC⟩ := hcut
    clear kx0 kx1 kx2 kx3 ks0 ks1 ks2 ks3
    replace hS := hS.to hcC
    replace hX := hX.to hcC
    replace kS := kS.to hcC
    replace kX := kX.to hcC
    replace hL := hL.below hcC
    replace hB0 := bnext hB0 hcC
    clear hcC
    obtain ⟨c_kS, f_kS, l_kS⟩ := kS.facts
    obtain ⟨c_kX, f_kX, l_kX⟩ := kX.facts
    go_wp2_with fail
    clear c_kS f_kS l_kS
    clear c_kX f_kX l_kX
    refine (HO.out _ _ hX hL).mono ?_
    rintro e w6 ⟨v14, rfl, hi1, hb6⟩
    replace hS := hS.to hb6
    replace hX := hX.to hb6
    replace kS := kS.to hb6
    replace kX := kX.to hb6
    replace hL := hL.below hb6
    replace hB0 := bnext hB0 hb6
    clear hb6
    obtain ⟨c_kS, f_kS, l_kS⟩ := kS.facts
    obtain ⟨c_kX, f_kX, l_kX⟩ := kX.facts
    go_wp2_with fail
    clear c_kS f_kS l_kS
    clear c_kX f_kX l_kX
    refine (HOr.out _ _ hS).mono ?_
    rintro e w7 ⟨v15, rfl, hi2, hb7⟩
    replace hS := hS.to hb7
    replace hX := hX.to hb7
    replace hi1 := hi1.to hb7
    replace kS := kS.to hb7
    replace kX := kX.to hb7
    replace hL := hL.below hb7
    replace hB0 := bnext hB0 hb7
    clear hb7
    obtain ⟨c_kS, f_kS, l_kS⟩ := kS.facts
    obtain ⟨c_kX, f_kX, l_kX⟩ := kX.facts
    go_wp2_with fail
    clear c_kS f_kS l_kS
    clear c_kX f_kX l_kX
    refine (HZ.out _ _ hX hL).mono ?_
    rintro e w8 ⟨rfl, hb8⟩
    replace hS := hS.to hb8
    replace hX := hX.to hb8
    replace hi1 := hi1.to hb8
    replace hi2 := hi2.to hb8
    replace kS := kS.to hb8
    replace kX := kX.to hb8
    replace hL := hL.below hb8
    replace hB0 := bnext hB0 hb8
    clear hb8
    obtain ⟨c_kS, f_kS, l_kS⟩ := kS.facts
    obtain ⟨c_kX, f_kX, l_kX⟩ := kX.facts
    go_wp2_with fail
    clear c_kS f_kS l_kS
    clear c_kX f_kX l_kX
    refine (HZr.out _ _ hS).mono ?_
    rintro e w9 ⟨rfl, hb9⟩
    replace hS := hS.to hb9
    replace hX := hX.to hb9
    replace hi1 := hi1.to hb9
    replace hi2 := hi2.to hb9
    replace kS := kS.to hb9
    replace kX := kX.to hb9
    replace hL := hL.below hb9
    replace hB0 := bnext hB0 hb9
    clear hb9
    obtain ⟨c_kS, f_kS, l_kS⟩ := kS.facts
    obtain ⟨c_kX, f_kX, l_kX⟩ := kX.facts
    go_wp2_with fail
    clear c_kS f_kS l_kS
    clear c_kX f_kX l_kX
    refine (HSI.out _ _ _ hi1 hi2).mono ?_
    rintro e w10 ⟨rfl, hb10⟩
    replace hS := hS.to hb10
    replace hX := hX.to hb10
    replace hi1 := hi1.to hb10
    replace hi2 := hi2.to hb10
    replace kS := kS.to hb10
    replace kX := kX.to hb10
    replace hL := hL.below hb10
    replace hB0 := bnext hB0 hb10
    clear hb10
    obtain ⟨c_kS, f_kS, l_kS⟩ := kS.facts
    obtain ⟨c_kX, f_kX, l_kX⟩ := kX.facts
    go_wp2_with fail
    clear c_kS f_kS l_kS
    clear c_kX f_kX l_kX
    refine (HSS.out _ _ _ hX hS).mono ?_
    rintro e w11 ⟨rfl, hb11⟩
    replace hS := hS.to hb11
    replace hX := hX.to hb11
    replace hi1 := hi1.to hb11
    replace hi2 := hi2.to hb11
    replace kS := kS.to hb11
    replace kX := kX.to hb11
    replace hL := hL.below hb11
    replace hB0 := bnext hB0 hb11
    clear hb11
    obtain ⟨c_kS, f_kS, l_kS⟩ := kS.facts
    obtain ⟨c_kX, f_kX, l_kX⟩ := kX.facts
    go_wp2_with fail
    clear c_kS f_kS l_kS
    clear c_kX f_kX l_kX
    refine (awake27_any _ hL).mono ?_
    rintro e w12 ⟨rfl, hb12⟩
    replace hS := hS.to hb12
    replace hX := hX.to hb12
    replace hi1 := hi1.to hb12
    replace hi2 := hi2.to hb12
    replace kS := kS.to hb12
    replace kX := kX.to hb12
    replace hL := hL.below hb12
    replace hB0 := bnext hB0 hb12
    clear hb12
    obtain ⟨c_kS, f_kS, l_kS⟩ := kS.facts
    obtain ⟨c_kX, f_kX, l_kX⟩ := kX.facts
    go_wp2_with fail
    go_ret
    exact ⟨rfl, hB0⟩
end Go.Proofs.YtpkgfkhaiifooaaDoor
