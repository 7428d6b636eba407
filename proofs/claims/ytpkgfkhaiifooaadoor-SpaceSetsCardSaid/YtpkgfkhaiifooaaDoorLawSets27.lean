/- SpaceSets returns true, whatever the address space, the entry and the numbers. -/
import Derived.Test.YtpkgfkhaiifooaaDoorSpA
import Derived.Test.YtpkgfkhaiifooaaDoorSpY
import Derived.Test.YtpkgfkhaiifooaaDoorSpW
import Derived.Test.YtpkgfkhaiifooaaDoorMv27
import Derived.Deep.RegionHeld3
import Derived.Deep.RegionLaw
import Derived.Deep.DeepCutAuto
namespace Go.Proofs.YtpkgfkhaiifooaaDoor
open Go Go.Proofs Go.RowKit
set_option linter.unusedSimpArgs false
set_option linter.unusedVariables false
set_option maxRecDepth 100000

theorem setR_lens (rs : List (Int × Int)) (r : Int) (ls : List Int) (es : List Nat) (hs : wsmall es) (page k n : Int) (a b f : Bool) (h1 : rs.length ≤ 1000) (h2 : ls.length ≤ 1000) (h3 : es.length ≤ 1000) : (setR (rs, r, ls, es) page k n a b f).1.1.length ≤ 1000 ∧ (setR (rs, r, ls, es) page k n a b f).1.2.2.1.length ≤ 1000 ∧ (setR (rs, r, ls, es) page k n a b f).1.2.2.2.length ≤ 1000 ∧ wsmall (setR (rs, r, ls, es) page k n a b f).1.2.2.2 := by
  have h0 : wsmall ([] : List Nat) := by intro x hx; cases hx
  unfold setR
  split
  · exact ⟨by simp [sp0], by simp [sp0, tb0], by simp [sp0, tb0], by simpa [sp0, tb0] using h0⟩
  · rename_i hE
    have hE : setE (rs, r, ls, es) page k n a b f = 0 := Classical.byContradiction hE
    unfold setE at hE
    obtain ⟨_, h4⟩ := orE_zero hE
    have h5 : (putR r ls es page k n a b f).2 = 0 := by
      split at h4
      · omega
      · split at h4
        · omega
        · exact h4
    unfold putR at h5 ⊢
    split at h5
    · rename_i h6; exact absurd h5 h6
    · rename_i h6
      simp only [h6, if_false]
      have h7 : putE r ls es page k n a b f = 0 := Classical.byContradiction h6
      unfold putE at h7
      obtain ⟨_, h8⟩ := orE_zero h7
      obtain ⟨h9, _⟩ := orE_zero h8
      obtain ⟨x, hx, hx2⟩ := packR_nat k n a b f h9
      refine ⟨by simpa using h1, by simpa using h2, by simpa using h3, ?_⟩
      simp only [hx, Int.toNat_natCast]
      exact wsmall_set hs _ (by omega)
theorem movR_lens (rs : List (Int × Int)) (r : Int) (ls : List Int) (es : List Nat) (hs : wsmall es) (f slot : Int) (h1 : rs.length ≤ 1000) (h2 : ls.length ≤ 1000) (h3 : es.length ≤ 1000) : (movR (rs, r, ls, es) f slot).1.1.length ≤ 1000 ∧ (movR (rs, r, ls, es) f slot).1.2.2.1.length ≤ 1000 ∧ (movR (rs, r, ls, es) f slot).1.2.2.2.length ≤ 1000 ∧ wsmall (movR (rs, r, ls, es) f slot).1.2.2.2 := by
  have h0 : wsmall ([] : List Nat) := by intro x hx; cases hx
  unfold movR
  split
  · exact ⟨by simp [sp0], by simp [sp0, tb0], by simp [sp0, tb0], by simpa [sp0, tb0] using h0⟩
  · split
    · exact ⟨by simp [sp0], by simp [sp0, tb0], by simp [sp0, tb0], by simpa [sp0, tb0] using h0⟩
    · rename_i hb
      obtain ⟨x, hpk, hx⟩ := pack_slot slot (by omega) (by omega)
      refine ⟨h1, h2, ?_, ?_⟩
      · simp only [movL_length]; exact h3
      · simp only [hpk, Int.toNat_natCast]; exact movL_small hs f x (by omega) 64

set_option maxHeartbeats 16000000 in
theorem SpaceSets_true (rs : List (Int × Int)) (r : Int) (ls : List Int) (es : List Nat) (v : Value) (page k n : Int) (a b f : Bool) (frame slot : Int) (w : World) (hv : SpV w v (rs, r, ls, es)) (hs : wsmall es) (hL : LayOK w) :
    Calls Tryd.prog 4 #[v, .int .i64 page, .agg #[.int .i64 k, .int .i64 n, .bool a, .bool b, .bool f], .int .i64 frame, .int .i64 slot] w fun e w' => e = .returned (.bool true) ∧ Below w.heap.size w w' := by
  obtain ⟨A, c, L, cl, B, d, hve, _, _, _, _⟩ := id hv
  subst hve
  unfold spcV at hv ⊢
  simp only at hv ⊢
  have kS := (Bk.new w #[.slice A rs.length c, .int .i64 r, .slice L ls.length cl, .slice B es.length d] 28).alloc (.cells #[.int .i64 k, .int .i64 n, .bool a, .bool b, .bool f] 38)
  have kV := Bk.new (w.alloc (.cells #[.slice A rs.length c, .int .i64 r, .slice L ls.length cl, .slice B es.length d] 28)) #[.int .i64 k, .int .i64 n, .bool a, .bool b, .bool f] 38
  simp only [World.size_alloc] at kV
  have hB0 := balloc (balloc (Below.refl _ w) (.cells #[.slice A rs.length c, .int .i64 r, .slice L ls.length cl, .slice B es.length d] 28)) (.cells #[.int .i64 k, .int .i64 n, .bool a, .bool b, .bool f] 38)
  generalize hw1 : (w.alloc (.cells #[.slice A rs.length c, .int .i64 r, .slice L ls.length cl, .slice B es.length d] 28)).alloc (.cells #[.int .i64 k, .int .i64 n, .bool a, .bool b, .bool f] 38) = w0 at *
  have hS := hv.to hB0
  have hL0 := hL
  replace hL := hL.below hB0
  clear hv
  have HLt := Lib.hid (fun v W h => light_any rs r ls es v W h)
  obtain ⟨cS, fS, lS⟩ := kS.facts
  by_cases hlt : rs.length ≤ 70 ∧ ls.length ≤ 10 ∧ es.length ≤ 70
  case neg =>
    rw [decide_eq_false hlt] at HLt
    clear hlt
    go_enter Tryd.func4, Tryd.ntmps4
    go_wp2_with fail
    refine (HLt.out _ _ hS).mono ?_
    rintro e w1 ⟨rfl, hb1⟩
    go_wp2_with fail
    refine (awake27_any _ (hL.below hb1)).mono ?_
    rintro e w2 ⟨rfl, hb2⟩
    go_wp2_with fail
    go_ret
    exact ⟨rfl, bnext (bnext hB0 hb1) hb2⟩
  rw [decide_eq_true hlt] at HLt
  obtain ⟨hl1, hl2, hl3⟩ := hlt
  clear cS fS lS hL0
  have HA := Lib.hid (fun v W h hl => Set_any rs r ls es v page k n a b f W h (by omega) hs hl)
  have HAr := Lib.hid (fun v W h => rSet_any rs r ls es v page k n a b f W h (by omega) hs)
  have HO := Lib.hid (fun v W h hl => Moved_any rs r ls es v frame slot W h (by omega) hs hl)
  have HOr := Lib.hid (fun v W h => rMoved_any rs r ls es v frame slot W h (by omega) hs)
  have hq1 := setR_lens rs r ls es hs page k n a b f (by omega) (by omega) (by omega)
  have hq2 := movR_lens rs r ls es hs frame slot (by omega) (by omega) (by omega)
  generalize hzz1 : setR (rs, r, ls, es) page k n a b f = q1 at *
  generalize hzz2 : movR (rs, r, ls, es) frame slot = q2 at *
  clear hzz1 hzz2
  obtain ⟨⟨rs1, r1, ls1, es1⟩, e1⟩ := q1
  obtain ⟨⟨rs2, r2, ls2, es2⟩, n2, e2⟩ := q2
  simp only at hq1 hq2
  obtain ⟨u1, u2, u3, u4⟩ := hq1
  obtain ⟨z1, z2, z3, z4⟩ := hq2
  have HOS := Lib.hid (fun v W h => OwnSpace_any rs r ls es v W h (by omega) (by omega) (by omega))
  have HSS := Lib.hid (fun v v2 W h h2 => SameSpace_eq rs r ls es v v2 W h h2 hs (by omega) (by omega) (by omega))
  have HS1 := Lib.hid (fun v v2 W h h2 => SameSpace_eq rs1 r1 ls1 es1 v v2 W h h2 u4 u1 u2 u3)
  have HS2 := Lib.hid (fun v v2 W h h2 => SameSpace_eq rs2 r2 ls2 es2 v v2 W h h2 z4 z1 z2 z3)
  clear hl1 hl2 hl3 u1 u2 u3 u4 z1 z2 z3 z4 hs
  obtain ⟨cS, fS, lS⟩ := kS.facts
  go_enter Tryd.func4, Tryd.ntmps4
  go_wp2_with fail
  clear cS fS lS hw1
  refine (HLt.out _ _ hS).mono ?_
  rintro e w1 ⟨rfl, hb1⟩
  replace hS := hS.to hb1
  replace kS := kS.to hb1
  replace kV := kV.to hb1
  replace hL := hL.below hb1
  replace hB0 := bnext hB0 hb1
  clear hb1
  obtain ⟨c_kS, f_kS, l_kS⟩ := kS.facts
  obtain ⟨c_kV, f_kV, l_kV⟩ := kV.facts
  go_wp2_with fail
  clear c_kS f_kS l_kS
  clear c_kV f_kV l_kV
  refine (HOS.out _ _ hS).mono ?_
  rintro e w2 ⟨v1, rfl, hX, hb2⟩
  replace hS := hS.to hb2
  replace kS := kS.to hb2
  replace kV := kV.to hb2
  replace hL := hL.below hb2
  replace hB0 := bnext hB0 hb2
  clear hb2
  obtain ⟨A2, c2, L2, cl2, B2, d2, rfl, _, _, _, _⟩ := id hX
  simp only [spcV] at hX ⊢
  obtain ⟨c_kS, f_kS, l_kS⟩ := kS.facts
  obtain ⟨c_kV, f_kV, l_kV⟩ := kV.facts
  go_upto_region 4 with fail
  clear c_kS f_kS l_kS
  clear c_kV f_kV l_kV
  have kX := Bk.new w2 #[.slice A2 rs.length c2, .int .i64 r, .slice L2 ls.length cl2, .slice B2 es.length d2] 28
  have hcN := balloc (Below.refl _ w2) (.cells #[.slice A2 rs.length c2, .int .i64 r, .slice L2 ls.length cl2, .slice B2 es.length d2] 28)
  generalize w2.alloc (.cells #[.slice A2 rs.length c2, .int .i64 r, .slice L2 ls.length cl2, .slice B2 es.length d2] 28) = w3 at *
  replace hS := hS.to hcN
  replace hX := hX.to hcN
  replace kS := kS.to hcN
  replace kV := kV.to hcN
  replace hL := hL.below hcN
  replace hB0 := bnext hB0 hcN
  clear hcN
  obtain ⟨c_kS, f_kS, l_kS⟩ := kS.facts
  obtain ⟨c_kV, f_kV, l_kV⟩ := kV.facts
  obtain ⟨c_kX, f_kX, l_kX⟩ := kX.facts
  go_wp2_with fail
  clear c_kS f_kS l_kS
  clear c_kV f_kV l_kV
  clear c_kX f_kX l_kX
  refine (HA.out _ _ hX hL).mono ?_
  rintro e w4 ⟨v3, rfl, hA3, _, hb4⟩
  replace hS := hS.to hb4
  replace hX := hX.to hb4
  replace kS := kS.to hb4
  replace kV := kV.to hb4
  replace kX := kX.to hb4
  replace hL := hL.below hb4
  replace hB0 := bnext hB0 hb4
  clear hb4
  obtain ⟨A3, c3, L3, cl3, B3, d3, rfl, _, _, _, _⟩ := id hA3
  simp only [spcV] at hA3 ⊢
  obtain ⟨c_kS, f_kS, l_kS⟩ := kS.facts
  obtain ⟨c_kV, f_kV, l_kV⟩ := kV.facts
  obtain ⟨c_kX, f_kX, l_kX⟩ := kX.facts
  go_upto_region 5 with fail
  clear c_kS f_kS l_kS
  clear c_kV f_kV l_kV
  clear c_kX f_kX l_kX
  have kA3 := Bk.new w4 #[.slice A3 rs1.length c3, .int .i64 r1, .slice L3 ls1.length cl3, .slice B3 es1.length d3] 28
  have hcN := balloc (Below.refl _ w4) (.cells #[.slice A3 rs1.length c3, .int .i64 r1, .slice L3 ls1.length cl3, .slice B3 es1.length d3] 28)
  generalize w4.alloc (.cells #[.slice A3 rs1.length c3, .int .i64 r1, .slice L3 ls1.length cl3, .slice B3 es1.length d3] 28) = w5 at *
  replace hS := hS.to hcN
  replace hX := hX.to hcN
  replace hA3 := hA3.to hcN
  replace kS := kS.to hcN
  replace kV := kV.to hcN
  replace kX := kX.to hcN
  replace hL := hL.below hcN
  replace hB0 := bnext hB0 hcN
  clear hcN
  obtain ⟨c_kS, f_kS, l_kS⟩ := kS.facts
  obtain ⟨c_kV, f_kV, l_kV⟩ := kV.facts
  obtain ⟨c_kX, f_kX, l_kX⟩ := kX.facts
  obtain ⟨c_kA3, f_kA3, l_kA3⟩ := kA3.facts
  go_wp2_with fail
  clear c_kS f_kS l_kS
  clear c_kV f_kV l_kV
  clear c_kX f_kX l_kX
  clear c_kA3 f_kA3 l_kA3
  refine (HAr.out _ _ hS).mono ?_
  rintro e w6 ⟨v4, rfl, hA4, _, hb6⟩
  replace hS := hS.to hb6
  replace hX := hX.to hb6
  replace hA3 := hA3.to hb6
  replace kS := kS.to hb6
  replace kV := kV.to hb6
  replace kX := kX.to hb6
  replace kA3 := kA3.to hb6
  replace hL := hL.below hb6
  replace hB0 := bnext hB0 hb6
  clear hb6
  obtain ⟨A4, c4, L4, cl4, B4, d4, rfl, _, _, _, _⟩ := id hA4
  simp only [spcV] at hA4 ⊢
  obtain ⟨c_kS, f_kS, l_kS⟩ := kS.facts
  obtain ⟨c_kV, f_kV, l_kV⟩ := kV.facts
  obtain ⟨c_kX, f_kX, l_kX⟩ := kX.facts
  obtain ⟨c_kA3, f_kA3, l_kA3⟩ := kA3.facts
  go_upto_region 6 with fail
  clear c_kS f_kS l_kS
  clear c_kV f_kV l_kV
  clear c_kX f_kX l_kX
  clear c_kA3 f_kA3 l_kA3
  have kA4 := Bk.new w6 #[.slice A4 rs1.length c4, .int .i64 r1, .slice L4 ls1.length cl4, .slice B4 es1.length d4] 28
  have hcN := balloc (Below.refl _ w6) (.cells #[.slice A4 rs1.length c4, .int .i64 r1, .slice L4 ls1.length cl4, .slice B4 es1.length d4] 28)
  generalize w6.alloc (.cells #[.slice A4 rs1.length c4, .int .i64 r1, .slice L4 ls1.length cl4, .slice B4 es1.length d4] 28) = w7 at *
  replace hS := hS.to hcN
  replace hX := hX.to hcN
  replace hA3 := hA3.to hcN
  replace hA4 := hA4.to hcN
  replace kS := kS.to hcN
  replace kV := kV.to hcN
  replace kX := kX.to hcN
  replace kA3 := kA3.to hcN
  replace hL := hL.below hcN
  replace hB0 := bnext hB0 hcN
  clear hcN
  obtain ⟨c_kS, f_kS, l_kS⟩ := kS.facts
  obtain ⟨c_kV, f_kV, l_kV⟩ := kV.facts
  obtain ⟨c_kX, f_kX, l_kX⟩ := kX.facts
  obtain ⟨c_kA3, f_kA3, l_kA3⟩ := kA3.facts
  obtain ⟨c_kA4, f_kA4, l_kA4⟩ := kA4.facts
  go_wp2_with fail
  clear c_kS f_kS l_kS
  clear c_kV f_kV l_kV
  clear c_kX f_kX l_kX
  clear c_kA3 f_kA3 l_kA3
  clear c_kA4 f_kA4 l_kA4
  refine (HO.out _ _ hX hL).mono ?_
  rintro e w8 ⟨v5, rfl, hA5, _, hb8⟩
  replace hS := hS.to hb8
  replace hX := hX.to hb8
  replace hA3 := hA3.to hb8
  replace hA4 := hA4.to hb8
  replace kS := kS.to hb8
  replace kV := kV.to hb8
  replace kX := kX.to hb8
  replace kA3 := kA3.to hb8
  replace kA4 := kA4.to hb8
  replace hL := hL.below hb8
  replace hB0 := bnext hB0 hb8
  clear hb8
  obtain ⟨A5, c5, L5, cl5, B5, d5, rfl, _, _, _, _⟩ := id hA5
  simp only [spcV] at hA5 ⊢
  obtain ⟨c_kS, f_kS, l_kS⟩ := kS.facts
  obtain ⟨c_kV, f_kV, l_kV⟩ := kV.facts
  obtain ⟨c_kX, f_kX, l_kX⟩ := kX.facts
  obtain ⟨c_kA3, f_kA3, l_kA3⟩ := kA3.facts
  obtain ⟨c_kA4, f_kA4, l_kA4⟩ := kA4.facts
  go_upto_region 7 with fail
  clear c_kS f_kS l_kS
  clear c_kV f_kV l_kV
  clear c_kX f_kX l_kX
  clear c_kA3 f_kA3 l_kA3
  clear c_kA4 f_kA4 l_kA4
  have kA5 := Bk.new w8 #[.slice A5 rs2.length c5, .int .i64 r2, .slice L5 ls2.length cl5, .slice B5 es2.length d5] 28
  have hcN := balloc (Below.refl _ w8) (.cells #[.slice A5 rs2.length c5, .int .i64 r2, .slice L5 ls2.length cl5, .slice B5 es2.length d5] 28)
  generalize w8.alloc (.cells #[.slice A5 rs2.length c5, .int .i64 r2, .slice L5 ls2.length cl5, .slice B5 es2.length d5] 28) = w9 at *
  replace hS := hS.to hcN
  replace hX := hX.to hcN
  replace hA3 := hA3.to hcN
  replace hA4 := hA4.to hcN
  replace hA5 := hA5.to hcN
  replace kS := kS.to hcN
  replace kV := kV.to hcN
  replace kX := kX.to hcN
  replace kA3 := kA3.to hcN
  replace kA4 := kA4.to hcN
  replace hL := hL.below hcN
  replace hB0 := bnext hB0 hcN
  clear hcN
  obtain ⟨c_kS, f_kS, l_kS⟩ := kS.facts
  obtain ⟨c_kV, f_kV, l_kV⟩ := kV.facts
  obtain ⟨c_kX, f_kX, l_kX⟩ := kX.facts
  obtain ⟨c_kA3, f_kA3, l_kA3⟩ := kA3.facts
  obtain ⟨c_kA4, f_kA4, l_kA4⟩ := kA4.facts
  obtain ⟨c_kA5, f_kA5, l_kA5⟩ := kA5.facts
  go_wp2_with fail
  clear c_kS f_kS l_kS
  clear c_kV f_kV l_kV
  clear c_kX f_kX l_kX
  clear c_kA3 f_kA3 l_kA3
  clear c_kA4 f_kA4 l_kA4
  clear c_kA5 f_kA5 l_kA5
  refine (HOr.out _ _ hS).mono ?_
  rintro e w10 ⟨v6, rfl, hA6, _, hb10⟩
  replace hS := hS.to hb10
  replace hX := hX.to hb10
  replace hA3 := hA3.to hb10
  replace hA4 := hA4.to hb10
  replace hA5 := hA5.to hb10
  replace kS := kS.to hb10
  replace kV := kV.to hb10
  replace kX := kX.to hb10
  replace kA3 := kA3.to hb10
  replace kA4 := kA4.to hb10
  replace kA5 := kA5.to hb10
  replace hL := hL.below hb10
  replace hB0 := bnext hB0 hb10
  clear hb10
  obtain ⟨A6, c6, L6, cl6, B6, d6, rfl, _, _, _, _⟩ := id hA6
  simp only [spcV] at hA6 ⊢
  obtain ⟨c_kS, f_kS, l_kS⟩ := kS.facts
  obtain ⟨c_kV, f_kV, l_kV⟩ := kV.facts
  obtain ⟨c_kX, f_kX, l_kX⟩ := kX.facts
  obtain ⟨c_kA3, f_kA3, l_kA3⟩ := kA3.facts
  obtain ⟨c_kA4, f_kA4, l_kA4⟩ := kA4.facts
  obtain ⟨c_kA5, f_kA5, l_kA5⟩ := kA5.facts
  go_upto_region 8 with fail
  clear c_kS f_kS l_kS
  clear c_kV f_kV l_kV
  clear c_kX f_kX l_kX
  clear c_kA3 f_kA3 l_kA3
  clear c_kA4 f_kA4 l_kA4
  clear c_kA5 f_kA5 l_kA5
  have kA6 := Bk.new w10 #[.slice A6 rs2.length c6, .int .i64 r2, .slice L6 ls2.length cl6, .slice B6 es2.length d6] 28
  have hcN := balloc (Below.refl _ w10) (.cells #[.slice A6 rs2.length c6, .int .i64 r2, .slice L6 ls2.length cl6, .slice B6 es2.length d6] 28)
  generalize w10.alloc (.cells #[.slice A6 rs2.length c6, .int .i64 r2, .slice L6 ls2.length cl6, .slice B6 es2.length d6] 28) = w11 at *
  replace hS := hS.to hcN
  replace hX := hX.to hcN
  replace hA3 := hA3.to hcN
  replace hA4 := hA4.to hcN
  replace hA5 := hA5.to hcN
  replace hA6 := hA6.to hcN
  replace kS := kS.to hcN
  replace kV := kV.to hcN
  replace kX := kX.to hcN
  replace kA3 := kA3.to hcN
  replace kA4 := kA4.to hcN
  replace kA5 := kA5.to hcN
  replace hL := hL.below hcN
  replace hB0 := bnext hB0 hcN
  clear hcN
  obtain ⟨c_kS, f_kS, l_kS⟩ := kS.facts
  obtain ⟨c_kV, f_kV, l_kV⟩ := kV.facts
  obtain ⟨c_kX, f_kX, l_kX⟩ := kX.facts
  obtain ⟨c_kA3, f_kA3, l_kA3⟩ := kA3.facts
  obtain ⟨c_kA4, f_kA4, l_kA4⟩ := kA4.facts
  obtain ⟨c_kA5, f_kA5, l_kA5⟩ := kA5.facts
  obtain ⟨c_kA6, f_kA6, l_kA6⟩ := kA6.facts
  go_wp2_with fail
  clear c_kS f_kS l_kS
  clear c_kV f_kV l_kV
  clear c_kX f_kX l_kX
  clear c_kA3 f_kA3 l_kA3
  clear c_kA4 f_kA4 l_kA4
  clear c_kA5 f_kA5 l_kA5
  clear c_kA6 f_kA6 l_kA6
  refine (HS1.out _ _ _ hA3 hA4).mono ?_
  rintro e w12 ⟨rfl, hb12⟩
  replace hS := hS.to hb12
  replace hX := hX.to hb12
  replace hA3 := hA3.to hb12
  replace hA4 := hA4.to hb12
  replace hA5 := hA5.to hb12
  replace hA6 := hA6.to hb12
  replace kS := kS.to hb12
  replace kV := kV.to hb12
  replace kX := kX.to hb12
  replace kA3 := kA3.to hb12
  replace kA4 := kA4.to hb12
  replace kA5 := kA5.to hb12
  replace kA6 := kA6.to hb12
  replace hL := hL.below hb12
  replace hB0 := bnext hB0 hb12
  clear hb12
  obtain ⟨c_kS, f_kS, l_kS⟩ := kS.facts
  obtain ⟨c_kV, f_kV, l_kV⟩ := kV.facts
  obtain ⟨c_kX, f_kX, l_kX⟩ := kX.facts
  obtain ⟨c_kA3, f_kA3, l_kA3⟩ := kA3.facts
  obtain ⟨c_kA4, f_kA4, l_kA4⟩ := kA4.facts
  obtain ⟨c_kA5, f_kA5, l_kA5⟩ := kA5.facts
  obtain ⟨c_kA6, f_kA6, l_kA6⟩ := kA6.facts
  go_wp2_with fail
  clear c_kS f_kS l_kS
  clear c_kV f_kV l_kV
  clear c_kX f_kX l_kX
  clear c_kA3 f_kA3 l_kA3
  clear c_kA4 f_kA4 l_kA4
  clear c_kA5 f_kA5 l_kA5
  clear c_kA6 f_kA6 l_kA6
  refine (HS2.out _ _ _ hA5 hA6).mono ?_
  rintro e w13 ⟨rfl, hb13⟩
  replace hS := hS.to hb13
  replace hX := hX.to hb13
  replace hA3 := hA3.to hb13
  replace hA4 := hA4.to hb13
  replace hA5 := hA5.to hb13
  replace hA6 := hA6.to hb13
  replace kS := kS.to hb13
  replace kV := kV.to hb13
  replace kX := kX.to hb13
  replace kA3 := kA3.to hb13
  replace kA4 := kA4.to hb13
  replace kA5 := kA5.to hb13
  replace kA6 := kA6.to hb13
  replace hL := hL.below hb13
  replace hB0 := bnext hB0 hb13
  clear hb13
  obtain ⟨c_kS, f_kS, l_kS⟩ := kS.facts
  obtain ⟨c_kV, f_kV, l_kV⟩ := kV.facts
  obtain ⟨c_kX, f_kX, l_kX⟩ := kX.facts
  obtain ⟨c_kA3, f_kA3, l_kA3⟩ := kA3.facts
  obtain ⟨c_kA4, f_kA4, l_kA4⟩ := kA4.facts
  obtain ⟨c_kA5, f_kA5, l_kA5⟩ := kA5.facts
  obtain ⟨c_kA6, f_kA6, l_kA6⟩ := kA6.facts
  go_wp2_with fail
  clear c_kS f_kS l_kS
  clear c_kV f_kV l_kV
  clear c_kX f_kX l_kX
  clear c_kA3 f_kA3 l_kA3
  clear c_kA4 f_kA4 l_kA4
  clear c_kA5 f_kA5 l_kA5
  clear c_kA6 f_kA6 l_kA6
  refine (HSS.out _ _ _ hX hS).mono ?_
  rintro e w14 ⟨rfl, hb14⟩
  replace hS := hS.to hb14
  replace hX := hX.to hb14
  replace hA3 := hA3.to hb14
  replace hA4 := hA4.to hb14
  replace hA5 := hA5.to hb14
  replace hA6 := hA6.to hb14
  replace kS := kS.to hb14
  replace kV := kV.to hb14
  replace kX := kX.to hb14
  replace kA3 := kA3.to hb14
  replace kA4 := kA4.to hb14
  replace kA5 := kA5.to hb14
  replace kA6 := kA6.to hb14
  replace hL := hL.below hb14
  replace hB0 := bnext hB0 hb14
  clear hb14
  obtain ⟨c_kS, f_kS, l_kS⟩ := kS.facts
  obtain ⟨c_kV, f_kV, l_kV⟩ := kV.facts
  obtain ⟨c_kX, f_kX, l_kX⟩ := kX.facts
  obtain ⟨c_kA3, f_kA3, l_kA3⟩ := kA3.facts
  obtain ⟨c_kA4, f_kA4, l_kA4⟩ := kA4.facts
  obtain ⟨c_kA5, f_kA5, l_kA5⟩ := kA5.facts
  obtain ⟨c_kA6, f_kA6, l_kA6⟩ := kA6.facts
  go_wp2_with fail
  clear c_kS f_kS l_kS
  clear c_kV f_kV l_kV
  clear c_kX f_kX l_kX
  clear c_kA3 f_kA3 l_kA3
  clear c_kA4 f_kA4 l_kA4
  clear c_kA5 f_kA5 l_kA5
  clear c_kA6 f_kA6 l_kA6
  refine (awake27_any _ hL).mono ?_
  rintro e w15 ⟨rfl, hb15⟩
  replace hS := hS.to hb15
  replace hX := hX.to hb15
  replace hA3 := hA3.to hb15
  replace hA4 := hA4.to hb15
  replace hA5 := hA5.to hb15
  replace hA6 := hA6.to hb15
  replace kS := kS.to hb15
  replace kV := kV.to hb15
  replace kX := kX.to hb15
  replace kA3 := kA3.to hb15
  replace kA4 := kA4.to hb15
  replace kA5 := kA5.to hb15
  replace kA6 := kA6.to hb15
  replace hL := hL.below hb15
  replace hB0 := bnext hB0 hb15
  clear hb15
  obtain ⟨c_kS, f_kS, l_kS⟩ := kS.facts
  obtain ⟨c_kV, f_kV, l_kV⟩ := kV.facts
  obtain ⟨c_kX, f_kX, l_kX⟩ := kX.facts
  obtain ⟨c_kA3, f_kA3, l_kA3⟩ := kA3.facts
  obtain ⟨c_kA4, f_kA4, l_kA4⟩ := kA4.facts
  obtain ⟨c_kA5, f_kA5, l_kA5⟩ := kA5.facts
  obtain ⟨c_kA6, f_kA6, l_kA6⟩ := kA6.facts
  go_wp2_with fail
  go_ret
  exact ⟨rfl, hB0⟩
end Go.Proofs.YtpkgfkhaiifooaaDoor
