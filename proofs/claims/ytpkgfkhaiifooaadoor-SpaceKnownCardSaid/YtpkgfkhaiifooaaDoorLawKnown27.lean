/- SpaceKnown returns true. -/
import Derived.Test.YtpkgfkhaiifooaaDoorKf27
import Derived.Test.YtpkgfkhaiifooaaDoorSl27
import Derived.Test.YtpkgfkhaiifooaaDoorGL
import Derived.Test.YtpkgfkhaiifooaaDoorSpA
import Derived.Test.YtpkgfkhaiifooaaDoorSpM
import Derived.Test.YtpkgfkhaiifooaaDoorDry
import Derived.Deep.RegionHeld3
import Derived.Deep.DeepCutAuto
namespace Go.Proofs.YtpkgfkhaiifooaaDoor
open Go Go.Proofs Go.RowKit
set_option linter.unusedSimpArgs false
set_option linter.unusedVariables false
set_option maxRecDepth 100000

theorem all_small {es : List Nat} (h : es.all (fun x => decide (x < 65536)) = true) : wsmall es := fun x hx => by
  have := List.all_eq_true.1 h x hx
  simp at this
  omega

theorem spv_tbvK {w : World} {A L B : Option Addr} {c cl d n m k : Nat} {r : Int} {rs : List (Int × Int)} {ls : List Int} {es : List Nat} (h : SpV w (.agg #[.slice A n c, .int .i64 r, .slice L m cl, .slice B k d]) (rs, r, ls, es)) : TbV w (.agg #[.int .i64 r, .slice L m cl, .slice B k d]) (r, ls, es) := by
  obtain ⟨A', c', L', cl', B', d', e, h1, h2, h3, h4⟩ := h
  simp only [spcV, Value.agg.injEq, Array.mk.injEq, List.cons.injEq, Value.slice.injEq] at e
  obtain ⟨⟨rfl, rfl, rfl⟩, _, ⟨rfl, rfl, rfl⟩, ⟨rfl, rfl, rfl⟩, _⟩ := e
  exact ⟨L, cl, B, d, rfl, h2, h3, h4⟩
theorem eq_entK (W : World) : (Op.equalIn 10000 38 (.agg #[.int .i64 2, .int .i64 4, .bool false, .bool false, .bool false]) (.agg #[.int .i64 2, .int .i64 4, .bool false, .bool false, .bool false])).run Tryd.prog W = .ok true W := by kernel_rfl
theorem run_call3 {P : Program} {ev : Operand → Value} {o : Oper} {f : FuncId} {x y z : Operand} {ts : Array TypeId} (ho : o.op = Op.call { callee := .value (.func f), args := #[x, y, z], argTypes := ts }) {vx vy vz : Value} (hf : ev (.func f) = .func (.func f) #[] #[]) (hx : ev x = vx) (hy : ev y = vy) (hz : ev z = vz) (hcf : ∀ w, (callFunc f #[vx, vy, vz]).run P w = .ok (.enter f #[vx, vy, vz]) w) (w : World) : (execOp ev o).run P w = .ok (.enter f #[vx, vy, vz]) w := by
  unfold execOp
  simp [ho, hx, hy, hz, hf, hcf, resolve, invoke, go_sem]
theorem run_call0 {P : Program} {ev : Operand → Value} {o : Oper} {f : FuncId} {ts : Array TypeId} (ho : o.op = Op.call { callee := .value (.func f), args := #[], argTypes := ts }) (hf : ev (.func f) = .func (.func f) #[] #[]) (hcf : ∀ w, (callFunc f #[]).run P w = .ok (.enter f #[]) w) (w : World) : (execOp ev o).run P w = .ok (.enter f #[]) w := by
  unfold execOp
  simp [ho, hf, hcf, resolve, invoke, go_sem]

set_option maxHeartbeats 32000000 in
theorem SpaceKnown_true (w : World) (hL : LayOK w) :
    Calls Tryd.prog 8 #[] w fun e w' => e = .returned (.bool true) ∧ Below w.heap.size w w' := by
  obtain ⟨zF, hzF⟩ : ∃ zF : List Int, zF = [7, 3] := ⟨_, rfl⟩
  obtain ⟨zO, hzO⟩ : ∃ zO : List Int, zO = [9] := ⟨_, rfl⟩
  obtain ⟨lo1s, hlo1⟩ : ∃ lo1s : List Lo, lo1s = kl1 := ⟨_, rfl⟩
  obtain ⟨lo2s, hlo2⟩ : ∃ lo2s : List Lo, lo2s = kl2 := ⟨_, rfl⟩
  obtain ⟨u1, hu1⟩ : ∃ u1, unmS (exS 8 false) 9 10 = (u1, lo1s, 0) := ⟨_, Prod.ext rfl (by rw [hlo1]; exact kn_unm1)⟩
  obtain ⟨u2, hu2⟩ : ∃ u2, unmS (exS 8 false) 8 8 = (u2, [], 0) := ⟨_, Prod.ext rfl kn_unm2⟩
  obtain ⟨u3, hu3⟩ : ∃ u3, unmS (exS 8 false) 7 8 = (u3, [], 6) := ⟨_, Prod.ext rfl kn_unm3⟩
  obtain ⟨u4, hu4⟩ : ∃ u4, empS (exS 8 false) = (u4, lo2s, zF, 0) := ⟨_, Prod.ext rfl (by rw [hlo2, hzF]; exact kn_emp)⟩
  have hu5 : movR (exS 8 false) 5 4 = (kS5, 1, 0) := Prod.ext rfl kn_mov
  obtain ⟨u6, hu6⟩ : ∃ u6, setR (exS 8 false) 12 1 5 true false false = (u6, 6) := ⟨_, Prod.ext rfl kn_set⟩
  have hu7 : ownR (exS 8 false) 5 = (zO, 0) := by rw [hzO]; exact kn_own
  have hu8 := kn_get
  have hsx := all_small kn_small
  generalize kS5 = u5 at *
  obtain ⟨f1, f2, f3, f4, f5, f6, f7⟩ := kn_f
  have hS1 : wsmall (exS 8 false).2.2.2 := exS_s2 false
  have hS2 : wsmall (exS 0 false).2.2.2 := exS_s2 false
  have hS3 : wsmall (exS 8 true).2.2.2 := exS_s2 true
  have hN1 : (exS 8 false).1.length ≤ 1000 := by simp [exS]
  have hN2 : (exS 0 false).1.length ≤ 1000 := by simp [exS]
  have hN3 : (exS 8 true).1.length ≤ 1000 := by simp [exS]
  have HE1 := Lib.hid (fun W h => exampleS_any 8 false (.inl rfl) W h)
  have HE2 := Lib.hid (fun W h => exampleS_any 0 false (.inr rfl) W h)
  have HE3 := Lib.hid (fun W h => exampleS_any 8 true (.inl rfl) W h)
  generalize exS 8 false = s1 at *
  generalize exS 0 false = s2 at *
  generalize exS 8 true = s3 at *
  obtain ⟨rs1, r1, ls1, es1⟩ := s1
  obtain ⟨rs2, r2, ls2, es2⟩ := s2
  obtain ⟨rs3, r3, ls3, es3⟩ := s3
  obtain ⟨ra1, rb1, rc1, rd1⟩ := u1
  obtain ⟨ra2, rb2, rc2, rd2⟩ := u2
  obtain ⟨ra3, rb3, rc3, rd3⟩ := u3
  obtain ⟨ra4, rb4, rc4, rd4⟩ := u4
  obtain ⟨ra5, rb5, rc5, rd5⟩ := u5
  obtain ⟨ra6, rb6, rc6, rd6⟩ := u6
  simp only at hS1 hS2 hS3 hN1 hN2 hN3 hu8 hsx
  have F1 := Lib.hid (fun v W h hl => findsT_any rs1 r1 ls1 es1 v 9 false 1 3 W h (by omega) hS1 hl f1)
  have F2 := Lib.hid (fun v W h hl => findsT_any rs1 r1 ls1 es1 v 9 true 1 3 W h (by omega) hS1 hl f2)
  have F3 := Lib.hid (fun v W h hl => findsT_any rs1 r1 ls1 es1 v 10 false 0 8 W h (by omega) hS1 hl f3)
  have F4 := Lib.hid (fun v W h hl => findsT_any rs2 r2 ls2 es2 v 0 true 0 5 W h (by omega) hS2 hl f4)
  have F5 := Lib.hid (fun v W h hl => findsT_any rs3 r3 ls3 es3 v 9 true 0 4 W h (by omega) hS3 hl f5)
  have F6 := Lib.hid (fun v W h hl => findsT_any rs3 r3 ls3 es3 v 9 true 1 4 W h (by omega) hS3 hl f6)
  have F7 := Lib.hid (fun v W h hl => findsT_any rs3 r3 ls3 es3 v 9 true 2 7 W h (by omega) hS3 hl f7)
  have U1 := Lib.hid (fun v W h hl => UnmapSp_any rs1 r1 ls1 es1 v 9 10 W h hN1 hS1 hl)
  have U2 := Lib.hid (fun v W h hl => UnmapSp_any rs1 r1 ls1 es1 v 8 8 W h hN1 hS1 hl)
  have U3 := Lib.hid (fun v W h hl => UnmapSp_any rs1 r1 ls1 es1 v 7 8 W h hN1 hS1 hl)
  have U4 := Lib.hid (fun v W h hl => EmptySp_any rs1 r1 ls1 es1 v W h hN1 hS1 hl)
  have U5 := Lib.hid (fun v W h hl => Moved_any rs1 r1 ls1 es1 v 5 4 W h (by omega) hS1 hl)
  have U6 := Lib.hid (fun v W h hl => Set_any rs1 r1 ls1 es1 v 12 1 5 true false false W h (by omega) hS1 hl)
  have U7 := Lib.hid (fun v W h hl => Owner_any rs1 r1 ls1 es1 v 5 W h (by omega) hS1 hl)
  have U8 := Lib.hid (fun v W h hl => TGet_any rb5 rc5 rd5 v 9 W h hsx hl)
  rw [hu1] at U1
  rw [hu2] at U2
  rw [hu3] at U3
  rw [hu4] at U4
  rw [hu5] at U5
  rw [hu6] at U6
  rw [hu7] at U7
  rw [hu8] at U8
  have SL1 := Lib.hid (fun v v2 W h h2 => SameLost_eq lo1s v v2 W h h2 (by rw [hlo1]; decide))
  have SL2 := Lib.hid (fun v v2 W h h2 => SameLost_eq lo2s v v2 W h h2 (by rw [hlo2]; decide))
  have SF := Lib.hid (fun v v2 W h h2 => SameInts_v zF v v2 W h h2 (by rw [hzF]; decide))
  have SO := Lib.hid (fun v v2 W h h2 => SameInts_v zO v v2 W h h2 (by rw [hzO]; decide))
  have HZF := Lib.hid hzF
  have HZO := Lib.hid hzO
  have HK1 := Lib.hid hlo1
  have HK2 := Lib.hid hlo2
  clear hzF hzO hlo1 hlo2 hu1 hu2 hu3 hu4 hu5 hu6 hu7 hu8 hsx f1 f2 f3 f4 f5 f6 f7 hS1 hS2 hS3 hN1 hN2 hN3
  have hB0 := Below.refl w.heap.size w
  go_enter Tryd.func8, Tryd.ntmps8
  go_wp2_with fail
  refine (HE1.out _ hL).mono ?_
  rintro e w1 ⟨v_1, rfl, hv1, hb1⟩
  replace hL := hL.below hb1
  replace hB0 := bnext hB0 hb1
  clear hb1
  obtain ⟨A1, c1, L1, cl1, B1, d1, rfl, -, -, -, -⟩ := id hv1
  simp only [spcV] at hv1 ⊢
  go_upto_region 2 with fail
  have k1 := Bk.new w1 #[.slice A1 rs1.length c1, .int .i64 r1, .slice L1 ls1.length cl1, .slice B1 es1.length d1] 28
  have hcN := balloc (Below.refl _ w1) (.cells #[.slice A1 rs1.length c1, .int .i64 r1, .slice L1 ls1.length cl1, .slice B1 es1.length d1] 28)
  generalize w1.alloc (.cells #[.slice A1 rs1.length c1, .int .i64 r1, .slice L1 ls1.length cl1, .slice B1 es1.length d1] 28) = w2 at *
  replace hv1 := hv1.to hcN
  replace hL := hL.below hcN
  replace hB0 := bnext hB0 hcN
  clear hcN
  obtain ⟨c_k1, f_k1, l_k1⟩ := k1.facts
  go_wp2_with fail
  clear c_k1 f_k1 l_k1
  refine (HE2.out _ hL).mono ?_
  rintro e w3 ⟨v_2, rfl, hv2, hb3⟩
  replace hv1 := hv1.to hb3
  replace k1 := k1.to hb3
  replace hL := hL.below hb3
  replace hB0 := bnext hB0 hb3
  clear hb3
  obtain ⟨A2, c2, L2, cl2, B2, d2, rfl, -, -, -, -⟩ := id hv2
  simp only [spcV] at hv2 ⊢
  obtain ⟨c_k1, f_k1, l_k1⟩ := k1.facts
  go_upto_region 3 with fail
  clear c_k1 f_k1 l_k1
  have k2 := Bk.new w3 #[.slice A2 rs2.length c2, .int .i64 r2, .slice L2 ls2.length cl2, .slice B2 es2.length d2] 28
  have hcN := balloc (Below.refl _ w3) (.cells #[.slice A2 rs2.length c2, .int .i64 r2, .slice L2 ls2.length cl2, .slice B2 es2.length d2] 28)
  generalize w3.alloc (.cells #[.slice A2 rs2.length c2, .int .i64 r2, .slice L2 ls2.length cl2, .slice B2 es2.length d2] 28) = w4 at *
  replace hv1 := hv1.to hcN
  replace hv2 := hv2.to hcN
  replace k1 := k1.to hcN
  replace hL := hL.below hcN
  replace hB0 := bnext hB0 hcN
  clear hcN
  obtain ⟨c_k1, f_k1, l_k1⟩ := k1.facts
  obtain ⟨c_k2, f_k2, l_k2⟩ := k2.facts
  go_wp2_with fail
  clear c_k1 f_k1 l_k1
  clear c_k2 f_k2 l_k2
  refine (HE3.out _ hL).mono ?_
  rintro e w5 ⟨v_3, rfl, hv3, hb5⟩
  replace hv1 := hv1.to hb5
  replace hv2 := hv2.to hb5
  replace k1 := k1.to hb5
  replace k2 := k2.to hb5
  replace hL := hL.below hb5
  replace hB0 := bnext hB0 hb5
  clear hb5
  obtain ⟨A3, c3, L3, cl3, B3, d3, rfl, -, -, -, -⟩ := id hv3
  simp only [spcV] at hv3 ⊢
  obtain ⟨c_k1, f_k1, l_k1⟩ := k1.facts
  obtain ⟨c_k2, f_k2, l_k2⟩ := k2.facts
  go_upto_region 4 with fail
  clear c_k1 f_k1 l_k1
  clear c_k2 f_k2 l_k2
  have k3 := Bk.new w5 #[.slice A3 rs3.length c3, .int .i64 r3, .slice L3 ls3.length cl3, .slice B3 es3.length d3] 28
  have hcN := balloc (Below.refl _ w5) (.cells #[.slice A3 rs3.length c3, .int .i64 r3, .slice L3 ls3.length cl3, .slice B3 es3.length d3] 28)
  generalize w5.alloc (.cells #[.slice A3 rs3.length c3, .int .i64 r3, .slice L3 ls3.length cl3, .slice B3 es3.length d3] 28) = w6 at *
  replace hv1 := hv1.to hcN
  replace hv2 := hv2.to hcN
  replace hv3 := hv3.to hcN
  replace k1 := k1.to hcN
  replace k2 := k2.to hcN
  replace hL := hL.below hcN
  replace hB0 := bnext hB0 hcN
  clear hcN
  obtain ⟨c_k1, f_k1, l_k1⟩ := k1.facts
  obtain ⟨c_k2, f_k2, l_k2⟩ := k2.facts
  obtain ⟨c_k3, f_k3, l_k3⟩ := k3.facts
  go_wp2_with fail
  clear c_k1 f_k1 l_k1
  clear c_k2 f_k2 l_k2
  clear c_k3 f_k3 l_k3
  refine (F1.out _ _ hv1 hL).mono ?_
  rintro e w7 ⟨rfl, hb7⟩
  replace hv1 := hv1.to hb7
  replace hv2 := hv2.to hb7
  replace hv3 := hv3.to hb7
  replace k1 := k1.to hb7
  replace k2 := k2.to hb7
  replace k3 := k3.to hb7
  replace hL := hL.below hb7
  replace hB0 := bnext hB0 hb7
  clear hb7
  obtain ⟨c_k1, f_k1, l_k1⟩ := k1.facts
  obtain ⟨c_k2, f_k2, l_k2⟩ := k2.facts
  obtain ⟨c_k3, f_k3, l_k3⟩ := k3.facts
  go_wp2_with fail
  clear c_k1 f_k1 l_k1
  clear c_k2 f_k2 l_k2
  clear c_k3 f_k3 l_k3
  refine (F2.out _ _ hv1 hL).mono ?_
  rintro e w8 ⟨rfl, hb8⟩
  replace hv1 := hv1.to hb8
  replace hv2 := hv2.to hb8
  replace hv3 := hv3.to hb8
  replace k1 := k1.to hb8
  replace k2 := k2.to hb8
  replace k3 := k3.to hb8
  replace hL := hL.below hb8
  replace hB0 := bnext hB0 hb8
  clear hb8
  obtain ⟨c_k1, f_k1, l_k1⟩ := k1.facts
  obtain ⟨c_k2, f_k2, l_k2⟩ := k2.facts
  obtain ⟨c_k3, f_k3, l_k3⟩ := k3.facts
  go_wp2_with fail
  clear c_k1 f_k1 l_k1
  clear c_k2 f_k2 l_k2
  clear c_k3 f_k3 l_k3
  refine (F3.out _ _ hv1 hL).mono ?_
  rintro e w9 ⟨rfl, hb9⟩
  replace hv1 := hv1.to hb9
  replace hv2 := hv2.to hb9
  replace hv3 := hv3.to hb9
  replace k1 := k1.to hb9
  replace k2 := k2.to hb9
  replace k3 := k3.to hb9
  replace hL := hL.below hb9
  replace hB0 := bnext hB0 hb9
  clear hb9
  obtain ⟨c_k1, f_k1, l_k1⟩ := k1.facts
  obtain ⟨c_k2, f_k2, l_k2⟩ := k2.facts
  obtain ⟨c_k3, f_k3, l_k3⟩ := k3.facts
  go_wp2_with fail
  clear c_k1 f_k1 l_k1
  clear c_k2 f_k2 l_k2
  clear c_k3 f_k3 l_k3
  refine (F4.out _ _ hv2 hL).mono ?_
  rintro e w10 ⟨rfl, hb10⟩
  replace hv1 := hv1.to hb10
  replace hv2 := hv2.to hb10
  replace hv3 := hv3.to hb10
  replace k1 := k1.to hb10
  replace k2 := k2.to hb10
  replace k3 := k3.to hb10
  replace hL := hL.below hb10
  replace hB0 := bnext hB0 hb10
  clear hb10
  obtain ⟨c_k1, f_k1, l_k1⟩ := k1.facts
  obtain ⟨c_k2, f_k2, l_k2⟩ := k2.facts
  obtain ⟨c_k3, f_k3, l_k3⟩ := k3.facts
  go_wp2_with fail
  clear c_k1 f_k1 l_k1
  clear c_k2 f_k2 l_k2
  clear c_k3 f_k3 l_k3
  refine (F5.out _ _ hv3 hL).mono ?_
  rintro e w11 ⟨rfl, hb11⟩
  replace hv1 := hv1.to hb11
  replace hv2 := hv2.to hb11
  replace hv3 := hv3.to hb11
  replace k1 := k1.to hb11
  replace k2 := k2.to hb11
  replace k3 := k3.to hb11
  replace hL := hL.below hb11
  replace hB0 := bnext hB0 hb11
  clear hb11
  obtain ⟨c_k1, f_k1, l_k1⟩ := k1.facts
  obtain ⟨c_k2, f_k2, l_k2⟩ := k2.facts
  obtain ⟨c_k3, f_k3, l_k3⟩ := k3.facts
  go_wp2_with fail
  clear c_k1 f_k1 l_k1
  clear c_k2 f_k2 l_k2
  clear c_k3 f_k3 l_k3
  refine (F6.out _ _ hv3 hL).mono ?_
  rintro e w12 ⟨rfl, hb12⟩
  replace hv1 := hv1.to hb12
  replace hv2 := hv2.to hb12
  replace hv3 := hv3.to hb12
  replace k1 := k1.to hb12
  replace k2 := k2.to hb12
  replace k3 := k3.to hb12
  replace hL := hL.below hb12
  replace hB0 := bnext hB0 hb12
  clear hb12
  obtain ⟨c_k1, f_k1, l_k1⟩ := k1.facts
  obtain ⟨c_k2, f_k2, l_k2⟩ := k2.facts
  obtain ⟨c_k3, f_k3, l_k3⟩ := k3.facts
  go_wp2_with fail
  clear c_k1 f_k1 l_k1
  clear c_k2 f_k2 l_k2
  clear c_k3 f_k3 l_k3
  refine (F7.out _ _ hv3 hL).mono ?_
  rintro e w13 ⟨rfl, hb13⟩
  replace hv1 := hv1.to hb13
  replace hv2 := hv2.to hb13
  replace hv3 := hv3.to hb13
  replace k1 := k1.to hb13
  replace k2 := k2.to hb13
  replace k3 := k3.to hb13
  replace hL := hL.below hb13
  replace hB0 := bnext hB0 hb13
  clear hb13
  obtain ⟨c_k1, f_k1, l_k1⟩ := k1.facts
  obtain ⟨c_k2, f_k2, l_k2⟩ := k2.facts
  obtain ⟨c_k3, f_k3, l_k3⟩ := k3.facts
  go_upto_region 8 with fail
  clear c_k1 f_k1 l_k1
  clear c_k2 f_k2 l_k2
  clear c_k3 f_k3 l_k3
  clear hv2 hv3 k2 k3
  obtain ⟨c_k1, f_k1, l_k1⟩ := k1.facts
  go_wp2_with fail
  clear c_k1 f_k1 l_k1
  refine (U1.out _ _ hv1 hL).mono ?_
  rintro e w14 ⟨v_4, x_4, rfl, ha_4, _, hi_4, _, hb14⟩
  replace hv1 := hv1.to hb14
  replace k1 := k1.to hb14
  replace hL := hL.below hb14
  replace hB0 := bnext hB0 hb14
  clear hb14
  obtain ⟨A4, c4, L4, cl4, B4, d4, rfl, -, -, -, -⟩ := id ha_4
  simp only [spcV] at ha_4 ⊢
  obtain ⟨Au_4, cu_4, rfl, hr_4⟩ := hi_4
  clear ha_4
  obtain ⟨c_k1, f_k1, l_k1⟩ := k1.facts
  go_upto_region 9 with fail
  clear c_k1 f_k1 l_k1
  have hcN := balloc (Below.refl _ w14) (.cells #[.slice A4 ra1.length c4, .int .i64 rb1, .slice L4 rc1.length cl4, .slice B4 rd1.length d4] 28)
  generalize w14.alloc (.cells #[.slice A4 ra1.length c4, .int .i64 rb1, .slice L4 rc1.length cl4, .slice B4 rd1.length d4] 28) = w15 at *
  replace hv1 := hv1.to hcN
  replace hr_4 := hr_4.to hcN
  replace k1 := k1.to hcN
  replace hL := hL.below hcN
  replace hB0 := bnext hB0 hcN
  clear hcN
  obtain ⟨c_k1, f_k1, l_k1⟩ := k1.facts
  go_wp2_with fail
  clear c_k1 f_k1 l_k1
  refine (U2.out _ _ hv1 hL).mono ?_
  rintro e w16 ⟨v_5, x_5, rfl, ha_5, _, hi_5, _, hb16⟩
  replace hv1 := hv1.to hb16
  replace hr_4 := hr_4.to hb16
  replace k1 := k1.to hb16
  replace hL := hL.below hb16
  replace hB0 := bnext hB0 hb16
  clear hb16
  obtain ⟨A5, c5, L5, cl5, B5, d5, rfl, -, -, -, -⟩ := id ha_5
  simp only [spcV] at ha_5 ⊢
  obtain ⟨Au_5, cu_5, rfl, hr_5⟩ := hi_5
  clear ha_5
  obtain ⟨c_k1, f_k1, l_k1⟩ := k1.facts
  go_upto_region 10 with fail
  clear c_k1 f_k1 l_k1
  have hcN := balloc (Below.refl _ w16) (.cells #[.slice A5 ra2.length c5, .int .i64 rb2, .slice L5 rc2.length cl5, .slice B5 rd2.length d5] 28)
  generalize w16.alloc (.cells #[.slice A5 ra2.length c5, .int .i64 rb2, .slice L5 rc2.length cl5, .slice B5 rd2.length d5] 28) = w17 at *
  replace hv1 := hv1.to hcN
  replace hr_4 := hr_4.to hcN
  replace hr_5 := hr_5.to hcN
  replace k1 := k1.to hcN
  replace hL := hL.below hcN
  replace hB0 := bnext hB0 hcN
  clear hcN
  obtain ⟨c_k1, f_k1, l_k1⟩ := k1.facts
  go_wp2_with fail
  clear c_k1 f_k1 l_k1
  refine (U3.out _ _ hv1 hL).mono ?_
  rintro e w18 ⟨v_6, x_6, rfl, ha_6, _, hi_6, _, hb18⟩
  replace hv1 := hv1.to hb18
  replace hr_4 := hr_4.to hb18
  replace hr_5 := hr_5.to hb18
  replace k1 := k1.to hb18
  replace hL := hL.below hb18
  replace hB0 := bnext hB0 hb18
  clear hb18
  obtain ⟨A6, c6, L6, cl6, B6, d6, rfl, -, -, -, -⟩ := id ha_6
  simp only [spcV] at ha_6 ⊢
  obtain ⟨Au_6, cu_6, rfl, hr_6⟩ := hi_6
  clear ha_6
  obtain ⟨c_k1, f_k1, l_k1⟩ := k1.facts
  go_upto_region 12 with fail
  clear c_k1 f_k1 l_k1
  have hcN := balloc (Below.refl _ w18) (.cells #[.slice A6 ra3.length c6, .int .i64 rb3, .slice L6 rc3.length cl6, .slice B6 rd3.length d6] 28)
  have hcS : (w18.alloc (.cells #[.slice A6 ra3.length c6, .int .i64 rb3, .slice L6 rc3.length cl6, .slice B6 rd3.length d6] 28)).heap.size = w18.heap.size + 1 := by rw [World.size_alloc]
  generalize w18.alloc (.cells #[.slice A6 ra3.length c6, .int .i64 rb3, .slice L6 rc3.length cl6, .slice B6 rd3.length d6] 28) = w19 at *
  replace hv1 := hv1.to hcN
  replace hr_4 := hr_4.to hcN
  replace hr_5 := hr_5.to hcN
  replace hr_6 := hr_6.to hcN
  replace k1 := k1.to hcN
  replace hL := hL.below hcN
  replace hB0 := bnext hB0 hcN
  clear hcN
  have kE : Bk (w19.alloc (.cells #[.int .i64 2, .int .i64 2, .bool false, .bool false, .bool false] 38)) (w18.heap.size + 1) #[.int .i64 2, .int .i64 2, .bool false, .bool false, .bool false] 38 := by rw [← hcS]; exact Bk.new w19 #[.int .i64 2, .int .i64 2, .bool false, .bool false, .bool false] 38
  have hcN := balloc (Below.refl _ w19) (.cells #[.int .i64 2, .int .i64 2, .bool false, .bool false, .bool false] 38)
  generalize w19.alloc (.cells #[.int .i64 2, .int .i64 2, .bool false, .bool false, .bool false] 38) = w20 at *
  replace hv1 := hv1.to hcN
  replace hr_4 := hr_4.to hcN
  replace hr_5 := hr_5.to hcN
  replace hr_6 := hr_6.to hcN
  replace k1 := k1.to hcN
  replace hL := hL.below hcN
  replace hB0 := bnext hB0 hcN
  clear hcN
  clear hcS
  clear hr_5 hr_6
  have e0 := kE.cell 0
  have e1 := kE.cell 1
  have e2 := kE.cell 2
  have e3 := kE.cell 3
  have e4 := kE.cell 4
  simp at e0 e1 e2 e3 e4
  have lE := kE.lt
  go_cut [124] (fun sa wx => sa = .bool false ∧ Below w20.heap.size w20 wx)
  case first =>
    go_region_held3 (fun w' => w'.cell? ⟨(w18.heap.size + 1), 0, none⟩ = some (.int .i64 2) ∧ w'.cell? ⟨(w18.heap.size + 1), 1, none⟩ = some (.int .i64 2) ∧ w'.cell? ⟨(w18.heap.size + 1), 2, none⟩ = some (.bool false) ∧ w'.cell? ⟨(w18.heap.size + 1), 3, none⟩ = some (.bool false) ∧ w'.cell? ⟨(w18.heap.size + 1), 4, none⟩ = some (.bool false))
      (refine ⟨?_, ?_, ?_, ?_, ?_⟩ <;> (repeat (with_reducible first | exact e0 | exact e1 | exact e2 | exact e3 | exact e4 | refine cell_drew ?_ | refine cell_later hbP ?_ | refine cell_later hbQ ?_ | refine cell_alloc _ ?_)))
      (first
        | (go_at_call 13; refine (page5c_any _ _).mono ?_; rintro e wP ⟨rfl, hbP⟩)
        | (go_at_call 36; have _h := hbP; refine (SL1.out _ _ _ ⟨_, _, rfl, by repeat (with_reducible first | exact hr_4 | refine Rd.to ?_ hbP | refine Rd.alloc ?_ _ | refine Rd.drew1 ?_)⟩ (by rw [HK1.out]; exact ⟨_, _, rfl, Rd.new _ _ rfl⟩)).mono ?_; rintro e wQ ⟨rfl, hbQ⟩))
    all_goals
      go_wp2_with fail
      go_meet
      exact ⟨rfl, by repeat (with_reducible first | exact Below.refl _ _ | refine bnext ?_ hbQ | refine bnext ?_ hbP | refine below_drew ?_ | refine balloc ?_ _)⟩
  case rest =>
    obtain ⟨rfl, hcC⟩ := hcut
    clear e0 e1 e2 e3 e4 lE
    clear hr_4
    replace hv1 := hv1.to hcC
    replace k1 := k1.to hcC
    replace kE := kE.to hcC
    replace hL := hL.below hcC
    replace hB0 := bnext hB0 hcC
    clear hcC
    obtain ⟨c_k1, f_k1, l_k1⟩ := k1.facts
    obtain ⟨c_kE, f_kE, l_kE⟩ := kE.facts
    go_wp2_with fail
    clear c_k1 f_k1 l_k1
    clear c_kE f_kE l_kE
    refine (U4.out _ _ hv1 hL).mono ?_
    rintro e w21 ⟨v_7, x_7, z_7, rfl, ha_7, _, hi_7, _, hz_7, hb21⟩
    replace hv1 := hv1.to hb21
    replace k1 := k1.to hb21
    replace kE := kE.to hb21
    replace hL := hL.below hb21
    replace hB0 := bnext hB0 hb21
    clear hb21
    obtain ⟨A7, c7, L7, cl7, B7, d7, rfl, -, -, -, -⟩ := id ha_7
    simp only [spcV] at ha_7 ⊢
    obtain ⟨Au_7, cu_7, rfl, hr_7⟩ := hi_7
    obtain ⟨Az_7, cz_7, rfl, hz_7⟩ := hz_7
    clear ha_7
    obtain ⟨c_k1, f_k1, l_k1⟩ := k1.facts
    obtain ⟨c_kE, f_kE, l_kE⟩ := kE.facts
    go_upto_region 15 with fail
    clear c_k1 f_k1 l_k1
    clear c_kE f_kE l_kE
    have hcN := balloc (Below.refl _ w21) (.cells #[.slice A7 ra4.length c7, .int .i64 rb4, .slice L7 rc4.length cl7, .slice B7 rd4.length d7] 28)
    generalize w21.alloc (.cells #[.slice A7 ra4.length c7, .int .i64 rb4, .slice L7 rc4.length cl7, .slice B7 rd4.length d7] 28) = w22 at *
    replace hv1 := hv1.to hcN
    replace hr_7 := hr_7.to hcN
    replace hz_7 := hz_7.to hcN
    replace k1 := k1.to hcN
    replace kE := kE.to hcN
    replace hL := hL.below hcN
    replace hB0 := bnext hB0 hcN
    clear hcN
    obtain ⟨c_k1, f_k1, l_k1⟩ := k1.facts
    obtain ⟨c_kE, f_kE, l_kE⟩ := kE.facts
    go_wp2_with fail
    clear c_k1 f_k1 l_k1
    clear c_kE f_kE l_kE
    refine (U7.out _ _ hv1 hL).mono ?_
    rintro e w23 ⟨v_8, rfl, hz_8, hb23⟩
    replace hv1 := hv1.to hb23
    replace hr_7 := hr_7.to hb23
    replace hz_7 := hz_7.to hb23
    replace k1 := k1.to hb23
    replace kE := kE.to hb23
    replace hL := hL.below hb23
    replace hB0 := bnext hB0 hb23
    clear hb23
    obtain ⟨Az_8, cz_8, rfl, hz_8⟩ := hz_8
    obtain ⟨c_k1, f_k1, l_k1⟩ := k1.facts
    obtain ⟨c_kE, f_kE, l_kE⟩ := kE.facts
    go_wp2_with fail
    clear c_k1 f_k1 l_k1
    clear c_kE f_kE l_kE
    refine (U5.out _ _ hv1 hL).mono ?_
    rintro e w24 ⟨v_9, rfl, ha_9, _, hb24⟩
    replace hv1 := hv1.to hb24
    replace hr_7 := hr_7.to hb24
    replace hz_7 := hz_7.to hb24
    replace hz_8 := hz_8.to hb24
    replace k1 := k1.to hb24
    replace kE := kE.to hb24
    replace hL := hL.below hb24
    replace hB0 := bnext hB0 hb24
    clear hb24
    obtain ⟨A9, c9, L9, cl9, B9, d9, rfl, -, -, -, -⟩ := id ha_9
    simp only [spcV] at ha_9 ⊢
    obtain ⟨c_k1, f_k1, l_k1⟩ := k1.facts
    obtain ⟨c_kE, f_kE, l_kE⟩ := kE.facts
    go_upto_region 17 with fail
    clear c_k1 f_k1 l_k1
    clear c_kE f_kE l_kE
    have kX := Bk.new w24 #[.slice A9 ra5.length c9, .int .i64 rb5, .slice L9 rc5.length cl9, .slice B9 rd5.length d9] 28
    have hcN := balloc (Below.refl _ w24) (.cells #[.slice A9 ra5.length c9, .int .i64 rb5, .slice L9 rc5.length cl9, .slice B9 rd5.length d9] 28)
    generalize w24.alloc (.cells #[.slice A9 ra5.length c9, .int .i64 rb5, .slice L9 rc5.length cl9, .slice B9 rd5.length d9] 28) = w25 at *
    replace hv1 := hv1.to hcN
    replace hr_7 := hr_7.to hcN
    replace hz_7 := hz_7.to hcN
    replace hz_8 := hz_8.to hcN
    replace ha_9 := ha_9.to hcN
    replace k1 := k1.to hcN
    replace kE := kE.to hcN
    replace hL := hL.below hcN
    replace hB0 := bnext hB0 hcN
    clear hcN
    have hB := below_drew (Below.refl w25.heap.size w25)
    have hu : (Tryd.prog.underlying 28).map (·.isRow) = some true := by kernel_rfl
    obtain ⟨dd, hu, hd⟩ := Option.map_eq_some_iff.1 hu
    have hal : ∀ (W : World) (ev : Operand → Value) (o : Oper), o.op = Op.alloc 28 → (execOp ev o).run Tryd.prog W = .ok (.value (.pointer (some ⟨W.heap.size, 0, none⟩))) (W.alloc (.cells #[.slice none 0 0, .int .i64 0, .slice none 0 0, .slice none 0 0] 28)) := fun W ev o ho => by unfold execOp; simp [ho, go_sem]
    have hcfP : ∀ (x : Value) (W : World), (callFunc 13 #[x]).run Tryd.prog W = .ok (.enter 13 #[x]) W := fun x W => by go_simp
    have hcfS : ∀ (x y z : Value) (W : World), (callFunc 12 #[x, y, z]).run Tryd.prog W = .ok (.enter 12 #[x, y, z]) W := fun x y z W => by go_simp
    have l9 := k1.lt
    refine wp_region_held_drew (S := fun w' => Bk w' w1.heap.size #[.slice A1 rs1.length c1, .int .i64 r1, .slice L1 ls1.length cl1, .slice B1 es1.length d1] 28) (by kernel_rfl) k1.drew (fun _ => ?_)
    refine takeD 0 (some 144) (.agg #[.slice A1 rs1.length c1, .int .i64 r1, .slice L1 ls1.length cl1, .slice B1 es1.length d1]) rfl rfl (by kernel_rfl) (by kernel_rfl) (by kernel_rfl) (fun _ _ _ h => h) (yieldsIf_load_mid (by rfl) 28 _ rfl w1.heap.size 0 rfl [.slice A1 rs1.length c1, .int .i64 r1, .slice L1 ls1.length cl1, .slice B1 es1.length d1] dd (fun w' e => e.range) hu hd (by kernel_rfl)) k1.drew ?_
    try simp only [Act.put, List.setIfInBounds_toArray, List.set_cons_zero, List.set_cons_succ]
    generalize hw_d : w25.drew = wd at *
    refine shareD (X := Nat × Value) (fun x W => Bk W x.1 #[.slice none 0 0, .int .i64 0, .slice none 0 0, .slice none 0 0] 28 ∧ w25.heap.size ≤ x.1 ∧ SpV W x.2 (ra6, rb6, rc6, rd6) ∧ SNo x.1 x.2 ∧ Below w25.heap.size w25 W) 2 #[true, true, true, true, true, true, true, false, false] (fun a x => ((((((a.put (some 145) (.agg #[.int .i64 1, .int .i64 5, .bool true, .bool false, .bool false])).put (some 146) (.tuple #[x.2, .int .i64 6])).put (some 143) (.tuple #[x.2, .int .i64 6])).put (some 147) x.2).put (some 148) (.int .i64 6)).put (some 22) (.pointer (some ⟨x.1, 0, none⟩)))) ?_ ?_
    · intro HK
      simp only [Act.put, List.setIfInBounds_toArray, List.set_cons_zero, List.set_cons_succ] at HK
      refine wpAnyH_all (rs := [1, 6]) (by kernel_rfl) (by simp) (fun i hiR => ?_)
      simp only [List.mem_cons, List.not_mem_nil, or_false] at hiR
      rcases hiR with rfl | rfl
      · skip
        refine callD 1 (some 145) rfl rfl rfl (f := 13) (args := #[.bool false]) (run_call1 (vx := .bool false) (x := _) rfl rfl rfl (hcfP _) _) (page5c_any false _) ?_
        rintro e wq1 ⟨rfl, hb_wq1⟩
        refine ⟨_, rfl, (k1.to hB).to hb_wq1, ?_⟩
        replace hB := hB.trans (hb_wq1.mono hB.size)
        clear hb_wq1
        try simp only [Act.put, List.setIfInBounds_toArray, List.set_cons_zero, List.set_cons_succ]
        refine wpAnyH_all (rs := [2, 6]) (by kernel_rfl) (by simp) (fun i hiR => ?_)
        simp only [List.mem_cons, List.not_mem_nil, or_false] at hiR
        rcases hiR with rfl | rfl
        · skip
          refine callD 2 (some 146) rfl rfl rfl (f := 12) (args := #[.agg #[.slice A1 rs1.length c1, .int .i64 r1, .slice L1 ls1.length cl1, .slice B1 es1.length d1], .int .i64 12, .agg #[.int .i64 1, .int .i64 5, .bool true, .bool false, .bool false]]) (run_call3 (vx := .agg #[.slice A1 rs1.length c1, .int .i64 r1, .slice L1 ls1.length cl1, .slice B1 es1.length d1]) (vy := .int .i64 12) (vz := .agg #[.int .i64 1, .int .i64 5, .bool true, .bool false, .bool false]) (x := .tmp 144) (y := _) (z := .tmp 145) rfl rfl rfl rfl rfl (hcfS _ _ _) _) (U6.out _ _ (SpV.to hv1 (show Below w25.heap.size w25 wq1 from hB)) (hL.below (show Below w25.heap.size w25 wq1 from hB))) ?_
          rintro e wq2 ⟨vQ, rfl, hvQ, hlQ, hb_wq2⟩
          refine ⟨_, rfl, (k1.to hB).to hb_wq2, ?_⟩
          replace hB := hB.trans (hb_wq2.mono hB.size)
          clear hb_wq2 hlQ
          try simp only [Act.put, List.setIfInBounds_toArray, List.set_cons_zero, List.set_cons_succ]
          refine takeD 3 (some 143) (.tuple #[vQ, .int .i64 6]) rfl rfl (by kernel_rfl) (by kernel_rfl) (by kernel_rfl) (fun _ _ _ h => h) (.inl ⟨rfl, fun w' hS => by go_simp⟩) (k1.to hB) ?_
          try simp only [Act.put, List.setIfInBounds_toArray, List.set_cons_zero, List.set_cons_succ]
          refine takeD 4 (some 147) (vQ) rfl rfl (by kernel_rfl) (by kernel_rfl) (by kernel_rfl) (fun _ _ _ h => h) (.inl ⟨rfl, fun w' hS => by go_simp⟩) (k1.to hB) ?_
          try simp only [Act.put, List.setIfInBounds_toArray, List.set_cons_zero, List.set_cons_succ]
          refine takeD 5 (some 148) (.int .i64 6) rfl rfl (by kernel_rfl) (by kernel_rfl) (by kernel_rfl) (fun _ _ _ h => h) (.inl ⟨rfl, fun w' hS => by go_simp⟩) (k1.to hB) ?_
          try simp only [Act.put, List.setIfInBounds_toArray, List.set_cons_zero, List.set_cons_succ]
          refine wpAnyH_all (rs := [6]) (by kernel_rfl) (by simp) (fun i hiR => ?_)
          obtain rfl : i = 6 := by simpa using hiR
          refine valD 6 (some 22) rfl rfl rfl (hal _ _ _ rfl) ⟨(k1.to hB).alloc _, ?_⟩
          have kA := Bk.new wq2 #[.slice none 0 0, .int .i64 0, .slice none 0 0, .slice none 0 0] 28
          have hcN := balloc (Below.refl _ wq2) (.cells #[.slice none 0 0, .int .i64 0, .slice none 0 0, .slice none 0 0] 28)
          have hgA : w25.heap.size ≤ wq2.heap.size := hB.size
          have hnA := SNo.new hvQ (Nat.le_refl _)
          generalize hw_wq3 : wq2.alloc (.cells #[.slice none 0 0, .int .i64 0, .slice none 0 0, .slice none 0 0] 28) = wq3 at *
          replace hvQ := hvQ.to hcN
          replace hB := hB.trans (hcN.mono hB.size)
          clear hcN
          try simp only [Act.put, List.setIfInBounds_toArray, List.set_cons_zero, List.set_cons_succ]
          exact HK (wq2.heap.size, vQ) _ ⟨kA, hgA, hvQ, hnA, hB⟩
        · skip
          refine valD 6 (some 22) rfl rfl rfl (hal _ _ _ rfl) ⟨(k1.to hB).alloc _, ?_⟩
          have kA := Bk.new wq1 #[.slice none 0 0, .int .i64 0, .slice none 0 0, .slice none 0 0] 28
          have hcN := balloc (Below.refl _ wq1) (.cells #[.slice none 0 0, .int .i64 0, .slice none 0 0, .slice none 0 0] 28)
          have hgA : w25.heap.size ≤ wq1.heap.size := hB.size
          generalize hw_wq4 : wq1.alloc (.cells #[.slice none 0 0, .int .i64 0, .slice none 0 0, .slice none 0 0] 28) = wq4 at *
          replace hB := hB.trans (hcN.mono hB.size)
          clear hcN
          try simp only [Act.put, List.setIfInBounds_toArray, List.set_cons_zero, List.set_cons_succ]
          refine wpAnyH_all (rs := [2]) (by kernel_rfl) (by simp) (fun i hiR => ?_)
          obtain rfl : i = 2 := by simpa using hiR
          refine callD 2 (some 146) rfl rfl rfl (f := 12) (args := #[.agg #[.slice A1 rs1.length c1, .int .i64 r1, .slice L1 ls1.length cl1, .slice B1 es1.length d1], .int .i64 12, .agg #[.int .i64 1, .int .i64 5, .bool true, .bool false, .bool false]]) (run_call3 (vx := .agg #[.slice A1 rs1.length c1, .int .i64 r1, .slice L1 ls1.length cl1, .slice B1 es1.length d1]) (vy := .int .i64 12) (vz := .agg #[.int .i64 1, .int .i64 5, .bool true, .bool false, .bool false]) (x := .tmp 144) (y := _) (z := .tmp 145) rfl rfl rfl rfl rfl (hcfS _ _ _) _) (U6.out _ _ (SpV.to hv1 (show Below w25.heap.size w25 wq4 from hB)) (hL.below (show Below w25.heap.size w25 wq4 from hB))) ?_
          rintro e wq5 ⟨vQ, rfl, hvQ, hlQ, hb_wq5⟩
          refine ⟨_, rfl, (k1.to hB).to hb_wq5, ?_⟩
          have hnA := SNo.loc hlQ kA.lt
          replace kA := kA.to hb_wq5
          replace hB := hB.trans (hb_wq5.mono hB.size)
          clear hb_wq5 hlQ
          try simp only [Act.put, List.setIfInBounds_toArray, List.set_cons_zero, List.set_cons_succ]
          refine takeD 3 (some 143) (.tuple #[vQ, .int .i64 6]) rfl rfl (by kernel_rfl) (by kernel_rfl) (by kernel_rfl) (fun _ _ _ h => h) (.inl ⟨rfl, fun w' hS => by go_simp⟩) (k1.to hB) ?_
          try simp only [Act.put, List.setIfInBounds_toArray, List.set_cons_zero, List.set_cons_succ]
          refine takeD 4 (some 147) (vQ) rfl rfl (by kernel_rfl) (by kernel_rfl) (by kernel_rfl) (fun _ _ _ h => h) (.inl ⟨rfl, fun w' hS => by go_simp⟩) (k1.to hB) ?_
          try simp only [Act.put, List.setIfInBounds_toArray, List.set_cons_zero, List.set_cons_succ]
          refine takeD 5 (some 148) (.int .i64 6) rfl rfl (by kernel_rfl) (by kernel_rfl) (by kernel_rfl) (fun _ _ _ h => h) (.inl ⟨rfl, fun w' hS => by go_simp⟩) (k1.to hB) ?_
          try simp only [Act.put, List.setIfInBounds_toArray, List.set_cons_zero, List.set_cons_succ]
          exact HK (wq1.heap.size, vQ) _ ⟨kA, hgA, hvQ, hnA, hB⟩
      · skip
        refine valD 6 (some 22) rfl rfl rfl (hal _ _ _ rfl) ⟨(k1.to hB).alloc _, ?_⟩
        have kA := Bk.new wd #[.slice none 0 0, .int .i64 0, .slice none 0 0, .slice none 0 0] 28
        have hcN := balloc (Below.refl _ wd) (.cells #[.slice none 0 0, .int .i64 0, .slice none 0 0, .slice none 0 0] 28)
        have hgA : w25.heap.size ≤ wd.heap.size := hB.size
        generalize hw_wq6 : wd.alloc (.cells #[.slice none 0 0, .int .i64 0, .slice none 0 0, .slice none 0 0] 28) = wq6 at *
        replace hB := hB.trans (hcN.mono hB.size)
        clear hcN
        try simp only [Act.put, List.setIfInBounds_toArray, List.set_cons_zero, List.set_cons_succ]
        refine wpAnyH_all (rs := [1]) (by kernel_rfl) (by simp) (fun i hiR => ?_)
        obtain rfl : i = 1 := by simpa using hiR
        refine callD 1 (some 145) rfl rfl rfl (f := 13) (args := #[.bool false]) (run_call1 (vx := .bool false) (x := _) rfl rfl rfl (hcfP _) _) (page5c_any false _) ?_
        rintro e wq7 ⟨rfl, hb_wq7⟩
        refine ⟨_, rfl, (k1.to hB).to hb_wq7, ?_⟩
        replace kA := kA.to hb_wq7
        replace hB := hB.trans (hb_wq7.mono hB.size)
        clear hb_wq7
        try simp only [Act.put, List.setIfInBounds_toArray, List.set_cons_zero, List.set_cons_succ]
        refine wpAnyH_all (rs := [2]) (by kernel_rfl) (by simp) (fun i hiR => ?_)
        obtain rfl : i = 2 := by simpa using hiR
        refine callD 2 (some 146) rfl rfl rfl (f := 12) (args := #[.agg #[.slice A1 rs1.length c1, .int .i64 r1, .slice L1 ls1.length cl1, .slice B1 es1.length d1], .int .i64 12, .agg #[.int .i64 1, .int .i64 5, .bool true, .bool false, .bool false]]) (run_call3 (vx := .agg #[.slice A1 rs1.length c1, .int .i64 r1, .slice L1 ls1.length cl1, .slice B1 es1.length d1]) (vy := .int .i64 12) (vz := .agg #[.int .i64 1, .int .i64 5, .bool true, .bool false, .bool false]) (x := .tmp 144) (y := _) (z := .tmp 145) rfl rfl rfl rfl rfl (hcfS _ _ _) _) (U6.out _ _ (SpV.to hv1 (show Below w25.heap.size w25 wq7 from hB)) (hL.below (show Below w25.heap.size w25 wq7 from hB))) ?_
        rintro e wq8 ⟨vQ, rfl, hvQ, hlQ, hb_wq8⟩
        refine ⟨_, rfl, (k1.to hB).to hb_wq8, ?_⟩
        have hnA := SNo.loc hlQ kA.lt
        replace kA := kA.to hb_wq8
        replace hB := hB.trans (hb_wq8.mono hB.size)
        clear hb_wq8 hlQ
        try simp only [Act.put, List.setIfInBounds_toArray, List.set_cons_zero, List.set_cons_succ]
        refine takeD 3 (some 143) (.tuple #[vQ, .int .i64 6]) rfl rfl (by kernel_rfl) (by kernel_rfl) (by kernel_rfl) (fun _ _ _ h => h) (.inl ⟨rfl, fun w' hS => by go_simp⟩) (k1.to hB) ?_
        try simp only [Act.put, List.setIfInBounds_toArray, List.set_cons_zero, List.set_cons_succ]
        refine takeD 4 (some 147) (vQ) rfl rfl (by kernel_rfl) (by kernel_rfl) (by kernel_rfl) (fun _ _ _ h => h) (.inl ⟨rfl, fun w' hS => by go_simp⟩) (k1.to hB) ?_
        try simp only [Act.put, List.setIfInBounds_toArray, List.set_cons_zero, List.set_cons_succ]
        refine takeD 5 (some 148) (.int .i64 6) rfl rfl (by kernel_rfl) (by kernel_rfl) (by kernel_rfl) (fun _ _ _ h => h) (.inl ⟨rfl, fun w' hS => by go_simp⟩) (k1.to hB) ?_
        try simp only [Act.put, List.setIfInBounds_toArray, List.set_cons_zero, List.set_cons_succ]
        exact HK (wd.heap.size, vQ) _ ⟨kA, hgA, hvQ, hnA, hB⟩
    clear hcfP hcfS hal
    rintro ⟨gA, vQ⟩ W ⟨kA, hgA, hvQ, hnA, hB⟩
    simp only at kA hgA hvQ hnA
    obtain ⟨AQ, cQ, LQ, clQ, BQ, dQ, rfl⟩ := hvQ.cells
    simp only at hvQ hnA ⊢
    simp only [Act.put, List.setIfInBounds_toArray, List.set_cons_zero, List.set_cons_succ]
    have k9 := k1.to hB
    refine wpAnyH_all (rs := [7]) (by kernel_rfl) (by simp) (fun i hiR => ?_)
    obtain rfl : i = 7 := by simpa using hiR
    have hBn := below_row hB hgA #[.slice AQ ra6.length cQ, .int .i64 rb6, .slice LQ rc6.length clQ, .slice BQ rd6.length dQ]
    have n9 := k9.rowfar (show w1.heap.size ≠ gA by omega) #[.slice AQ ra6.length cQ, .int .i64 rb6, .slice LQ rc6.length clQ, .slice BQ rd6.length dQ]
    refine storeD 7 rfl rfl rfl 28 _ _ rfl gA #[.slice AQ ra6.length cQ, .int .i64 rb6, .slice LQ rc6.length clQ, .slice BQ rd6.length dQ] rfl rfl 28 _ kA (by kernel_rfl) rfl (all_oneCell_toArray (fun v hv => by simp at hv; rcases hv with rfl | rfl | rfl | rfl <;> rfl)) ⟨n9, ?_⟩
    generalize World.setRow W gA #[.slice AQ ra6.length cQ, .int .i64 rb6, .slice LQ rc6.length clQ, .slice BQ rd6.length dQ] = wz at *
    replace hB := hBn
    try simp only [Act.put, List.setIfInBounds_toArray, List.set_cons_zero, List.set_cons_succ]
    refine takeD 8 (some 23) (.int .i64 6) rfl rfl (by kernel_rfl) (by kernel_rfl) (by kernel_rfl) (fun _ _ _ h => h) (.inl ⟨rfl, fun w' hS => by go_simp⟩) n9 ?_
    try simp only [Act.put, List.setIfInBounds_toArray, List.set_cons_zero, List.set_cons_succ]
    refine wpAnyH_done (by kernel_rfl) ?_ _
    clear kA hgA hvQ hnA k9 n9 hBn l9 hd hiR
    try simp only [Exit.then]
    try go_at_K
    try go_frame
    clear hv1 k1
    replace hr_7 := hr_7.to hB
    replace hz_7 := hz_7.to hB
    replace hz_8 := hz_8.to hB
    replace ha_9 := ha_9.to hB
    replace kE := kE.to hB
    replace kX := kX.to hB
    replace hL := hL.below hB
    replace hB0 := bnext hB0 hB
    clear hB
    clear F1 F2 F3 F4 F5 F6 F7 U1 U2 U3 U4 U5 U6 U7 SL1 HK1 HE1 HE2 HE3
    have htb := spv_tbvK ha_9
    clear ha_9
    obtain ⟨c_kE, f_kE, l_kE⟩ := kE.facts
    obtain ⟨c_kX, f_kX, l_kX⟩ := kX.facts
    go_wp2_with fail
    clear c_kE f_kE l_kE
    clear c_kX f_kX l_kX
    refine (U8.out _ _ htb hL).mono ?_
    rintro e w26 ⟨rfl, hb26⟩
    replace hr_7 := hr_7.to hb26
    replace hz_7 := hz_7.to hb26
    replace hz_8 := hz_8.to hb26
    replace htb := htb.to hb26
    replace kE := kE.to hb26
    replace kX := kX.to hb26
    replace hL := hL.below hb26
    replace hB0 := bnext hB0 hb26
    clear hb26
    clear htb kX
    clear U8
    obtain ⟨c_kE, f_kE, l_kE⟩ := kE.facts
    go_upto_region 19 with fail
    clear c_kE f_kE l_kE
    have kG := Bk.new w26 #[.int .i64 2, .int .i64 4, .bool false, .bool false, .bool false] 38
    have hcN := balloc (Below.refl _ w26) (.cells #[.int .i64 2, .int .i64 4, .bool false, .bool false, .bool false] 38)
    generalize w26.alloc (.cells #[.int .i64 2, .int .i64 4, .bool false, .bool false, .bool false] 38) = w27 at *
    replace hr_7 := hr_7.to hcN
    replace hz_7 := hz_7.to hcN
    replace hz_8 := hz_8.to hcN
    replace kE := kE.to hcN
    replace hL := hL.below hcN
    replace hB0 := bnext hB0 hcN
    clear hcN
    have hu : (Tryd.prog.underlying 38).map (·.isRow) = some true := by kernel_rfl
    obtain ⟨dd, hu, hd⟩ := Option.map_eq_some_iff.1 hu
    have hB := below_drew (Below.refl w27.heap.size w27)
    have hcfP : ∀ (x : Value) (W : World), (callFunc 13 #[x]).run Tryd.prog W = .ok (.enter 13 #[x]) W := fun x W => by go_simp
    have hcfL : ∀ (x y : Value) (W : World), (callFunc 36 #[x, y]).run Tryd.prog W = .ok (.enter 36 #[x, y]) W := fun x y W => by go_simp
    have hcfI : ∀ (x y : Value) (W : World), (callFunc 29 #[x, y]).run Tryd.prog W = .ok (.enter 29 #[x, y]) W := fun x y W => by go_simp
    have hcfA : ∀ (W : World), (callFunc 14 #[]).run Tryd.prog W = .ok (.enter 14 #[]) W := fun W => by go_simp
    have hbL : ∀ (W : World) (ev : Operand → Value) (o : Oper) (t : Array (Nat × Operand)), o.op = Op.buildSlice 58 2 t → t = #[(0, .tmp 157), (1, .tmp 159)] → ev (.tmp 157) = .agg #[.int .i64 9, .int .i64 1, .int .i64 5, .bool true, .bool false, .bool false, .int .i64 (-1)] → ev (.tmp 159) = .agg #[.int .i64 10, .int .i64 2, .int .i64 2, .bool false, .bool false, .bool false, .int .i64 (-1)] → (execOp ev o).run Tryd.prog W = .ok (.value (.slice (some ⟨W.heap.size, 0, none⟩) 2 2)) (W.alloc (.cells #[.int .i64 9, .int .i64 1, .int .i64 5, .bool true, .bool false, .bool false, .int .i64 (-1), .int .i64 10, .int .i64 2, .int .i64 2, .bool false, .bool false, .bool false, .int .i64 (-1)] 62)) := fun W ev o t ho ht h1 h2 => by subst ht; unfold execOp; simp [ho, h1, h2, go_sem]
    have hb2 : ∀ (W : World) (ev : Operand → Value) (o : Oper), o.op = Op.buildSlice 22 2 #[(0, .const (.int .i64 7)), (1, .const (.int .i64 3))] → ev (.const (.int .i64 7)) = .int .i64 7 → ev (.const (.int .i64 3)) = .int .i64 3 → (execOp ev o).run Tryd.prog W = .ok (.value (.slice (some ⟨W.heap.size, 0, none⟩) 2 2)) (W.alloc (.cells #[.int .i64 7, .int .i64 3] 3)) := fun W ev o ho h1 h2 => by unfold execOp; simp [ho, h1, h2, go_sem]
    have hb1 : ∀ (W : World) (ev : Operand → Value) (o : Oper), o.op = Op.buildSlice 22 1 #[(0, .const (.int .i64 9))] → ev (.const (.int .i64 9)) = .int .i64 9 → (execOp ev o).run Tryd.prog W = .ok (.value (.slice (some ⟨W.heap.size, 0, none⟩) 1 1)) (W.alloc (.cells #[.int .i64 9] 3)) := fun W ev o ho h1 => by unfold execOp; simp [ho, h1, go_sem]
    refine wp_region_held_drew (S := fun w' => Bk w' (w18.heap.size + 1) #[.int .i64 2, .int .i64 2, .bool false, .bool false, .bool false] 38 ∧ Bk w' w26.heap.size #[.int .i64 2, .int .i64 4, .bool false, .bool false, .bool false] 38) (by kernel_rfl) ⟨kE.drew, kG.drew⟩ (fun _ => ?_)
    generalize hw_d : w27.drew = wd at *
    refine takeD 0 (some 155) (.slice Au_7 lo2s.length cu_7) rfl rfl (by kernel_rfl) (by kernel_rfl) (by kernel_rfl) (fun _ _ _ h => h) (.inl ⟨rfl, fun w' hS => by go_simp⟩) ⟨kE.to hB, kG.to hB⟩ ?_
    try simp only [Act.put, List.setIfInBounds_toArray, List.set_cons_zero, List.set_cons_succ]
    refine takeD 3 (some 158) (.agg #[.int .i64 2, .int .i64 2, .bool false, .bool false, .bool false]) rfl rfl (by kernel_rfl) (by kernel_rfl) (by kernel_rfl) (fun _ _ _ h => h) (yieldsIf_load_mid (by rfl) 38 _ rfl (w18.heap.size + 1) 0 rfl [.int .i64 2, .int .i64 2, .bool false, .bool false, .bool false] dd (fun w' e => e.1.range) hu hd (by kernel_rfl)) ⟨kE.to hB, kG.to hB⟩ ?_
    try simp only [Act.put, List.setIfInBounds_toArray, List.set_cons_zero, List.set_cons_succ]
    refine takeD 4 (some 159) (.agg #[.int .i64 10, .int .i64 2, .int .i64 2, .bool false, .bool false, .bool false, .int .i64 (-1)]) rfl rfl (by kernel_rfl) (by kernel_rfl) (by kernel_rfl) (fun _ _ _ h => h) (.inl ⟨rfl, fun w' hS => by go_simp⟩) ⟨kE.to hB, kG.to hB⟩ ?_
    try simp only [Act.put, List.setIfInBounds_toArray, List.set_cons_zero, List.set_cons_succ]
    refine wpAnyH_all (rs := [1]) (by kernel_rfl) (by simp) (fun i hiR => ?_)
    obtain rfl : i = 1 := by simpa using hiR
    refine callD 1 (some 156) rfl rfl rfl (f := 13) (args := #[.bool false]) (run_call1 (vx := .bool false) (x := _) rfl rfl rfl (hcfP _) _) (page5c_any false _) ?_
    rintro e wr1 ⟨rfl, hb_wr1⟩
    refine ⟨_, rfl, ⟨(kE.to hB).to hb_wr1, (kG.to hB).to hb_wr1⟩, ?_⟩
    replace hB := hB.trans (hb_wr1.mono hB.size)
    clear hb_wr1
    try simp only [Act.put, List.setIfInBounds_toArray, List.set_cons_zero, List.set_cons_succ]
    refine takeD 2 (some 157) (.agg #[.int .i64 9, .int .i64 1, .int .i64 5, .bool true, .bool false, .bool false, .int .i64 (-1)]) rfl rfl (by kernel_rfl) (by kernel_rfl) (by kernel_rfl) (fun _ _ _ h => h) (.inl ⟨rfl, fun w' hS => by go_simp⟩) ⟨kE.to hB, kG.to hB⟩ ?_
    try simp only [Act.put, List.setIfInBounds_toArray, List.set_cons_zero, List.set_cons_succ]
    refine wpAnyH_all (rs := [5]) (by kernel_rfl) (by simp) (fun i hiR => ?_)
    obtain rfl : i = 5 := by simpa using hiR
    refine valD 5 (some 160) rfl rfl rfl (hbL _ _ _ _ rfl rfl rfl rfl) ⟨⟨(kE.to hB).alloc _, (kG.to hB).alloc _⟩, ?_⟩
    have hrL := Rd.new (w := wr1) (sz := 7) (n := 2) #[.int .i64 9, .int .i64 1, .int .i64 5, .bool true, .bool false, .bool false, .int .i64 (-1), .int .i64 10, .int .i64 2, .int .i64 2, .bool false, .bool false, .bool false, .int .i64 (-1)] 62 rfl
    have hrLg : wr1.heap.size = wr1.heap.size := rfl
    have hcN := balloc (Below.refl _ wr1) (.cells #[.int .i64 9, .int .i64 1, .int .i64 5, .bool true, .bool false, .bool false, .int .i64 (-1), .int .i64 10, .int .i64 2, .int .i64 2, .bool false, .bool false, .bool false, .int .i64 (-1)] 62)
    generalize hw_wr5 : wr1.alloc (.cells #[.int .i64 9, .int .i64 1, .int .i64 5, .bool true, .bool false, .bool false, .int .i64 (-1), .int .i64 10, .int .i64 2, .int .i64 2, .bool false, .bool false, .bool false, .int .i64 (-1)] 62) = wr5 at *
    replace hB := hB.trans (hcN.mono hB.size)
    clear hcN hrLg
    try simp only [Act.put, List.setIfInBounds_toArray, List.set_cons_zero, List.set_cons_succ]
    refine wpAnyH_all (rs := [6]) (by kernel_rfl) (by simp) (fun i hiR => ?_)
    obtain rfl : i = 6 := by simpa using hiR
    refine callD 6 (some 161) rfl rfl rfl (f := 36) (args := #[.slice Au_7 lo2s.length cu_7, .slice (some ⟨wr1.heap.size, 0, none⟩) 2 2]) (run_call2 (vx := .slice Au_7 lo2s.length cu_7) (vy := .slice (some ⟨wr1.heap.size, 0, none⟩) 2 2) (x := .tmp 155) (y := .tmp 160) rfl rfl rfl rfl (hcfL _ _) _) (SL2.out _ _ _ ⟨_, _, rfl, hr_7.to hB⟩ (by rw [HK2.out]; exact ⟨_, _, rfl, hrL⟩)) ?_
    rintro e wr6 ⟨rfl, hb_wr6⟩
    refine ⟨_, rfl, ⟨(kE.to hB).to hb_wr6, (kG.to hB).to hb_wr6⟩, ?_⟩
    replace hB := hB.trans (hb_wr6.mono hB.size)
    clear hb_wr6
    try simp only [Act.put, List.setIfInBounds_toArray, List.set_cons_zero, List.set_cons_succ]
    refine takeD 7 (some 162) (.bool true) rfl rfl (by kernel_rfl) (by kernel_rfl) (by kernel_rfl) (fun _ _ _ h => h) (.inl ⟨rfl, fun w' hS => by go_simp⟩) ⟨kE.to hB, kG.to hB⟩ ?_
    try simp only [Act.put, List.setIfInBounds_toArray, List.set_cons_zero, List.set_cons_succ]
    refine takeD 8 (some 163) (.slice Az_7 zF.length cz_7) rfl rfl (by kernel_rfl) (by kernel_rfl) (by kernel_rfl) (fun _ _ _ h => h) (.inl ⟨rfl, fun w' hS => by go_simp⟩) ⟨kE.to hB, kG.to hB⟩ ?_
    try simp only [Act.put, List.setIfInBounds_toArray, List.set_cons_zero, List.set_cons_succ]
    refine wpAnyH_all (rs := [9]) (by kernel_rfl) (by simp) (fun i hiR => ?_)
    obtain rfl : i = 9 := by simpa using hiR
    refine valD 9 (some 164) rfl rfl rfl (hb2 _ _ _ rfl rfl rfl) ⟨⟨(kE.to hB).alloc _, (kG.to hB).alloc _⟩, ?_⟩
    have hrF := Rd.new (w := wr6) (sz := 1) (n := 2) #[.int .i64 7, .int .i64 3] 3 rfl
    have hrFg : wr6.heap.size = wr6.heap.size := rfl
    have hcN := balloc (Below.refl _ wr6) (.cells #[.int .i64 7, .int .i64 3] 3)
    generalize hw_wr9 : wr6.alloc (.cells #[.int .i64 7, .int .i64 3] 3) = wr9 at *
    replace hB := hB.trans (hcN.mono hB.size)
    clear hcN hrFg
    try simp only [Act.put, List.setIfInBounds_toArray, List.set_cons_zero, List.set_cons_succ]
    refine wpAnyH_all (rs := [10]) (by kernel_rfl) (by simp) (fun i hiR => ?_)
    obtain rfl : i = 10 := by simpa using hiR
    refine callD 10 (some 165) rfl rfl rfl (f := 29) (args := #[.slice Az_7 zF.length cz_7, .slice (some ⟨wr6.heap.size, 0, none⟩) 2 2]) (run_call2 (vx := .slice Az_7 zF.length cz_7) (vy := .slice (some ⟨wr6.heap.size, 0, none⟩) 2 2) (x := .tmp 163) (y := .tmp 164) rfl rfl rfl rfl (hcfI _ _) _) (SF.out _ _ _ ⟨_, _, rfl, hz_7.to hB⟩ (by rw [HZF.out]; exact ⟨_, _, rfl, hrF⟩)) ?_
    rintro e wr10 ⟨rfl, hb_wr10⟩
    refine ⟨_, rfl, ⟨(kE.to hB).to hb_wr10, (kG.to hB).to hb_wr10⟩, ?_⟩
    replace hB := hB.trans (hb_wr10.mono hB.size)
    clear hb_wr10
    try simp only [Act.put, List.setIfInBounds_toArray, List.set_cons_zero, List.set_cons_succ]
    refine takeD 11 (some 166) (.bool true) rfl rfl (by kernel_rfl) (by kernel_rfl) (by kernel_rfl) (fun _ _ _ h => h) (.inl ⟨rfl, fun w' hS => by go_simp⟩) ⟨kE.to hB, kG.to hB⟩ ?_
    try simp only [Act.put, List.setIfInBounds_toArray, List.set_cons_zero, List.set_cons_succ]
    refine takeD 12 (some 167) (.bool true) rfl rfl (by kernel_rfl) (by kernel_rfl) (by kernel_rfl) (fun _ _ _ h => h) (.inl ⟨rfl, fun w' hS => by go_simp⟩) ⟨kE.to hB, kG.to hB⟩ ?_
    try simp only [Act.put, List.setIfInBounds_toArray, List.set_cons_zero, List.set_cons_succ]
    refine takeD 13 (some 168) (.int .i64 0) rfl rfl (by kernel_rfl) (by kernel_rfl) (by kernel_rfl) (fun _ _ _ h => h) (.inl ⟨rfl, fun w' hS => by go_simp⟩) ⟨kE.to hB, kG.to hB⟩ ?_
    try simp only [Act.put, List.setIfInBounds_toArray, List.set_cons_zero, List.set_cons_succ]
    refine takeD 14 (some 169) (.bool true) rfl rfl (by kernel_rfl) (by kernel_rfl) (by kernel_rfl) (fun _ _ _ h => h) (.inl ⟨rfl, fun w' hS => by go_simp⟩) ⟨kE.to hB, kG.to hB⟩ ?_
    try simp only [Act.put, List.setIfInBounds_toArray, List.set_cons_zero, List.set_cons_succ]
    refine takeD 15 (some 170) (.bool true) rfl rfl (by kernel_rfl) (by kernel_rfl) (by kernel_rfl) (fun _ _ _ h => h) (.inl ⟨rfl, fun w' hS => by go_simp⟩) ⟨kE.to hB, kG.to hB⟩ ?_
    try simp only [Act.put, List.setIfInBounds_toArray, List.set_cons_zero, List.set_cons_succ]
    refine takeD 16 (some 171) (.bool true) rfl rfl (by kernel_rfl) (by kernel_rfl) (by kernel_rfl) (fun _ _ _ h => h) (.inl ⟨rfl, fun w' hS => by go_simp⟩) ⟨kE.to hB, kG.to hB⟩ ?_
    try simp only [Act.put, List.setIfInBounds_toArray, List.set_cons_zero, List.set_cons_succ]
    refine takeD 17 (some 172) (.slice Az_8 zO.length cz_8) rfl rfl (by kernel_rfl) (by kernel_rfl) (by kernel_rfl) (fun _ _ _ h => h) (.inl ⟨rfl, fun w' hS => by go_simp⟩) ⟨kE.to hB, kG.to hB⟩ ?_
    try simp only [Act.put, List.setIfInBounds_toArray, List.set_cons_zero, List.set_cons_succ]
    refine wpAnyH_all (rs := [18]) (by kernel_rfl) (by simp) (fun i hiR => ?_)
    obtain rfl : i = 18 := by simpa using hiR
    refine valD 18 (some 173) rfl rfl rfl (hb1 _ _ _ rfl rfl) ⟨⟨(kE.to hB).alloc _, (kG.to hB).alloc _⟩, ?_⟩
    have hrO := Rd.new (w := wr10) (sz := 1) (n := 1) #[.int .i64 9] 3 rfl
    have hrOg : wr10.heap.size = wr10.heap.size := rfl
    have hcN := balloc (Below.refl _ wr10) (.cells #[.int .i64 9] 3)
    generalize hw_wr18 : wr10.alloc (.cells #[.int .i64 9] 3) = wr18 at *
    replace hB := hB.trans (hcN.mono hB.size)
    clear hcN hrOg
    try simp only [Act.put, List.setIfInBounds_toArray, List.set_cons_zero, List.set_cons_succ]
    refine wpAnyH_all (rs := [19]) (by kernel_rfl) (by simp) (fun i hiR => ?_)
    obtain rfl : i = 19 := by simpa using hiR
    refine callD 19 (some 174) rfl rfl rfl (f := 29) (args := #[.slice Az_8 zO.length cz_8, .slice (some ⟨wr10.heap.size, 0, none⟩) 1 1]) (run_call2 (vx := .slice Az_8 zO.length cz_8) (vy := .slice (some ⟨wr10.heap.size, 0, none⟩) 1 1) (x := .tmp 172) (y := .tmp 173) rfl rfl rfl rfl (hcfI _ _) _) (SO.out _ _ _ ⟨_, _, rfl, hz_8.to hB⟩ (by rw [HZO.out]; exact ⟨_, _, rfl, hrO⟩)) ?_
    rintro e wr19 ⟨rfl, hb_wr19⟩
    refine ⟨_, rfl, ⟨(kE.to hB).to hb_wr19, (kG.to hB).to hb_wr19⟩, ?_⟩
    replace hB := hB.trans (hb_wr19.mono hB.size)
    clear hb_wr19
    try simp only [Act.put, List.setIfInBounds_toArray, List.set_cons_zero, List.set_cons_succ]
    refine takeD 20 (some 175) (.bool true) rfl rfl (by kernel_rfl) (by kernel_rfl) (by kernel_rfl) (fun _ _ _ h => h) (.inl ⟨rfl, fun w' hS => by go_simp⟩) ⟨kE.to hB, kG.to hB⟩ ?_
    try simp only [Act.put, List.setIfInBounds_toArray, List.set_cons_zero, List.set_cons_succ]
    refine takeD 21 (some 176) (.bool true) rfl rfl (by kernel_rfl) (by kernel_rfl) (by kernel_rfl) (fun _ _ _ h => h) (.inl ⟨rfl, fun w' hS => by go_simp⟩) ⟨kE.to hB, kG.to hB⟩ ?_
    try simp only [Act.put, List.setIfInBounds_toArray, List.set_cons_zero, List.set_cons_succ]
    refine takeD 22 (some 177) (.int .i64 0) rfl rfl (by kernel_rfl) (by kernel_rfl) (by kernel_rfl) (fun _ _ _ h => h) (.inl ⟨rfl, fun w' hS => by go_simp⟩) ⟨kE.to hB, kG.to hB⟩ ?_
    try simp only [Act.put, List.setIfInBounds_toArray, List.set_cons_zero, List.set_cons_succ]
    refine takeD 23 (some 178) (.bool true) rfl rfl (by kernel_rfl) (by kernel_rfl) (by kernel_rfl) (fun _ _ _ h => h) (.inl ⟨rfl, fun w' hS => by go_simp⟩) ⟨kE.to hB, kG.to hB⟩ ?_
    try simp only [Act.put, List.setIfInBounds_toArray, List.set_cons_zero, List.set_cons_succ]
    refine takeD 24 (some 179) (.bool true) rfl rfl (by kernel_rfl) (by kernel_rfl) (by kernel_rfl) (fun _ _ _ h => h) (.inl ⟨rfl, fun w' hS => by go_simp⟩) ⟨kE.to hB, kG.to hB⟩ ?_
    try simp only [Act.put, List.setIfInBounds_toArray, List.set_cons_zero, List.set_cons_succ]
    refine takeD 25 (some 180) (.bool true) rfl rfl (by kernel_rfl) (by kernel_rfl) (by kernel_rfl) (fun _ _ _ h => h) (.inl ⟨rfl, fun w' hS => by go_simp⟩) ⟨kE.to hB, kG.to hB⟩ ?_
    try simp only [Act.put, List.setIfInBounds_toArray, List.set_cons_zero, List.set_cons_succ]
    refine takeD 26 (some 181) (.int .i64 1) rfl rfl (by kernel_rfl) (by kernel_rfl) (by kernel_rfl) (fun _ _ _ h => h) (.inl ⟨rfl, fun w' hS => by go_simp⟩) ⟨kE.to hB, kG.to hB⟩ ?_
    try simp only [Act.put, List.setIfInBounds_toArray, List.set_cons_zero, List.set_cons_succ]
    refine takeD 27 (some 182) (.bool true) rfl rfl (by kernel_rfl) (by kernel_rfl) (by kernel_rfl) (fun _ _ _ h => h) (.inl ⟨rfl, fun w' hS => by go_simp⟩) ⟨kE.to hB, kG.to hB⟩ ?_
    try simp only [Act.put, List.setIfInBounds_toArray, List.set_cons_zero, List.set_cons_succ]
    refine takeD 28 (some 183) (.bool true) rfl rfl (by kernel_rfl) (by kernel_rfl) (by kernel_rfl) (fun _ _ _ h => h) (.inl ⟨rfl, fun w' hS => by go_simp⟩) ⟨kE.to hB, kG.to hB⟩ ?_
    try simp only [Act.put, List.setIfInBounds_toArray, List.set_cons_zero, List.set_cons_succ]
    refine takeD 29 (some 184) (.bool true) rfl rfl (by kernel_rfl) (by kernel_rfl) (by kernel_rfl) (fun _ _ _ h => h) (.inl ⟨rfl, fun w' hS => by go_simp⟩) ⟨kE.to hB, kG.to hB⟩ ?_
    try simp only [Act.put, List.setIfInBounds_toArray, List.set_cons_zero, List.set_cons_succ]
    refine takeD 30 (some 185) (.int .i64 0) rfl rfl (by kernel_rfl) (by kernel_rfl) (by kernel_rfl) (fun _ _ _ h => h) (.inl ⟨rfl, fun w' hS => by go_simp⟩) ⟨kE.to hB, kG.to hB⟩ ?_
    try simp only [Act.put, List.setIfInBounds_toArray, List.set_cons_zero, List.set_cons_succ]
    refine takeD 31 (some 186) (.bool true) rfl rfl (by kernel_rfl) (by kernel_rfl) (by kernel_rfl) (fun _ _ _ h => h) (.inl ⟨rfl, fun w' hS => by go_simp⟩) ⟨kE.to hB, kG.to hB⟩ ?_
    try simp only [Act.put, List.setIfInBounds_toArray, List.set_cons_zero, List.set_cons_succ]
    refine takeD 32 (some 187) (.bool true) rfl rfl (by kernel_rfl) (by kernel_rfl) (by kernel_rfl) (fun _ _ _ h => h) (.inl ⟨rfl, fun w' hS => by go_simp⟩) ⟨kE.to hB, kG.to hB⟩ ?_
    try simp only [Act.put, List.setIfInBounds_toArray, List.set_cons_zero, List.set_cons_succ]
    refine takeD 33 (some 188) (.bool true) rfl rfl (by kernel_rfl) (by kernel_rfl) (by kernel_rfl) (fun _ _ _ h => h) (.inl ⟨rfl, fun w' hS => by go_simp⟩) ⟨kE.to hB, kG.to hB⟩ ?_
    try simp only [Act.put, List.setIfInBounds_toArray, List.set_cons_zero, List.set_cons_succ]
    refine takeD 34 (some 189) (.int .i64 6) rfl rfl (by kernel_rfl) (by kernel_rfl) (by kernel_rfl) (fun _ _ _ h => h) (.inl ⟨rfl, fun w' hS => by go_simp⟩) ⟨kE.to hB, kG.to hB⟩ ?_
    try simp only [Act.put, List.setIfInBounds_toArray, List.set_cons_zero, List.set_cons_succ]
    refine takeD 35 (some 190) (.bool true) rfl rfl (by kernel_rfl) (by kernel_rfl) (by kernel_rfl) (fun _ _ _ h => h) (.inl ⟨rfl, fun w' hS => by go_simp⟩) ⟨kE.to hB, kG.to hB⟩ ?_
    try simp only [Act.put, List.setIfInBounds_toArray, List.set_cons_zero, List.set_cons_succ]
    refine takeD 36 (some 191) (.bool true) rfl rfl (by kernel_rfl) (by kernel_rfl) (by kernel_rfl) (fun _ _ _ h => h) (.inl ⟨rfl, fun w' hS => by go_simp⟩) ⟨kE.to hB, kG.to hB⟩ ?_
    try simp only [Act.put, List.setIfInBounds_toArray, List.set_cons_zero, List.set_cons_succ]
    refine takeD 37 (some 192) (.bool true) rfl rfl (by kernel_rfl) (by kernel_rfl) (by kernel_rfl) (fun _ _ _ h => h) (.inl ⟨rfl, fun w' hS => by go_simp⟩) ⟨kE.to hB, kG.to hB⟩ ?_
    try simp only [Act.put, List.setIfInBounds_toArray, List.set_cons_zero, List.set_cons_succ]
    refine takeD 38 (some 193) (.agg #[.int .i64 2, .int .i64 4, .bool false, .bool false, .bool false]) rfl rfl (by kernel_rfl) (by kernel_rfl) (by kernel_rfl) (fun _ _ _ h => h) (yieldsIf_load_mid (by rfl) 38 _ rfl w26.heap.size 0 rfl [.int .i64 2, .int .i64 4, .bool false, .bool false, .bool false] dd (fun w' e => e.2.range) hu hd (by kernel_rfl)) ⟨kE.to hB, kG.to hB⟩ ?_
    try simp only [Act.put, List.setIfInBounds_toArray, List.set_cons_zero, List.set_cons_succ]
    refine takeD 39 (some 194) (.agg #[.int .i64 2, .int .i64 4, .bool false, .bool false, .bool false]) rfl rfl (by kernel_rfl) (by kernel_rfl) (by kernel_rfl) (fun _ _ _ h => h) (.inl ⟨rfl, fun w' hS => by go_simp⟩) ⟨kE.to hB, kG.to hB⟩ ?_
    try simp only [Act.put, List.setIfInBounds_toArray, List.set_cons_zero, List.set_cons_succ]
    refine takeD 40 (some 195) (.bool true) rfl rfl (by kernel_rfl) (by kernel_rfl) (by kernel_rfl) (fun _ _ _ h => h) (.inl ⟨rfl, fun w' hS => by have hq := eq_entK w'; go_simp⟩) ⟨kE.to hB, kG.to hB⟩ ?_
    try simp only [Act.put, List.setIfInBounds_toArray, List.set_cons_zero, List.set_cons_succ]
    refine takeD 41 (some 196) (.bool true) rfl rfl (by kernel_rfl) (by kernel_rfl) (by kernel_rfl) (fun _ _ _ h => h) (.inl ⟨rfl, fun w' hS => by go_simp⟩) ⟨kE.to hB, kG.to hB⟩ ?_
    try simp only [Act.put, List.setIfInBounds_toArray, List.set_cons_zero, List.set_cons_succ]
    refine takeD 42 (some 197) (.bool true) rfl rfl (by kernel_rfl) (by kernel_rfl) (by kernel_rfl) (fun _ _ _ h => h) (.inl ⟨rfl, fun w' hS => by go_simp⟩) ⟨kE.to hB, kG.to hB⟩ ?_
    try simp only [Act.put, List.setIfInBounds_toArray, List.set_cons_zero, List.set_cons_succ]
    refine takeD 43 (some 198) (.int .i64 0) rfl rfl (by kernel_rfl) (by kernel_rfl) (by kernel_rfl) (fun _ _ _ h => h) (.inl ⟨rfl, fun w' hS => by go_simp⟩) ⟨kE.to hB, kG.to hB⟩ ?_
    try simp only [Act.put, List.setIfInBounds_toArray, List.set_cons_zero, List.set_cons_succ]
    refine takeD 44 (some 199) (.bool true) rfl rfl (by kernel_rfl) (by kernel_rfl) (by kernel_rfl) (fun _ _ _ h => h) (.inl ⟨rfl, fun w' hS => by go_simp⟩) ⟨kE.to hB, kG.to hB⟩ ?_
    try simp only [Act.put, List.setIfInBounds_toArray, List.set_cons_zero, List.set_cons_succ]
    refine takeD 45 (some 200) (.bool true) rfl rfl (by kernel_rfl) (by kernel_rfl) (by kernel_rfl) (fun _ _ _ h => h) (.inl ⟨rfl, fun w' hS => by go_simp⟩) ⟨kE.to hB, kG.to hB⟩ ?_
    try simp only [Act.put, List.setIfInBounds_toArray, List.set_cons_zero, List.set_cons_succ]
    refine takeD 46 (some 201) (.bool true) rfl rfl (by kernel_rfl) (by kernel_rfl) (by kernel_rfl) (fun _ _ _ h => h) (.inl ⟨rfl, fun w' hS => by go_simp⟩) ⟨kE.to hB, kG.to hB⟩ ?_
    try simp only [Act.put, List.setIfInBounds_toArray, List.set_cons_zero, List.set_cons_succ]
    refine wpAnyH_all (rs := [47]) (by kernel_rfl) (by simp) (fun i hiR => ?_)
    obtain rfl : i = 47 := by simpa using hiR
    refine callD 47 (some 202) rfl rfl rfl (f := 14) (args := #[]) (run_call0 rfl rfl hcfA _) (awake27_any _ (hL.below (show Below w27.heap.size w27 _ from hB))) ?_
    rintro e wr47 ⟨rfl, hb_wr47⟩
    refine ⟨_, rfl, ⟨(kE.to hB).to hb_wr47, (kG.to hB).to hb_wr47⟩, ?_⟩
    replace hB := hB.trans (hb_wr47.mono hB.size)
    clear hb_wr47
    try simp only [Act.put, List.setIfInBounds_toArray, List.set_cons_zero, List.set_cons_succ]
    refine takeD 48 (some 203) (.bool true) rfl rfl (by kernel_rfl) (by kernel_rfl) (by kernel_rfl) (fun _ _ _ h => h) (.inl ⟨rfl, fun w' hS => by go_simp⟩) ⟨kE.to hB, kG.to hB⟩ ?_
    try simp only [Act.put, List.setIfInBounds_toArray, List.set_cons_zero, List.set_cons_succ]
    refine takeD 49 (some 0) (.bool true) rfl rfl (by kernel_rfl) (by kernel_rfl) (by kernel_rfl) (fun _ _ _ h => h) (.inl ⟨rfl, fun w' hS => by go_simp⟩) ⟨kE.to hB, kG.to hB⟩ ?_
    try simp only [Act.put, List.setIfInBounds_toArray, List.set_cons_zero, List.set_cons_succ]
    refine wpAnyH_done (by kernel_rfl) ?_ _
    try simp only [Exit.then]
    try go_at_K
    try go_frame
    replace hB0 := bnext hB0 hB
    go_wp2_with fail
    go_ret
    exact ⟨rfl, hB0⟩
end Go.Proofs.YtpkgfkhaiifooaaDoor
