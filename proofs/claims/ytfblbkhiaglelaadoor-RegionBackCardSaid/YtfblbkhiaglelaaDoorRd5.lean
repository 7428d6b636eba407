/- The reader of a text of regions: parse. -/
import Derived.Test.YtfblbkhiaglelaaDoorRd4
namespace Go.Proofs.YtfblbkhiaglelaaDoor
open Go Go.Proofs Go.RowKit
set_option linter.unusedSimpArgs false
set_option linter.unusedVariables false
set_option maxRecDepth 100000

theorem cell_one_newR (w : World) (x : Value) (t : TypeId) : ∀ j u, [x][j]? = some u → (w.alloc (.cells #[x] t)).cell? ((⟨w.heap.size, 0, none⟩ : Addr).add j) = some u := by
  intro j u hu
  rcases j with _ | j
  · simp at hu
    subst hu
    exact (Bk.new w #[x] t).cell 0
  · simp at hu
theorem bk_grown {w w' : World} {row : Option Nat} {b : Nat} {cs : Array Value} {t : TypeId} (K : Bk w b cs t) (hg : w.grownBy w' row) (hne : row ≠ some b) : Bk w' b cs t := by
  obtain ⟨_, _, _, _, h5⟩ := hg
  exact (h5 b K.lt (fun e => hne e.symm)).trans K
theorem parF_no (s : List UInt8) (f a n k : Nat) (out : List (Int × Int)) (pl : List Int) (h : numL (s.drop a) = (n, k, false)) : parF s (f + 1) a out pl = ([], [], some (a + k)) := by
  rw [parF, one_no s a n k h, if_pos rfl]
theorem parF_end (s : List UInt8) (f a n n2 m : Nat) (out : List (Int × Int)) (pl : List Int) (h : oneL (s.drop a) = (n, n2, m, true)) (hl : s.length ≤ a + m) : parF s (f + 1) a out pl = (out ++ [((n : Int), (n2 : Int))], pl ++ [(a : Int)], none) := by
  rw [parF, h]
  simp only
  rw [if_neg (by simp), if_pos hl]
theorem parF_go (s : List UInt8) (f a n n2 m : Nat) (out : List (Int × Int)) (pl : List Int) (h : oneL (s.drop a) = (n, n2, m, true)) (hl : ¬ s.length ≤ a + m) (hc : s.getD (a + m) 0 = 32) : parF s (f + 1) a out pl = parF s f (a + m + 1) (out ++ [((n : Int), (n2 : Int))]) (pl ++ [(a : Int)]) := by
  rw [parF, h]
  simp only
  rw [if_neg (by simp), if_neg hl, if_pos hc]
theorem parF_bad (s : List UInt8) (f a n n2 m : Nat) (out : List (Int × Int)) (pl : List Int) (h : oneL (s.drop a) = (n, n2, m, true)) (hl : ¬ s.length ≤ a + m) (hc : s.getD (a + m) 0 ≠ 32) : parF s (f + 1) a out pl = ([], [], some (a + m)) := by
  rw [parF, h]
  simp only
  rw [if_neg (by simp), if_neg hl, if_neg hc]
theorem parF_no2 (s : List UInt8) (f a n k n2 k2 : Nat) (out : List (Int × Int)) (pl : List Int) (h : numL (s.drop a) = (n, k, true)) (hd : s.getD (a + k) 0 = 45) (h2 : numL (s.drop (a + k + 1)) = (n2, k2, false)) : parF s (f + 1) a out pl = ([], [], some (a + (k + 1 + k2))) := by
  rw [parF, one_dash s a n k n2 k2 false h hd h2, if_pos rfl]
  simp only
  rw [if_pos trivial]
theorem dash_no (s : List UInt8) (i : Nat) (hd : ¬ (i < s.length ∧ s.getD i 0 = 45)) : s.getD i 0 ≠ 45 := by
  intro e
  by_cases h : i < s.length
  · exact hd ⟨h, e⟩
  · rw [gd_out s i (by omega)] at e
    exact absurd e (by decide)
def PsR (w : World) (b : Nat) (s : List UInt8) (R : List (Int × Int) × List Int × Option Nat) (v1 v2 : Value) (wr : World) : Prop :=
  ∃ (f a : Nat) (out : List (Int × Int)) (pl : List Int), a ≤ s.length ∧ s.length + 1 ≤ a + f ∧ out.length ≤ a ∧ pl.length ≤ a ∧ Hid (parF s f a out pl = R) ∧ Bk wr b #[.string ⟨s.toArray⟩, .int .i64 a, .bool false] 71 ∧ Two w.heap.size wr v1 v2 out pl ∧ Tch b w wr
def PsE (w : World) (b : Nat) (s : List UInt8) (R : List (Int × Int) × List Int × Option Nat) (e : Ending) (w' : World) : Prop :=
  Tch b w w' ∧ match R with
    | (_, _, some p) => e = .returned (.tuple #[.slice none 0 0, .slice none 0 0]) ∧ Bk w' b #[.string ⟨s.toArray⟩, .int .i64 (p : Int), .bool true] 71
    | (out, pl, none) => ∃ v1 v2 z, e = .returned (.tuple #[v1, v2]) ∧ Two w.heap.size w' v1 v2 out pl ∧ Bk w' b #[.string ⟨s.toArray⟩, .int .i64 z, .bool false] 71
set_option maxHeartbeats 2000000 in
theorem rparse_any (s : List UInt8) (b : Nat) (w : World) (K : Bk w b #[.string ⟨s.toArray⟩, .int .i64 0, .bool false] 71) (h0 : 0 < s.length) (hs : s.length ≤ 1000) :
    Calls Tryd.prog 41 #[.pointer (some ⟨b, 0, none⟩)] w fun e w' => PsE w b s (parF s (s.length + 1) 0 [] []) e w' := by
  obtain ⟨R, hR⟩ : ∃ R, parF s (s.length + 1) 0 [] [] = R := ⟨_, rfl⟩
  rw [hR]
  have HR := Lib.hid hR
  clear hR
  obtain ⟨i0, hi, hz0, hz1, hz2⟩ := info_parts infoRgK
  obtain ⟨j0, hj, hy0, hy1, hy2⟩ := info_parts infoIntR
  have hbw := K.lt
  go_enter Tryd.func41, Tryd.ntmps41
  go_wp2_with fail
  go_loopw [2, 3] (PsR w b s R) (fun _ _ wr => s.length + 1 - nmz wr b 0)
  case atStart => exact ⟨s.length + 1, 0, [], [], by omega, by omega, by simp, by simp, HR, K, ⟨World.ownsRow_nil _ _ _ _, World.ownsRow_nil _ _ _ _, fun g e => by cases e⟩, Tch.refl _ _⟩
  case round =>
    clear K HR
    obtain ⟨f, a, out, pl, ha, hf, hol, hpl, HR, K, TW, T⟩ := hrel
    have hI : (0 : Int) < (s.length : Int) := by omega
    have cb0 := K.cell 0
    have cb1 := K.cell 1
    simp only [List.getElem?_toArray, List.getElem?_cons_zero, List.getElem?_cons_succ] at cb0 cb1
    have hTs := T.size
    go_wp2_with (at_builtin; refine wpList_append_own_at _ rfl _ _ 33 rfl w.heap.size 3 j0 (.int .i64 0) 1 8 Tryd.underlying33 hj hy0 hy1 hy2 rfl (by decide) u3 pl.length (pl.map (Value.int .i64)) rfl (TW.b.alloc _) ⟨wr.heap.size, 0, none⟩ 1 1 [.int .i64 (a : Int)] rfl rfl (cell_one_newR _ _ _) (by simp [Value.oneCell']) (by simp only [maxLen]; omega) (by omega) (by simp; omega) ?_; intro v' w1 hown1 hgr1 _ hloc1)
    have TW1 : Two w.heap.size w1 u2 v' out (pl ++ [(a : Int)]) := (TW.alloc _).app2 hgr1 hown1 hloc1
    have T1 : Tch b w w1 := Tch.grown (B := 0) (T.alloc _) hgr1 (fun g e => (TW.b.lt g e).1)
    have K1 := bk_grown (K.alloc (.cells #[.int .i64 (a : Int)] 3)) hgr1 (fun e => by have := (TW.b.lt b e).1; omega)
    have HZ := Lib.hid (nmz_of 0 K)
    clear hgr1 hown1 hloc1 TW T K cb0 cb1 hTs
    obtain ⟨f, rfl⟩ : ∃ f', f = f' + 1 := ⟨f - 1, by omega⟩
    have HC := Lib.hid (rnum_any s b a false w1 K1 ha (by omega))
    have hb1 := numL_bd (s.drop a)
    have hin := numL_in s a ha
    rcases hnum : numL (s.drop a) with ⟨n, k, ok⟩
    rw [hnum] at HC hb1 hin
    simp only at hb1 hin
    go_at_call 49
    rcases ok with _ | _
    · have HE := Lib.hid (HR.out.symm.trans (parF_no s f a n k out pl hnum))
      refine HC.out.mono ?_
      rintro e w2 ⟨rfl, K2, T2⟩
      have c2 := K2.cell 2
      simp only [List.getElem?_toArray, List.getElem?_cons_zero, List.getElem?_cons_succ, Bool.not_false, Bool.or_true] at c2 K2
      clear hnum HC HR
      go_wp2_with fail
      go_ret2
      rw [HE.out]
      exact ⟨T1.trans T2, rfl, K2⟩
    · refine HC.out.mono ?_
      rintro e w2 ⟨rfl, K2, T2⟩
      simp only [Bool.not_true, Bool.or_false] at K2
      have c2 := K2.cell 2
      simp only [List.getElem?_toArray, List.getElem?_cons_zero, List.getElem?_cons_succ] at c2
      have TW2 := TW1.tch T2 hbw
      have T02 := T1.trans T2
      rw [show (a : Int) + (k : Int) = ((a + k : Nat) : Int) by omega] at K2
      have HNUM := Lib.hid hnum
      clear HC hnum TW1 T1 K1 T2
      by_cases hd : a + k < s.length ∧ s.getD (a + k) 0 = 45
      · obtain ⟨hd1, hd2⟩ := hd
        go_wp2_with fail
        go_at_call 50
        refine (rnext_t s b (a + k) 45 false _ K2 (by omega) hd1 (by rw [hd2]; rfl)).mono ?_
        rintro e w3 ⟨rfl, K3, T3⟩
        have TW3 := TW2.tch T3 hbw
        have T03 := T02.trans T3
        rw [show ((a + k : Nat) : Int) + 1 = ((a + k + 1 : Nat) : Int) by omega] at K3
        have HC2 := Lib.hid (rnum_any s b (a + k + 1) false w3 K3 (by omega) (by omega))
        have hb2 := numL_bd (s.drop (a + k + 1))
        have hin2 := numL_in s (a + k + 1) (by omega)
        rcases hnum2 : numL (s.drop (a + k + 1)) with ⟨n2, k2, ok2⟩
        rw [hnum2] at HC2 hb2 hin2
        simp only at hb2 hin2
        have hm1 : 1 ≤ k := hb1.2.2 trivial
        obtain ⟨m, hmm⟩ : ∃ m, k + 1 + k2 = m := ⟨_, rfl⟩
        rcases ok2 with _ | _
        · have HE := Lib.hid (HR.out.symm.trans (parF_no2 s f a n k n2 k2 out pl HNUM.out hd2 hnum2))
          clear hnum2 hd2
          go_wp2_with fail
          go_at_call 49
          refine HC2.out.mono ?_
          rintro e w4 ⟨rfl, K4, T4⟩
          simp only [Bool.not_false, Bool.or_true] at K4
          rw [show ((a + k + 1 : Nat) : Int) + (k2 : Int) = ((a + (k + 1 + k2) : Nat) : Int) by omega] at K4
          have c4 := K4.cell 2
          simp only [List.getElem?_toArray, List.getElem?_cons_zero, List.getElem?_cons_succ] at c4
          go_wp2_with fail
          go_ret2
          rw [HE.out]
          exact ⟨T03.trans T4, rfl, K4⟩
        · have HONE := Lib.hid (one_dash s a n k n2 k2 true HNUM.out hd2 hnum2)
          simp only [Bool.true_eq_false, if_false, reduceCtorEq] at HONE
          rw [hmm] at HONE
          clear hnum2 hd2
          go_wp2_with fail
          go_at_call 49
          refine HC2.out.mono ?_
          rintro e w4 ⟨rfl, K5, T4⟩
          simp only [Bool.not_true, Bool.or_false] at K5
          rw [show ((a + k + 1 : Nat) : Int) + (k2 : Int) = ((a + m : Nat) : Int) by omega] at K5
          have TW5 := TW3.tch T4 hbw
          have T5 := T03.trans T4
          have hm : a + m ≤ s.length := by omega
          have c5 := K5.cell 2
          simp only [List.getElem?_toArray, List.getElem?_cons_zero, List.getElem?_cons_succ] at c5
          clear K2 T3 TW2 T02 c2 K3 TW3 T03 T4 HC2 HNUM
          go_wp2_with (at_builtin; refine wpList_append_own_at _ rfl _ _ 22 rfl w.heap.size 65 i0 (.agg #[.int .i64 0, .int .i64 0]) 2 16 Tryd.underlying22 hi hz0 hz1 hz2 rfl (by decide) u2 out.length (flat2 .i64 out) rfl (TW5.a.alloc _) ⟨w4.heap.size, 0, none⟩ 1 1 [.int .i64 (n : Int), .int .i64 (n2 : Int)] rfl rfl (cell_two_new _ _ _ _) (by simp [Value.oneCell']) (by simp only [maxLen]; omega) (by omega) (by have := T5.size; simp; omega) ?_; intro v6 w6 hown6 hgr6 _ hloc6)
          have TW6 := (TW5.alloc _).app1 hgr6 hown6 hloc6
          have T6 : Tch b w w6 := Tch.grown (B := 0) (T5.alloc _) hgr6 (fun g e => (TW5.a.lt g e).1)
          have K6 := bk_grown (K5.alloc _) hgr6 (fun e => by have := (TW5.a.lt b e).1; omega)
          clear hgr6 hown6 hloc6 TW5 T5 K5
          have d0 := K6.cell 0
          have d1 := K6.cell 1
          have d2 := K6.cell 2
          have f2 := K6.frozen 2
          simp only [List.getElem?_toArray, List.getElem?_cons_zero, List.getElem?_cons_succ] at d0 d1 d2
          by_cases hend : s.length = a + m
          · have HE := Lib.hid (HR.out.symm.trans (parF_end s f a n n2 m out pl HONE.out (by omega)))
            have eE : (((a + m : Nat) : Int) == (s.length : Int)) = true := by simp; omega
            have eE2 : ((a : Int) + (m : Nat) == (s.length : Int)) = true := by simp; omega
            go_wp2_with fail
            go_quiet (fail)
            go_wp2_with fail
            go_ret2
            rw [HE.out]
            exact ⟨T6.drewN _, v6, v', _, rfl, ⟨TW6.a, TW6.b, TW6.ne⟩, K6⟩
          · have eE : (((a + m : Nat) : Int) == (s.length : Int)) = false := by simp; omega
            have eE2 : ((a : Int) + (m : Nat) == (s.length : Int)) = false := by simp; omega
            have hlt : a + m < s.length := by omega
            by_cases hc : s.getD (a + m) 0 = 32
            · have HE := Lib.hid (HR.out.symm.trans (parF_go s f a n n2 m out pl HONE.out (by omega) hc))
              have HX := Lib.hid (fun w K => rnext_t s b (a + m) 32 false w K (by omega) hlt (by rw [hc]; rfl))
              clear hc
              go_wp2_with fail
              go_quiet (fail)
              go_wp2_with fail
              go_at_call 50
              refine (HX.out (w6.drewN nq) (K6.drewN nq)).mono ?_
              rintro e w7 ⟨rfl, K7, T7⟩
              rw [show ((a + m : Nat) : Int) + 1 = ((a + m + 1 : Nat) : Int) by omega] at K7
              have TW7 := Two.tch (w := w6.drewN nq) ⟨TW6.a, TW6.b, TW6.ne⟩ T7 hbw
              go_wp2_with fail
              go_roundw
              case rel => exact ⟨f, a + m + 1, _, _, by omega, by omega, by simp; omega, by simp; omega, Lib.hid HE.out.symm, K7, TW7, (T6.drewN _).trans T7⟩
              case measure => rw [nmz_of 0 K7, HZ.out]; omega
            · have HE := Lib.hid (HR.out.symm.trans (parF_bad s f a n n2 m out pl HONE.out (by omega) hc))
              have HX := Lib.hid (fun w K => rnext_f s b (a + m) 32 false w K (by omega) hm (fun _ e => hc (UInt8.toNat_inj.1 e)))
              clear hc
              go_wp2_with fail
              go_quiet (fail)
              go_wp2_with fail
              go_at_call 50
              refine (HX.out (w6.drewN nq) (K6.drewN nq)).mono ?_
              rintro e w7 ⟨rfl, K7, T7⟩
              have g2 := K7.cell 2
              have g3 := K7.frozen 2
              simp only [List.getElem?_toArray, List.getElem?_cons_zero, List.getElem?_cons_succ] at g2
              go_wp2_with fail
              go_ret2
              rw [HE.out]
              exact ⟨((T6.drewN _).trans T7).put 2 _, rfl, bkp2 K7⟩
      · go_wp2_with fail
        go_at_call 50
        refine (rnext_f s b (a + k) 45 false _ K2 (by omega) hin (fun h e => hd ⟨h, UInt8.toNat_inj.1 e⟩)).mono ?_
        rintro e w3 ⟨rfl, K5, T3⟩
        have TW5 := TW2.tch T3 hbw
        have T5 := T02.trans T3
        have HONE := Lib.hid (one_plain s a n k HNUM.out (dash_no s (a + k) hd))
        have hm : a + k ≤ s.length := hin
        have hm1 : 1 ≤ k := hb1.2.2 trivial
        have c5 := K5.cell 2
        simp only [List.getElem?_toArray, List.getElem?_cons_zero, List.getElem?_cons_succ] at c5
        clear K2 T3 TW2 T02 c2
        go_wp2_with (at_builtin; refine wpList_append_own_at _ rfl _ _ 22 rfl w.heap.size 65 i0 (.agg #[.int .i64 0, .int .i64 0]) 2 16 Tryd.underlying22 hi hz0 hz1 hz2 rfl (by decide) u2 out.length (flat2 .i64 out) rfl (TW5.a.alloc _) ⟨w3.heap.size, 0, none⟩ 1 1 [.int .i64 (n : Int), .int .i64 (n : Int)] rfl rfl (cell_two_new _ _ _ _) (by simp [Value.oneCell']) (by simp only [maxLen]; omega) (by omega) (by have := T5.size; simp; omega) ?_; intro v6 w6 hown6 hgr6 _ hloc6)
        have TW6 := (TW5.alloc _).app1 hgr6 hown6 hloc6
        have T6 : Tch b w w6 := Tch.grown (B := 0) (T5.alloc _) hgr6 (fun g e => (TW5.a.lt g e).1)
        have K6 := bk_grown (K5.alloc _) hgr6 (fun e => by have := (TW5.a.lt b e).1; omega)
        clear hgr6 hown6 hloc6 TW5 T5 K5
        have d0 := K6.cell 0
        have d1 := K6.cell 1
        have d2 := K6.cell 2
        have f2 := K6.frozen 2
        simp only [List.getElem?_toArray, List.getElem?_cons_zero, List.getElem?_cons_succ] at d0 d1 d2
        by_cases hend : s.length = a + k
        · have HE := Lib.hid (HR.out.symm.trans (parF_end s f a n n k out pl HONE.out (by omega)))
          have eE : (((a + k : Nat) : Int) == (s.length : Int)) = true := by simp; omega
          have eE2 : ((a : Int) + (k : Nat) == (s.length : Int)) = true := by simp; omega
          go_wp2_with fail
          go_quiet (fail)
          go_wp2_with fail
          go_ret2
          rw [HE.out]
          exact ⟨T6.drewN _, v6, v', _, rfl, ⟨TW6.a, TW6.b, TW6.ne⟩, K6⟩
        · have eE : (((a + k : Nat) : Int) == (s.length : Int)) = false := by simp; omega
          have eE2 : ((a : Int) + (k : Nat) == (s.length : Int)) = false := by simp; omega
          have hlt : a + k < s.length := by omega
          by_cases hc : s.getD (a + k) 0 = 32
          · have HE := Lib.hid (HR.out.symm.trans (parF_go s f a n n k out pl HONE.out (by omega) hc))
            have HX := Lib.hid (fun w K => rnext_t s b (a + k) 32 false w K (by omega) hlt (by rw [hc]; rfl))
            clear hc
            go_wp2_with fail
            go_quiet (fail)
            go_wp2_with fail
            go_at_call 50
            refine (HX.out (w6.drewN nq) (K6.drewN nq)).mono ?_
            rintro e w7 ⟨rfl, K7, T7⟩
            rw [show ((a + k : Nat) : Int) + 1 = ((a + k + 1 : Nat) : Int) by omega] at K7
            have TW7 := Two.tch (w := w6.drewN nq) ⟨TW6.a, TW6.b, TW6.ne⟩ T7 hbw
            go_wp2_with fail
            go_roundw
            case rel => exact ⟨f, a + k + 1, _, _, by omega, by omega, by simp; omega, by simp; omega, Lib.hid HE.out.symm, K7, TW7, (T6.drewN _).trans T7⟩
            case measure => rw [nmz_of 0 K7, HZ.out]; omega
          · have HE := Lib.hid (HR.out.symm.trans (parF_bad s f a n n k out pl HONE.out (by omega) hc))
            have HX := Lib.hid (fun w K => rnext_f s b (a + k) 32 false w K (by omega) hm (fun _ e => hc (UInt8.toNat_inj.1 e)))
            clear hc
            go_wp2_with fail
            go_quiet (fail)
            go_wp2_with fail
            go_at_call 50
            refine (HX.out (w6.drewN nq) (K6.drewN nq)).mono ?_
            rintro e w7 ⟨rfl, K7, T7⟩
            have g2 := K7.cell 2
            have g3 := K7.frozen 2
            simp only [List.getElem?_toArray, List.getElem?_cons_zero, List.getElem?_cons_succ] at g2
            go_wp2_with fail
            go_ret2
            rw [HE.out]
            exact ⟨((T6.drewN _).trans T7).put 2 _, rfl, bkp2 K7⟩
end Go.Proofs.YtfblbkhiaglelaaDoor
