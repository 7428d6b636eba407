/- Which range a text is, by the reference. -/
import Derived.Test.YtmaebbbaooodaaaDoorAdQ
namespace Go.Proofs.YtmaebbbaooodaaaDoor
open Go Go.Proofs Go.RowKit
set_option linter.unusedSimpArgs false
set_option linter.unusedVariables false
set_option maxRecDepth 100000

theorem bext (l : List UInt8) (i j : Nat) : (⟨l.toArray⟩ : ByteArray).extract i j = ⟨((l.drop i).take (j - i)).toArray⟩ := by
  rw [Lib.extract_eq]
theorem occ_ext (l : List UInt8) (k : Nat) (h : k + 1 < l.length) : (((⟨l.toArray⟩ : ByteArray).extract k (k + 2)).toList == [46, 46]) = Lib.occAt l [46, 46] k := by
  rw [Lib.extract_toList]
  show ((l.drop k).take (k + 2 - k) == [46, 46]) = _
  unfold Lib.occAt
  have h0 : k < l.length := by omega
  rw [List.drop_eq_getElem_cons h0, List.drop_eq_getElem_cons h, show k + 2 - k = 2 by omega]
  generalize l[k] = a
  generalize l[k + 1] = b
  by_cases ha : a = 46
  · by_cases hb : b = 46
    · subst ha hb; simp [List.isPrefixOf]
    · have h1 : (b == 46) = false := by simpa using hb
      have h2 : ((46 : UInt8) == b) = false := by simpa using Ne.symm hb
      subst ha; simp [List.isPrefixOf, h1, h2]
  · have h1 : (a == 46) = false := by simpa using ha
    have h2 : ((46 : UInt8) == a) = false := by simpa using Ne.symm ha
    simp [List.isPrefixOf, h1, h2]
set_option maxHeartbeats 600000 in
theorem rParse_any (l : List UInt8) (w : World) (hl : l.length ≤ 100000) :
    Calls Tryd.prog 10 #[.string ⟨l.toArray⟩] w fun e w' => RgRes w w' (parA l) e := by
  have kR := Bk.new w #[.int .i64 0, .int .i64 0] 23
  have hB1 := balloc (Below.refl _ w) (.cells #[.int .i64 0, .int .i64 0] 23)
  generalize hw1 : w.alloc (.cells #[.int .i64 0, .int .i64 0] 23) = w1 at *
  go_enter Tryd.func10, Tryd.ntmps10
  go_wp2_with fail
  go_loop [4, 5, 6] (fun f t i => ∃ k : Nat, k ≤ l.length ∧ f = .string ⟨l.toArray⟩ ∧ t = .string ⟨l.toArray⟩ ∧ i = .int .i64 k ∧ Hid (∀ j, j < k → Lib.occAt l [46, 46] j = false)) (fun _ _ i => l.length - (intOf i).toNat)
  case atStart => exact ⟨0, by omega, rfl, rfl, rfl, Lib.hid (fun j h => by omega)⟩
  case round =>
    obtain ⟨k, hk, rfl, rfl, rfl, Hno⟩ := hrel
    by_cases hlt : k + 1 < l.length
    · have hi1 : (k : Int) + 1 < (l.length : Int) := by omega
      have hi2 : (k : Int) + 2 ≤ (l.length : Int) := by omega
      have hoc := occ_ext l k hlt
      rcases ho : Lib.occAt l [46, 46] k with _ | _
      · rw [ho] at hoc
        have HN : Hid (∀ j, j < k + 1 → Lib.occAt l [46, 46] j = false) := Lib.hid (fun j h => by
          rcases Nat.lt_or_ge j k with h' | h'
          · exact Hno.out j h'
          · rw [show j = k by omega]; exact ho)
        clear ho
        go_wp2_with fail
        go_round
        case rel => exact ⟨k + 1, by omega, rfl, rfl, by go_num, HN⟩
        case measure => simp [intOf]; omega
      rw [ho] at hoc
      obtain ⟨eh, et⟩ := cut_hit l k ho Hno.out
      have HPF : Hid (parA l = rngA (numM 18 (headA l)) (numM 18 (tailA l))) := Lib.hid rfl
      have hF : (⟨l.toArray⟩ : ByteArray).extract 0 k = ⟨(headA l).toArray⟩ := by rw [bext, eh]; simp
      have hT : (⟨l.toArray⟩ : ByteArray).extract (k + 2) l.length = ⟨(tailA l).toArray⟩ := by rw [bext, et, List.take_of_length_le (by simp)]
      have hla : (headA l).length ≤ 100000 := by rw [eh]; simp; omega
      have hlb : (tailA l).length ≤ 100000 := by rw [et]; simp; omega
      clear ho eh et
      go_wp2_with fail
      go_quiet (fail)
      go_wp2_with fail
      replace kR := kR.drewN nq
      replace hB1 := below_drawn hB1 nq
      generalize w1.drewN nq = w4 at *
      rw [hT]
      clear hF hT hoc
      rcases hn1 : numM 18 (headA l) with _ | x
      all_goals rcases hn2 : numM 18 (tailA l) with _ | y
      all_goals
        rw [hn1, hn2] at HPF
        have N1 := Lib.hid hn1
        have N2 := Lib.hid hn2
      case some.some =>
        have hx := numM_lt 18 _ _ hn1
        have hy := numM_lt 18 _ _ hn2
        obtain ⟨u, hu⟩ : ∃ u : Int, u = x := ⟨_, rfl⟩
        obtain ⟨v, hv⟩ : ∃ v : Int, v = y := ⟨_, rfl⟩
        have HP : Hid (parA l = if v < u ∨ 64 ≤ v then (0, 0, 2) else (u, v, 0)) := Lib.hid (by
          rw [HPF.out]
          show (if y < x ∨ 64 ≤ y then ((0 : Int), (0 : Int), (2 : Int)) else ((x : Int), (y : Int), (0 : Int))) = _
          subst hu hv
          by_cases h : y < x ∨ 64 ≤ y
          · rw [if_pos h, if_pos (by omega)]
          · rw [if_neg h, if_neg (by omega)])
        have hu0 : 0 ≤ u := by omega
        have hv0 : 0 ≤ v := by omega
        have hx2 : u < 1000000000000000000 := by omega
        have hy2 : v < 1000000000000000000 := by omega
        have E1 : Hid ((some x).getD 0 = x ∧ ((x : Nat) : Int) = u) := Lib.hid ⟨rfl, hu.symm⟩
        have E2 : Hid ((some y).getD 0 = y ∧ ((y : Nat) : Int) = v) := Lib.hid ⟨rfl, hv.symm⟩
        clear hn1 hn2 hx hy hu hv HPF
        refine (rnumber_any (headA l) _ (by omega)).mono ?_
        rw [N1.out]
        rintro e w' ⟨rfl, rfl⟩
        simp only [Option.getD_some, Option.isSome_some]
        rw [E1.out.2]
        go_wp2_with fail
        refine (rnumber_any (tailA l) _ (by omega)).mono ?_
        rw [N2.out]
        rintro e w' ⟨rfl, rfl⟩
        simp only [Option.getD_some, Option.isSome_some]
        rw [E2.out.2]
        clear N1 N2
        obtain ⟨cR, fR, lR⟩ := kR.facts
        go_wp2_with fail
        have kX := (Bk.new w4 #[.int .i64 u, .int .i64 v] 23).alloc (.cells #[.int .i64 u, .int .i64 v] 23)
        replace kR := (kR.alloc (.cells #[.int .i64 u, .int .i64 v] 23)).alloc (.cells #[.int .i64 u, .int .i64 v] 23)
        replace hB1 := balloc (balloc hB1 (.cells #[.int .i64 u, .int .i64 v] 23)) (.cells #[.int .i64 u, .int .i64 v] 23)
        by_cases hbad : v < u ∨ 64 ≤ v
        · refine (rCheck_bad u v _ (by omega)).mono ?_
          rintro e w5 ⟨rfl, rfl⟩
          have HV : Hid (parA l = (0, 0, 2)) := Lib.hid (by rw [HP.out, if_pos hbad])
          clear hbad HP kX cR fR lR
          generalize (w4.alloc (.cells #[.int .i64 u, .int .i64 v] 23)).alloc (.cells #[.int .i64 u, .int .i64 v] 23) = w6 at *
          obtain ⟨cR, fR, lR⟩ := kR.facts
          go_wp2_with fail
          have kF := kR.put2' (.int .i64 0) (.int .i64 0)
          have hBF := below_put2' (p := w.heap.size) hB1 (by omega) (.int .i64 0) (.int .i64 0)
          clear cR fR lR
          generalize ((w6.setCell ⟨w.heap.size, 0, none⟩ (.int .i64 0)).setCell ⟨w.heap.size, 1, none⟩ (.int .i64 0)) = wF at *
          obtain ⟨cF, fF, lF⟩ := kF.facts
          exact bodyPost_ret (v := .tuple #[.agg #[.int .i64 0, .int .i64 0], .int .i64 2]) (by simp [results, Tryd.results10, go_sem, cF]) rfl ⟨by rw [HV.out], hBF⟩
        · refine (rCheck_ok u v _ (by omega) (by omega) (by omega)).mono ?_
          rintro e w5 ⟨rfl, rfl⟩
          have HV : Hid (parA l = (u, v, 0)) := Lib.hid (by rw [HP.out, if_neg hbad])
          clear hbad HP cR fR lR
          generalize (w4.alloc (.cells #[.int .i64 u, .int .i64 v] 23)).alloc (.cells #[.int .i64 u, .int .i64 v] 23) = w6 at *
          obtain ⟨cR, fR, lR⟩ := kR.facts
          obtain ⟨cX, fX, lX⟩ := kX.facts
          go_wp2_with fail
          have kF := kR.put2' (.int .i64 u) (.int .i64 v)
          have hBF := below_put2' (p := w.heap.size) hB1 (by omega) (.int .i64 u) (.int .i64 v)
          clear cR fR lR
          generalize ((w6.setCell ⟨w.heap.size, 0, none⟩ (.int .i64 u)).setCell ⟨w.heap.size, 1, none⟩ (.int .i64 v)) = wF at *
          obtain ⟨cF, fF, lF⟩ := kF.facts
          exact bodyPost_ret (v := .tuple #[.agg #[.int .i64 u, .int .i64 v], .int .i64 0]) (by simp [results, Tryd.results10, go_sem, cF]) rfl ⟨by rw [HV.out], hBF⟩
      all_goals
        have HV : Hid (parA l = (0, 0, 3)) := Lib.hid HPF.out
        clear hn1 hn2 HPF
        refine (rnumber_any (headA l) _ (by omega)).mono ?_
        rw [N1.out]
        rintro e w' ⟨rfl, rfl⟩
        simp only [Option.getD_some, Option.isSome_some, Option.getD_none, Option.isSome_none]
        obtain ⟨cR, fR, lR⟩ := kR.facts
        go_wp2_with fail
        refine (rnumber_any (tailA l) _ (by omega)).mono ?_
        rw [N2.out]
        rintro e w' ⟨rfl, rfl⟩
        simp only [Option.getD_some, Option.isSome_some, Option.getD_none, Option.isSome_none]
        go_wp2_with fail
        have kF := kR.put2' (.int .i64 0) (.int .i64 0)
        have hBF := below_put2' (p := w.heap.size) hB1 (by omega) (.int .i64 0) (.int .i64 0)
        clear cR fR lR
        generalize ((w4.setCell ⟨w.heap.size, 0, none⟩ (.int .i64 0)).setCell ⟨w.heap.size, 1, none⟩ (.int .i64 0)) = wF at *
        obtain ⟨cF, fF, lF⟩ := kF.facts
        exact bodyPost_ret (v := .tuple #[.agg #[.int .i64 0, .int .i64 0], .int .i64 3]) (by simp [results, Tryd.results10, go_sem, cF]) rfl ⟨by rw [HV.out], hBF⟩
    · have hi1 : ¬ (k : Int) + 1 < (l.length : Int) := by omega
      obtain ⟨eh, et⟩ := cut_none l (fun j hj => Hno.out j (by omega))
      have HPF : Hid (parA l = rngA (numM 18 l) (numM 18 l)) := Lib.hid (by unfold parA; rw [eh, et])
      clear eh et
      go_wp2_with fail
      clear hw1
      rcases hn1 : numM 18 l with _ | x
      all_goals have hn2 := hn1
      all_goals
        rw [hn1] at HPF
        have N1 := Lib.hid hn1
        have N2 := Lib.hid hn2
      case some =>
        have hx := numM_lt 18 _ _ hn1
        have hy := numM_lt 18 _ _ hn2
        obtain ⟨u, hu⟩ : ∃ u : Int, u = x := ⟨_, rfl⟩
        obtain ⟨y, hyx⟩ : ∃ y : Nat, y = x := ⟨_, rfl⟩
        rw [← hyx] at hn2 N2 hy
        obtain ⟨v, hv⟩ : ∃ v : Int, v = y := ⟨_, rfl⟩
        have HP : Hid (parA l = if v < u ∨ 64 ≤ v then (0, 0, 2) else (u, v, 0)) := Lib.hid (by
          rw [HPF.out, ← hyx]
          rw [← hyx] at hu
          show (if y < y ∨ 64 ≤ y then ((0 : Int), (0 : Int), (2 : Int)) else ((y : Int), (y : Int), (0 : Int))) = _
          subst hu hv
          by_cases h : y < y ∨ 64 ≤ y
          · rw [if_pos h, if_pos (by omega)]
          · rw [if_neg h, if_neg (by omega)])
        have hu0 : 0 ≤ u := by omega
        have hv0 : 0 ≤ v := by omega
        have hx2 : u < 1000000000000000000 := by omega
        have hy2 : v < 1000000000000000000 := by omega
        have E1 : Hid ((some x).getD 0 = x ∧ ((x : Nat) : Int) = u) := Lib.hid ⟨rfl, hu.symm⟩
        have E2 : Hid ((some y).getD 0 = y ∧ ((y : Nat) : Int) = v) := Lib.hid ⟨rfl, hv.symm⟩
        clear hn1 hn2 hx hy hu hv HPF hyx
        refine (rnumber_any l _ (by omega)).mono ?_
        rw [N1.out]
        rintro e w' ⟨rfl, rfl⟩
        simp only [Option.getD_some, Option.isSome_some]
        rw [E1.out.2]
        go_wp2_with fail
        refine (rnumber_any l _ (by omega)).mono ?_
        rw [N2.out]
        rintro e w' ⟨rfl, rfl⟩
        simp only [Option.getD_some, Option.isSome_some]
        rw [E2.out.2]
        clear N1 N2
        obtain ⟨cR, fR, lR⟩ := kR.facts
        go_wp2_with fail
        have kX := (Bk.new w1 #[.int .i64 u, .int .i64 v] 23).alloc (.cells #[.int .i64 u, .int .i64 v] 23)
        replace kR := (kR.alloc (.cells #[.int .i64 u, .int .i64 v] 23)).alloc (.cells #[.int .i64 u, .int .i64 v] 23)
        replace hB1 := balloc (balloc hB1 (.cells #[.int .i64 u, .int .i64 v] 23)) (.cells #[.int .i64 u, .int .i64 v] 23)
        by_cases hbad : v < u ∨ 64 ≤ v
        · refine (rCheck_bad u v _ (by omega)).mono ?_
          rintro e w5 ⟨rfl, rfl⟩
          have HV : Hid (parA l = (0, 0, 2)) := Lib.hid (by rw [HP.out, if_pos hbad])
          clear hbad HP kX cR fR lR
          generalize (w1.alloc (.cells #[.int .i64 u, .int .i64 v] 23)).alloc (.cells #[.int .i64 u, .int .i64 v] 23) = w6 at *
          obtain ⟨cR, fR, lR⟩ := kR.facts
          go_wp2_with fail
          have kF := kR.put2' (.int .i64 0) (.int .i64 0)
          have hBF := below_put2' (p := w.heap.size) hB1 (by omega) (.int .i64 0) (.int .i64 0)
          clear cR fR lR
          generalize ((w6.setCell ⟨w.heap.size, 0, none⟩ (.int .i64 0)).setCell ⟨w.heap.size, 1, none⟩ (.int .i64 0)) = wF at *
          obtain ⟨cF, fF, lF⟩ := kF.facts
          exact bodyPost_ret (v := .tuple #[.agg #[.int .i64 0, .int .i64 0], .int .i64 2]) (by simp [results, Tryd.results10, go_sem, cF]) rfl ⟨by rw [HV.out], hBF⟩
        · refine (rCheck_ok u v _ (by omega) (by omega) (by omega)).mono ?_
          rintro e w5 ⟨rfl, rfl⟩
          have HV : Hid (parA l = (u, v, 0)) := Lib.hid (by rw [HP.out, if_neg hbad])
          clear hbad HP cR fR lR
          generalize (w1.alloc (.cells #[.int .i64 u, .int .i64 v] 23)).alloc (.cells #[.int .i64 u, .int .i64 v] 23) = w6 at *
          obtain ⟨cR, fR, lR⟩ := kR.facts
          obtain ⟨cX, fX, lX⟩ := kX.facts
          go_wp2_with fail
          have kF := kR.put2' (.int .i64 u) (.int .i64 v)
          have hBF := below_put2' (p := w.heap.size) hB1 (by omega) (.int .i64 u) (.int .i64 v)
          clear cR fR lR
          generalize ((w6.setCell ⟨w.heap.size, 0, none⟩ (.int .i64 u)).setCell ⟨w.heap.size, 1, none⟩ (.int .i64 v)) = wF at *
          obtain ⟨cF, fF, lF⟩ := kF.facts
          exact bodyPost_ret (v := .tuple #[.agg #[.int .i64 u, .int .i64 v], .int .i64 0]) (by simp [results, Tryd.results10, go_sem, cF]) rfl ⟨by rw [HV.out], hBF⟩
      all_goals
        have HV : Hid (parA l = (0, 0, 3)) := Lib.hid HPF.out
        clear hn1 hn2 HPF
        refine (rnumber_any l _ (by omega)).mono ?_
        rw [N1.out]
        rintro e w' ⟨rfl, rfl⟩
        simp only [Option.getD_some, Option.isSome_some, Option.getD_none, Option.isSome_none]
        obtain ⟨cR, fR, lR⟩ := kR.facts
        go_wp2_with fail
        refine (rnumber_any l _ (by omega)).mono ?_
        rw [N2.out]
        rintro e w' ⟨rfl, rfl⟩
        simp only [Option.getD_some, Option.isSome_some, Option.getD_none, Option.isSome_none]
        go_wp2_with fail
        have kF := kR.put2' (.int .i64 0) (.int .i64 0)
        have hBF := below_put2' (p := w.heap.size) hB1 (by omega) (.int .i64 0) (.int .i64 0)
        clear cR fR lR
        generalize ((w1.setCell ⟨w.heap.size, 0, none⟩ (.int .i64 0)).setCell ⟨w.heap.size, 1, none⟩ (.int .i64 0)) = wF at *
        obtain ⟨cF, fF, lF⟩ := kF.facts
        exact bodyPost_ret (v := .tuple #[.agg #[.int .i64 0, .int .i64 0], .int .i64 3]) (by simp [results, Tryd.results10, go_sem, cF]) rfl ⟨by rw [HV.out], hBF⟩
end Go.Proofs.YtmaebbbaooodaaaDoor
