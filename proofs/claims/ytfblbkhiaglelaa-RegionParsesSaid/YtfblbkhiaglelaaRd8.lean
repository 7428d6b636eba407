/- The text of regions: which regions a text is, by the reference. -/
import Derived.Test.YtfblbkhiaglelaaRd7
import Derived.Deep.Cut
import Derived.StillTailTactics
namespace Go.Proofs.Ytfblbkhiaglelaa
open Go Go.Proofs Go.RowKit
set_option linter.unusedSimpArgs false
set_option linter.unusedVariables false
set_option maxRecDepth 100000

theorem numL_last (s : List UInt8) (a n k : Nat) (h : numL (s.drop a) = (n, k, true)) : 1 ≤ k ∧ isD (s.getD (a + k - 1) 0) = true := by
  unfold numL at h
  rw [gd0, gd1] at h
  split at h
  · rename_i h0
    split at h
    · rename_i h1
      simp only [Prod.mk.injEq] at h
      obtain ⟨_, rfl, _⟩ := h
      exact ⟨by omega, h1.2⟩
    · simp only [Prod.mk.injEq] at h
      obtain ⟨_, rfl, _⟩ := h
      exact ⟨by omega, h0⟩
  · simp at h
theorem not_blank {c : UInt8} (h : isD c = true) : c ≠ 32 := by
  intro e
  rw [e] at h
  exact absurd h (by decide)
def RfS (s : List UInt8) (R : List (Int × Int) × List Int × Option Nat) (f a : Nat) (out : List (Int × Int)) (pl : List Int) : Prop :=
  (parF s f a out pl = R ∧ (a < s.length ∨ (a = s.length ∧ 0 < out.length ∧ 0 < a ∧ s.getD (a - 1) 0 = 32))) ∨ (R = (out, pl, none) ∧ a = s.length ∧ (out.length = 0 ∨ (0 < a ∧ s.getD (a - 1) 0 ≠ 32)))
def RfR (w1 : World) (s : List UInt8) (R : List (Int × Int) × List Int × Option Nat) (v1 v2 x : Value) (wr : World) : Prop :=
  ∃ (f a : Nat) (out : List (Int × Int)) (pl : List Int), x = .int .i64 a ∧ a ≤ s.length ∧ s.length + 1 ≤ a + f ∧ out.length ≤ a ∧ pl.length ≤ a ∧ Hid (RfS s R f a out pl) ∧ Two w1.heap.size wr v1 v2 out pl ∧ Below w1.heap.size w1 wr
theorem RfS_next {s : List UInt8} {R : List (Int × Int) × List Int × Option Nat} {f a : Nat} {out : List (Int × Int)} {pl : List Int} (h : parF s f (a + 1) out pl = R) (ha : a < s.length) (ho : 0 < out.length) (hc : s.getD a 0 = 32) : RfS s R f (a + 1) out pl := by
  refine .inl ⟨h, ?_⟩
  by_cases h2 : a + 1 < s.length
  · exact .inl h2
  · exact .inr ⟨by omega, ho, by omega, by rw [Nat.add_sub_cancel]; exact hc⟩
theorem RfS_done {s : List UInt8} {R : List (Int × Int) × List Int × Option Nat} {f a : Nat} {out : List (Int × Int)} {pl : List Int} (h : R = (out, pl, none)) (ha : s.length = a) (h0 : 0 < a) (hd : isD (s.getD (a - 1) 0) = true) : RfS s R f a out pl :=
  .inr ⟨h, ha.symm, .inr ⟨h0, not_blank hd⟩⟩
set_option maxHeartbeats 8000000 in
theorem rParseR_any (s : List UInt8) (w : World) (hs : s.length ≤ 1000) :
    Calls Try.prog 25 #[.string ⟨s.toArray⟩] w fun e w' => RgPar w w' (parG s) e := by
  have kR := Bk.new w #[.int .i64 0, .int .i64 0] 50
  have hB1 := balloc (Below.refl _ w) (.cells #[.int .i64 0, .int .i64 0] 50)
  by_cases hL : 200 < s.length
  · rw [parG_long s hL]
    have hLI : (200 : Int) < (s.length : Int) := by omega
    go_enter Try.func25, Try.ntmps25
    go_wp2_with fail
    exact bodyPost_ret (v := .tuple #[.slice none 0 0, .agg #[.int .i64 4, .int .i64 200]]) (by simp [results, Try.results25, go_sem]) rfl ⟨none, 0, rfl, Rd.zero _, balloc (Below.refl _ _) _⟩
  · have hLI : ¬ (200 : Int) < (s.length : Int) := by omega
    obtain ⟨R, hR⟩ : ∃ R, parA s = R := ⟨_, rfl⟩
    have HPA := Lib.hid hR
    have hlen := parA_len s
    have hbd := parA_bd s
    rw [hR] at hlen hbd
    have HLEN := Lib.hid hlen
    have HBD := Lib.hid hbd
    have H0 : Hid (RfS s R (s.length + 1) 0 [] []) := Lib.hid (by
      unfold parA at hR
      split at hR
      · rename_i h0
        exact .inr ⟨hR.symm, h0.symm, .inl rfl⟩
      · exact .inl ⟨hR, .inl (by omega)⟩)
    obtain ⟨i0, hi, hz0, hz1, hz2⟩ := info_parts infoRgK
    obtain ⟨j0, hj, hy0, hy1, hy2⟩ := info_parts infoIntR
    have hpl := kR.lt
    clear hR hlen hbd
    go_enter Try.func25, Try.ntmps25
    go_wp2_with fail
    generalize w.alloc (.cells #[.int .i64 0, .int .i64 0] 50) = w1 at *
    go_loopw [4, 5, 6] (RfR w1 s R) (fun _ _ i _ => s.length - (intOf i).toNat)
    case atStart => exact ⟨s.length + 1, 0, [], [], rfl, by omega, by omega, by simp, by simp, H0, ⟨World.ownsRow_nil _ _ _ _, World.ownsRow_nil _ _ _ _, fun g e => by cases e⟩, Below.refl _ _⟩
    case round =>
      clear H0
      obtain ⟨f, a, out, pl, rfl, ha, hf, hol, hpl2, HR, TW, B⟩ := hrel
      have hsz := B.size
      rcases HR.out with ⟨hpf, hlv⟩ | ⟨hdn, hal, hdo⟩
      · obtain ⟨f, rfl⟩ : ∃ f', f = f' + 1 := ⟨f - 1, by omega⟩
        have HPF := Lib.hid hpf
        rcases hlv with hlt | ⟨hal, ho0, ha0, hbl⟩
        · have hI : (a : Int) < (s.length : Int) := by omega
          have HC := Lib.hid (rnumber_any s a wr hs ha)
          have hb1 := numL_bd (s.drop a)
          have hin := numL_in s a ha
          rcases hnum : numL (s.drop a) with ⟨n, k, ok⟩
          have hla : ok = true → 1 ≤ k ∧ isD (s.getD (a + k - 1) 0) = true := fun h => numL_last s a n k (by rw [hnum, h])
          rw [hnum] at HC hb1 hin
          simp only at hb1 hin
          unfold NumA at HC
          simp only at HC
          obtain ⟨q, hq⟩ : ∃ q, a + k = q := ⟨_, rfl⟩
          rw [hq] at HC hin hla
          have HQq := Lib.hid hq
          clear hpf
          rcases ok with _ | _
          · have HE := Lib.hid (HPF.out.symm.trans (parF_no s f a n k out pl hnum))
            rw [hq] at HE
            clear hnum hla hq
            skip
            have HV := Lib.hid (parG_bad s hL [] [] (q) (HPA.out.trans HE.out))
            have kE := kR.below B hpl
            obtain ⟨cR, fR, lR⟩ := kE.facts
            go_wp2_with (go_at_call 50; refine HC.out.mono ?_; rintro e w' ⟨rfl, rfl⟩)
            clear cR fR lR
            have kF := put2F (u := .int .i64 3) (v := .int .i64 ((q : Nat) : Int)) kE
            have hBF := below2F (hB1.trans (B.mono (Nat.le_of_lt hpl))) (Nat.le_refl _) (.int .i64 3) (.int .i64 ((q : Nat) : Int))
            generalize ((wr.setCell ⟨w.heap.size, 0, none⟩ (.int .i64 3)).setCell ⟨w.heap.size, 1, none⟩ (.int .i64 ((q : Nat) : Int))) = wF at *
            obtain ⟨cF, fF, lF⟩ := kF.facts
            exact bodyPost_ret (v := .tuple #[.slice none 0 0, .agg #[.int .i64 3, .int .i64 ((q : Nat) : Int)]]) (by simp [results, Try.results25, go_sem, cF]) rfl ⟨none, 0, by rw [HV.out]; rfl, by rw [HV.out]; exact Rd.zero _, hBF⟩
          · obtain ⟨hk1, hkd⟩ := hla rfl
            have hqa : a < q := by omega
            clear hla hq
            by_cases hd : q < s.length ∧ s.getD q 0 = 45
            · obtain ⟨hd1, hd2⟩ := hd
              have hx := byte_at s q hd1
              have HC2 := Lib.hid (rnumber_any s (q + 1) wr hs (by omega))
              have hb2 := numL_bd (s.drop (q + 1))
              have hin2 := numL_in s (q + 1) (by omega)
              rcases hnum2 : numL (s.drop (q + 1)) with ⟨n2, k2, ok2⟩
              have hla2 : ok2 = true → 1 ≤ k2 ∧ isD (s.getD (q + 1 + k2 - 1) 0) = true := fun h => numL_last s (q + 1) n2 k2 (by rw [hnum2, h])
              rw [hnum2] at HC2 hb2 hin2
              simp only at hb2 hin2
              unfold NumA at HC2
              simp only at HC2
              obtain ⟨z, hz⟩ : ∃ z, q + 1 + k2 = z := ⟨_, rfl⟩
              rw [hz] at HC2 hin2 hla2
              rw [show ((q + 1 : Nat) : Int) = (q : Int) + 1 by omega] at HC2
              have HQz : Hid (a + (k + 1 + k2) = z) := Lib.hid (by have := HQq.out; omega)
              have hzq : q < z := by omega
              have hIq : (q : Int) < (s.length : Int) := by omega
              have hdd : (s.getD (a + k) 0) = 45 := by rw [HQq.out]; exact hd2
              have hnn : numL (s.drop (a + k + 1)) = (n2, k2, ok2) := by rw [HQq.out]; exact hnum2
              rw [hd2] at hx
              replace hx := hx.trans (show ((((45 : UInt8).toNat : Nat)) : Int) = 45 from rfl)
              clear hz hnum2 hd2
              rcases ok2 with _ | _
              · have HE := Lib.hid (HPF.out.symm.trans (parF_no2 s f a n k n2 k2 out pl hnum hdd hnn))
                rw [HQz.out] at HE
                clear hnum hdd hnn hla2
                skip
                have HV := Lib.hid (parG_bad s hL [] [] (z) (HPA.out.trans HE.out))
                have kE := kR.below B hpl
                obtain ⟨cR, fR, lR⟩ := kE.facts
                go_wp2_with (first | (go_at_call 50; (with_reducible refine HC.out.mono ?_); rintro e w' ⟨rfl, rfl⟩) | (go_at_call 50; (with_reducible refine HC2.out.mono ?_); rintro e w' ⟨rfl, rfl⟩))
                clear cR fR lR
                have kF := put2F (u := .int .i64 3) (v := .int .i64 ((z : Nat) : Int)) kE
                have hBF := below2F (hB1.trans (B.mono (Nat.le_of_lt hpl))) (Nat.le_refl _) (.int .i64 3) (.int .i64 ((z : Nat) : Int))
                generalize ((wr.setCell ⟨w.heap.size, 0, none⟩ (.int .i64 3)).setCell ⟨w.heap.size, 1, none⟩ (.int .i64 ((z : Nat) : Int))) = wF at *
                obtain ⟨cF, fF, lF⟩ := kF.facts
                exact bodyPost_ret (v := .tuple #[.slice none 0 0, .agg #[.int .i64 3, .int .i64 ((z : Nat) : Int)]]) (by simp [results, Try.results25, go_sem, cF]) rfl ⟨none, 0, by rw [HV.out]; rfl, by rw [HV.out]; exact Rd.zero _, hBF⟩
              · have HONE := Lib.hid (one_dash s a n k n2 k2 true hnum hdd hnn)
                simp only [Bool.true_eq_false, if_false, reduceCtorEq] at HONE
                obtain ⟨_, hkd2⟩ := hla2 rfl
                have HLAST := Lib.hid hkd2
                clear hnum hdd hnn hla2 hkd2 hkd
                obtain ⟨m, hm⟩ : ∃ m, k + 1 + k2 = m := ⟨_, rfl⟩
                rw [hm] at HONE HQz
                clear hm
                skip
                have hsB := TW.b
                go_upto_region 16 with (first
                  | (go_at_call 50; (with_reducible refine HC.out.mono ?_); rintro e w' ⟨rfl, rfl⟩)
                  | (go_at_call 50; (with_reducible refine HC2.out.mono ?_); rintro e w' ⟨rfl, rfl⟩)
                  | (at_builtin; refine wpList_append_own_at _ rfl _ _ 22 rfl w1.heap.size 43 i0 (.agg #[.int .i64 0, .int .i64 0]) 2 16 Try.underlying22 hi hz0 hz1 hz2 rfl (by decide) u4 out.length (flat2 .i64 out) rfl (TW.a.alloc _) ⟨wr.heap.size, 0, none⟩ 1 1 [.int .i64 (n : Int), .int .i64 (n2 : Int)] rfl rfl (cell_two_new _ _ _ _) (by simp [Value.oneCell']) (by simp only [maxLen]; omega) (by omega) (by simp; omega) ?_; intro v6 w6 hown6 hgr6 _ hloc6; have TW6 := (TW.alloc _).app1 hgr6 hown6 hloc6; have B6 := (balloc B _).grown hgr6 (by simp; omega) (fun k e => (TW.a.lt k e).1); have hsz6 := B6.size; clear hown6 hgr6 hloc6)
                  | (at_builtin; refine wpList_append_own_at _ rfl _ _ 35 rfl w1.heap.size 3 j0 (.int .i64 0) 1 8 Try.underlying35 hj hy0 hy1 hy2 rfl (by decide) u5 pl.length (pl.map (Value.int .i64)) rfl (TW6.b.alloc _) ⟨w6.heap.size, 0, none⟩ 1 1 [.int .i64 (a : Int)] rfl rfl (cell_one_newR _ _ _) (by simp [Value.oneCell']) (by simp only [maxLen]; omega) (by omega) (by simp; omega) ?_; intro v7 w7 hown7 hgr7 _ hloc7; have TW7 := (TW6.alloc _).app2 hgr7 hown7 hloc7; have B7 := (balloc B6 _).grown hgr7 (by simp; omega) (fun k e => (TW6.b.lt k e).1); clear hown7 hgr7 hloc7))
                by_cases hend : s.length = z
                · have HE := Lib.hid (HPF.out.symm.trans (parF_end s f a n n2 m out pl HONE.out (by have := HQz.out; omega)))
                  have hI5 : ¬ (z : Int) < (s.length : Int) := by omega
                  go_wp2_with fail
                  go_roundw
                  case rel => exact ⟨f, z, _, _, rfl, by omega, by omega, by simp; omega, by simp; omega, Lib.hid (RfS_done HE.out hend (by omega) HLAST.out), TW7, B7⟩
                  case measure => simp [intOf]; omega
                · have hlt5 : z < s.length := by omega
                  have hI5 : (z : Int) < (s.length : Int) := by omega
                  have hx5 := byte_at s z hlt5
                  by_cases hc : s.getD z 0 = 32
                  · have HE := Lib.hid ((parF_go s f a n n2 m out pl HONE.out (by have := HQz.out; omega) (by rw [HQz.out]; exact hc)).symm.trans HPF.out)
                    rw [HQz.out] at HE
                    have HN := Lib.hid (RfS_next HE.out hlt5 (by simp) hc)
                    rw [hc] at hx5
                    replace hx5 := hx5.trans (show ((((32 : UInt8).toNat : Nat)) : Int) = 32 from rfl)
                    clear hc
                    go_wp2_with fail
                    go_roundw
                    case rel => exact ⟨f, z + 1, _, _, by go_num, by omega, by omega, by simp; omega, by simp; omega, HN, TW7, B7⟩
                    case measure => simp [intOf]; omega
                  · have HE := Lib.hid (HPF.out.symm.trans (parF_bad s f a n n2 m out pl HONE.out (by have := HQz.out; omega) (by rw [HQz.out]; exact hc)))
                    rw [HQz.out] at HE
                    have hne : (s.getD z 0).toNat ≠ 32 := fun e => hc (UInt8.toNat_inj.1 e)
                    obtain ⟨c5, hc5⟩ : ∃ c, (s.getD z 0).toNat = c := ⟨_, rfl⟩
                    rw [hc5] at hx5 hne
                    have eD : ((c5 : Int) == 32) = false := by simp; omega
                    have eD2 : ((c5 : Int) != 32) = true := by simp; omega
                    clear hc hc5 hne
                    have HV := Lib.hid (parG_bad s hL [] [] (z) (HPA.out.trans HE.out))
                    have kE := kR.below B7 hpl
                    obtain ⟨cR, fR, lR⟩ := kE.facts
                    go_wp2_with fail
                    clear cR fR lR
                    have kF := put2F (u := .int .i64 3) (v := .int .i64 ((z : Nat) : Int)) kE
                    have hBF := below2F (hB1.trans (B7.mono (Nat.le_of_lt hpl))) (Nat.le_refl _) (.int .i64 3) (.int .i64 ((z : Nat) : Int))
                    generalize ((w7.setCell ⟨w.heap.size, 0, none⟩ (.int .i64 3)).setCell ⟨w.heap.size, 1, none⟩ (.int .i64 ((z : Nat) : Int))) = wF at *
                    obtain ⟨cF, fF, lF⟩ := kF.facts
                    exact bodyPost_ret (v := .tuple #[.slice none 0 0, .agg #[.int .i64 3, .int .i64 ((z : Nat) : Int)]]) (by simp [results, Try.results25, go_sem, cF]) rfl ⟨none, 0, by rw [HV.out]; rfl, by rw [HV.out]; exact Rd.zero _, hBF⟩
            · have HONE := Lib.hid (one_plain s a n k hnum (dash_no s (a + k) (by rw [HQq.out]; exact hd)))
              have HLAST := Lib.hid hkd
              clear hkd hnum
              by_cases hql : q < s.length
              · have hx := byte_at s q hql
                have hIq : (q : Int) < (s.length : Int) := by omega
                have hne : (s.getD q 0).toNat ≠ 45 := fun e => hd ⟨hql, UInt8.toNat_inj.1 e⟩
                obtain ⟨c, hc⟩ : ∃ c, (s.getD q 0).toNat = c := ⟨_, rfl⟩
                rw [hc] at hx hne
                have eD : ((c : Int) == 45) = false := by simp; omega
                clear hd hne hc
                skip
                have hsB := TW.b
                go_upto_region 16 with (first
                  | (go_at_call 50; (with_reducible refine HC.out.mono ?_); rintro e w' ⟨rfl, rfl⟩)
                  | (at_builtin; refine wpList_append_own_at _ rfl _ _ 22 rfl w1.heap.size 43 i0 (.agg #[.int .i64 0, .int .i64 0]) 2 16 Try.underlying22 hi hz0 hz1 hz2 rfl (by decide) u4 out.length (flat2 .i64 out) rfl (TW.a.alloc _) ⟨wr.heap.size, 0, none⟩ 1 1 [.int .i64 (n : Int), .int .i64 (n : Int)] rfl rfl (cell_two_new _ _ _ _) (by simp [Value.oneCell']) (by simp only [maxLen]; omega) (by omega) (by simp; omega) ?_; intro v6 w6 hown6 hgr6 _ hloc6; have TW6 := (TW.alloc _).app1 hgr6 hown6 hloc6; have B6 := (balloc B _).grown hgr6 (by simp; omega) (fun k e => (TW.a.lt k e).1); have hsz6 := B6.size; clear hown6 hgr6 hloc6)
                  | (at_builtin; refine wpList_append_own_at _ rfl _ _ 35 rfl w1.heap.size 3 j0 (.int .i64 0) 1 8 Try.underlying35 hj hy0 hy1 hy2 rfl (by decide) u5 pl.length (pl.map (Value.int .i64)) rfl (TW6.b.alloc _) ⟨w6.heap.size, 0, none⟩ 1 1 [.int .i64 (a : Int)] rfl rfl (cell_one_newR _ _ _) (by simp [Value.oneCell']) (by simp only [maxLen]; omega) (by omega) (by simp; omega) ?_; intro v7 w7 hown7 hgr7 _ hloc7; have TW7 := (TW6.alloc _).app2 hgr7 hown7 hloc7; have B7 := (balloc B6 _).grown hgr7 (by simp; omega) (fun k e => (TW6.b.lt k e).1); clear hown7 hgr7 hloc7))
                by_cases hend : s.length = q
                · have HE := Lib.hid (HPF.out.symm.trans (parF_end s f a n n k out pl HONE.out (by have := HQq.out; omega)))
                  have hI5 : ¬ (q : Int) < (s.length : Int) := by omega
                  go_wp2_with fail
                  go_roundw
                  case rel => exact ⟨f, q, _, _, rfl, by omega, by omega, by simp; omega, by simp; omega, Lib.hid (RfS_done HE.out hend (by omega) HLAST.out), TW7, B7⟩
                  case measure => simp [intOf]; omega
                · have hlt5 : q < s.length := by omega
                  have hI5 : (q : Int) < (s.length : Int) := by omega
                  have hx5 := byte_at s q hlt5
                  by_cases hc : s.getD q 0 = 32
                  · have HE := Lib.hid ((parF_go s f a n n k out pl HONE.out (by have := HQq.out; omega) (by rw [HQq.out]; exact hc)).symm.trans HPF.out)
                    rw [HQq.out] at HE
                    have HN := Lib.hid (RfS_next HE.out hlt5 (by simp) hc)
                    rw [hc] at hx5
                    replace hx5 := hx5.trans (show ((((32 : UInt8).toNat : Nat)) : Int) = 32 from rfl)
                    clear hc
                    go_wp2_with fail
                    go_roundw
                    case rel => exact ⟨f, q + 1, _, _, by go_num, by omega, by omega, by simp; omega, by simp; omega, HN, TW7, B7⟩
                    case measure => simp [intOf]; omega
                  · have HE := Lib.hid (HPF.out.symm.trans (parF_bad s f a n n k out pl HONE.out (by have := HQq.out; omega) (by rw [HQq.out]; exact hc)))
                    rw [HQq.out] at HE
                    have hne : (s.getD q 0).toNat ≠ 32 := fun e => hc (UInt8.toNat_inj.1 e)
                    obtain ⟨c5, hc5⟩ : ∃ c, (s.getD q 0).toNat = c := ⟨_, rfl⟩
                    rw [hc5] at hx5 hne
                    have eD : ((c5 : Int) == 32) = false := by simp; omega
                    have eD2 : ((c5 : Int) != 32) = true := by simp; omega
                    clear hc hc5 hne
                    have HV := Lib.hid (parG_bad s hL [] [] (q) (HPA.out.trans HE.out))
                    have kE := kR.below B7 hpl
                    obtain ⟨cR, fR, lR⟩ := kE.facts
                    go_wp2_with fail
                    clear cR fR lR
                    have kF := put2F (u := .int .i64 3) (v := .int .i64 ((q : Nat) : Int)) kE
                    have hBF := below2F (hB1.trans (B7.mono (Nat.le_of_lt hpl))) (Nat.le_refl _) (.int .i64 3) (.int .i64 ((q : Nat) : Int))
                    generalize ((w7.setCell ⟨w.heap.size, 0, none⟩ (.int .i64 3)).setCell ⟨w.heap.size, 1, none⟩ (.int .i64 ((q : Nat) : Int))) = wF at *
                    obtain ⟨cF, fF, lF⟩ := kF.facts
                    exact bodyPost_ret (v := .tuple #[.slice none 0 0, .agg #[.int .i64 3, .int .i64 ((q : Nat) : Int)]]) (by simp [results, Try.results25, go_sem, cF]) rfl ⟨none, 0, by rw [HV.out]; rfl, by rw [HV.out]; exact Rd.zero _, hBF⟩
              · have hIq : ¬ (q : Int) < (s.length : Int) := by omega
                clear hd
                skip
                have hsB := TW.b
                go_upto_region 16 with (first
                  | (go_at_call 50; (with_reducible refine HC.out.mono ?_); rintro e w' ⟨rfl, rfl⟩)
                  | (at_builtin; refine wpList_append_own_at _ rfl _ _ 22 rfl w1.heap.size 43 i0 (.agg #[.int .i64 0, .int .i64 0]) 2 16 Try.underlying22 hi hz0 hz1 hz2 rfl (by decide) u4 out.length (flat2 .i64 out) rfl (TW.a.alloc _) ⟨wr.heap.size, 0, none⟩ 1 1 [.int .i64 (n : Int), .int .i64 (n : Int)] rfl rfl (cell_two_new _ _ _ _) (by simp [Value.oneCell']) (by simp only [maxLen]; omega) (by omega) (by simp; omega) ?_; intro v6 w6 hown6 hgr6 _ hloc6; have TW6 := (TW.alloc _).app1 hgr6 hown6 hloc6; have B6 := (balloc B _).grown hgr6 (by simp; omega) (fun k e => (TW.a.lt k e).1); have hsz6 := B6.size; clear hown6 hgr6 hloc6)
                  | (at_builtin; refine wpList_append_own_at _ rfl _ _ 35 rfl w1.heap.size 3 j0 (.int .i64 0) 1 8 Try.underlying35 hj hy0 hy1 hy2 rfl (by decide) u5 pl.length (pl.map (Value.int .i64)) rfl (TW6.b.alloc _) ⟨w6.heap.size, 0, none⟩ 1 1 [.int .i64 (a : Int)] rfl rfl (cell_one_newR _ _ _) (by simp [Value.oneCell']) (by simp only [maxLen]; omega) (by omega) (by simp; omega) ?_; intro v7 w7 hown7 hgr7 _ hloc7; have TW7 := (TW6.alloc _).app2 hgr7 hown7 hloc7; have B7 := (balloc B6 _).grown hgr7 (by simp; omega) (fun k e => (TW6.b.lt k e).1); clear hown7 hgr7 hloc7))
                by_cases hend : s.length = q
                · have HE := Lib.hid (HPF.out.symm.trans (parF_end s f a n n k out pl HONE.out (by have := HQq.out; omega)))
                  have hI5 : ¬ (q : Int) < (s.length : Int) := by omega
                  go_wp2_with fail
                  go_roundw
                  case rel => exact ⟨f, q, _, _, rfl, by omega, by omega, by simp; omega, by simp; omega, Lib.hid (RfS_done HE.out hend (by omega) HLAST.out), TW7, B7⟩
                  case measure => simp [intOf]; omega
                · exact absurd (show s.length = q by omega) hend
        · obtain rfl : a = s.length := hal
          obtain ⟨c, hc⟩ : ∃ c, (s.getD (s.length - 1) 0).toNat = c := ⟨_, rfl⟩
          have hx := byte_at s (s.length - 1) (by omega)
          rw [hbl] at hx
          replace hx := hx.trans (show ((((32 : UInt8).toNat : Nat)) : Int) = 32 from rfl)
          have hI3 : ((s.length : Int) - 1).toNat = s.length - 1 := by omega
          have hI4 : (1 : Int) ≤ (s.length : Int) := by omega
          have hI5 : (s.length : Int) - 1 < (s.length : Int) := by omega
          have hI6 : (0 : Int) < (out.length : Int) := by omega
          have HC := Lib.hid (rnumber_any s s.length wr hs (Nat.le_refl _))
          have hnum : numL (s.drop s.length) = (0, 0, false) := numL_0 s s.length (by rw [gd_out s s.length (Nat.le_refl _)]; exact isD_zero)
          rw [hnum] at HC
          unfold NumA at HC
          simp only [Nat.add_zero] at HC
          have HE := Lib.hid (HPF.out.symm.trans (parF_no s f s.length 0 0 out pl hnum))
          rw [Nat.add_zero] at HE
          obtain ⟨A1, c1, rfl, _⟩ := own_slice TW.a
          clear hpf hnum hbl hc
          have HV := Lib.hid (parG_bad s hL [] [] (s.length) (HPA.out.trans HE.out))
          have kE := kR.below B hpl
          obtain ⟨cR, fR, lR⟩ := kE.facts
          go_wp2_with (go_at_call 50; refine HC.out.mono ?_; rintro e w' ⟨rfl, rfl⟩)
          clear cR fR lR
          have kF := put2F (u := .int .i64 3) (v := .int .i64 ((s.length : Nat) : Int)) kE
          have hBF := below2F (hB1.trans (B.mono (Nat.le_of_lt hpl))) (Nat.le_refl _) (.int .i64 3) (.int .i64 ((s.length : Nat) : Int))
          generalize ((wr.setCell ⟨w.heap.size, 0, none⟩ (.int .i64 3)).setCell ⟨w.heap.size, 1, none⟩ (.int .i64 ((s.length : Nat) : Int))) = wF at *
          obtain ⟨cF, fF, lF⟩ := kF.facts
          exact bodyPost_ret (v := .tuple #[.slice none 0 0, .agg #[.int .i64 3, .int .i64 ((s.length : Nat) : Int)]]) (by simp [results, Try.results25, go_sem, cF]) rfl ⟨none, 0, by rw [HV.out]; rfl, by rw [HV.out]; exact Rd.zero _, hBF⟩
      · obtain rfl : a = s.length := hal
        have HDN := Lib.hid hdn
        by_cases ho : 0 < out.length
        · obtain ⟨ha0, hbl⟩ : 0 < s.length ∧ s.getD (s.length - 1) 0 ≠ 32 := by rcases hdo with h | h; exact absurd h (by omega); exact h
          have hne : (s.getD (s.length - 1) 0).toNat ≠ 32 := fun e => hbl (UInt8.toNat_inj.1 e)
          obtain ⟨c, hc⟩ : ∃ c, (s.getD (s.length - 1) 0).toNat = c := ⟨_, rfl⟩
          have hx := byte_at s (s.length - 1) (by omega)
          rw [hc] at hx hne
          have hI3 : ((s.length : Int) - 1).toNat = s.length - 1 := by omega
          have hI4 : (1 : Int) ≤ (s.length : Int) := by omega
          have hI5 : (s.length : Int) - 1 < (s.length : Int) := by omega
          have hI6 : (0 : Int) < (out.length : Int) := by omega
          have eD : ((c : Int) == 32) = false := by simp; omega
          clear hdn hdo hbl hc hne
          have hlen := HLEN.out out pl HDN.out
          have hbd := HBD.out out pl HDN.out
          have own1 := TW.a
          have own2 := TW.b
          obtain ⟨A1, c1, rfl, r1⟩ := own_slice own1
          obtain ⟨A2, c2, rfl, r2⟩ := own_slice own2
          have kE := kR.below B hpl
          have hB2 := hB1.trans (B.mono (Nat.le_of_lt hpl))
          have HC := Lib.hid (fun w r => rCheckR_any A1 out.length c1 out w r (by omega))
          have hR := HPA.out.trans HDN.out
          clear TW own2
          by_cases hE : (regE out).1 = 0
          · have HV := Lib.hid (parG_ok s hL out pl hR hE)
            rw [hE] at HC
            clear hR hE hlen
            obtain ⟨N, hN⟩ : ∃ N, out.length = N := ⟨_, rfl⟩
            rw [hN] at HC r1 hbd own1 hI6 ⊢
            have HN := Lib.hid hN
            clear hN
            go_wp2_with fail
            go_at_call 12
            refine (HC.out _ r1).mono ?_
            rintro e w3 ⟨rfl, hb3⟩
            have own3 := own_below own1 hb3
            clear own1 r1
            have kR3 := kE.to hb3
            have hB3 := hB2.trans (hb3.mono (by omega))
            obtain ⟨cR, fR, lR⟩ := kR3.facts
            go_wp2_with fail
            clear cR fR lR
            have kF := put2F (u := .int .i64 0) (v := .int .i64 0) kR3
            have hBF := below2F hB3 (Nat.le_refl _) (.int .i64 0) (.int .i64 0)
            have rF := Rd.own (own_far (p := ⟨w.heap.size, 1, none⟩) (own_far (p := ⟨w.heap.size, 0, none⟩) own3 hpl (.int .i64 0)) hpl (.int .i64 0))
            generalize ((w3.setCell ⟨w.heap.size, 0, none⟩ (.int .i64 0)).setCell ⟨w.heap.size, 1, none⟩ (.int .i64 0)) = wF at *
            obtain ⟨cF, fF, lF⟩ := kF.facts
            exact bodyPost_ret (v := .tuple #[.slice A1 N c1, .agg #[.int .i64 0, .int .i64 0]]) (by simp [results, Try.results25, go_sem, cF]) rfl ⟨A1, c1, by rw [HV.out, ← HN.out], by rw [HV.out]; simp only [HN.out]; exact rF, hBF⟩
          · obtain ⟨k, hk, hk2⟩ := regE_idx out hE
            obtain ⟨bb, off, z, rfl, hbb, hz, cz⟩ := r2.num (i := k) (by omega)
            have HV := Lib.hid (parG_no s hL out pl hR k z hE hk2 (by rw [List.getD_eq_getElem?_getD, hz]; rfl))
            rw [hk2] at HC
            have hkp : k < pl.length := by omega
            have hkI : (k : Int) < (pl.length : Int) := by omega
            have hpN : pl.length ≤ 10000 := by omega
            obtain ⟨E, hEE⟩ : ∃ E, (regE out).1 = E := ⟨_, rfl⟩
            rw [hEE] at HC HV hE
            have hE' : (E != 0) = true := by simpa using hE
            clear hR hE hlen hk2 hz hEE own1
            go_wp2_with fail
            go_at_call 12
            refine (HC.out _ r1).mono ?_
            rintro e w3 ⟨rfl, hb3⟩
            have kR3 := kE.to hb3
            have hB3 := hB2.trans (hb3.mono (by omega))
            have c3 := (hb3.cell (p := ⟨bb, off + k, none⟩) hbb).trans cz
            clear cz r1 r2 HC
            obtain ⟨cR, fR, lR⟩ := kR3.facts
            go_wp2_with fail
            go_still_tail 7, (by kernel_rfl)
            change wpList _ _ _ _ _ w3.drew
            go_wp2_with fail
            have kF := (put2F (u := .int .i64 E) (v := .int .i64 z) kR3).drew
            have hBF := below_drew (below2F hB3 (Nat.le_refl _) (.int .i64 E) (.int .i64 z))
            clear cR fR lR
            generalize (((w3.setCell ⟨w.heap.size, 0, none⟩ (.int .i64 E)).setCell ⟨w.heap.size, 1, none⟩ (.int .i64 z)).drew) = wF at *
            obtain ⟨cF, fF, lF⟩ := kF.facts
            exact bodyPost_ret (v := .tuple #[.slice none 0 0, .agg #[.int .i64 E, .int .i64 z]]) (by simp [results, Try.results25, go_sem, cF]) rfl ⟨none, 0, by rw [HV.out]; rfl, by rw [HV.out]; exact Rd.zero _, hBF⟩
        · have hI6 : ¬ (0 : Int) < (out.length : Int) := by omega
          clear hdn hdo ho
          have hlen := HLEN.out out pl HDN.out
          have hbd := HBD.out out pl HDN.out
          have own1 := TW.a
          have own2 := TW.b
          obtain ⟨A1, c1, rfl, r1⟩ := own_slice own1
          obtain ⟨A2, c2, rfl, r2⟩ := own_slice own2
          have kE := kR.below B hpl
          have hB2 := hB1.trans (B.mono (Nat.le_of_lt hpl))
          have HC := Lib.hid (fun w r => rCheckR_any A1 out.length c1 out w r (by omega))
          have hR := HPA.out.trans HDN.out
          clear TW own2
          by_cases hE : (regE out).1 = 0
          · have HV := Lib.hid (parG_ok s hL out pl hR hE)
            rw [hE] at HC
            clear hR hE hlen
            obtain ⟨N, hN⟩ : ∃ N, out.length = N := ⟨_, rfl⟩
            rw [hN] at HC r1 hbd own1 hI6 ⊢
            have HN := Lib.hid hN
            clear hN
            go_wp2_with fail
            go_at_call 12
            refine (HC.out _ r1).mono ?_
            rintro e w3 ⟨rfl, hb3⟩
            have own3 := own_below own1 hb3
            clear own1 r1
            have kR3 := kE.to hb3
            have hB3 := hB2.trans (hb3.mono (by omega))
            obtain ⟨cR, fR, lR⟩ := kR3.facts
            go_wp2_with fail
            clear cR fR lR
            have kF := put2F (u := .int .i64 0) (v := .int .i64 0) kR3
            have hBF := below2F hB3 (Nat.le_refl _) (.int .i64 0) (.int .i64 0)
            have rF := Rd.own (own_far (p := ⟨w.heap.size, 1, none⟩) (own_far (p := ⟨w.heap.size, 0, none⟩) own3 hpl (.int .i64 0)) hpl (.int .i64 0))
            generalize ((w3.setCell ⟨w.heap.size, 0, none⟩ (.int .i64 0)).setCell ⟨w.heap.size, 1, none⟩ (.int .i64 0)) = wF at *
            obtain ⟨cF, fF, lF⟩ := kF.facts
            exact bodyPost_ret (v := .tuple #[.slice A1 N c1, .agg #[.int .i64 0, .int .i64 0]]) (by simp [results, Try.results25, go_sem, cF]) rfl ⟨A1, c1, by rw [HV.out, ← HN.out], by rw [HV.out]; simp only [HN.out]; exact rF, hBF⟩
          · obtain ⟨k, hk, hk2⟩ := regE_idx out hE
            exact absurd hk (by omega)
end Go.Proofs.Ytfblbkhiaglelaa
