/- ForkLooks returns true. -/
import Derived.Test.YtmjahjdnfijpkaaDoorHG
import Derived.Test.YtmjahjdnfijpkaaDoorHH
import Derived.Test.YtmjahjdnfijpkaaDoorSpK
namespace Go.Proofs.YtmjahjdnfijpkaaDoor
open Go Go.Proofs Go.RowKit
set_option linter.unusedSimpArgs false
set_option linter.unusedVariables false
set_option maxRecDepth 100000

set_option maxHeartbeats 16000000 in
theorem ForkLooks_true (rs : List (Int × Int)) (r : Int) (ls : List Int) (es : List Nat) (v : Value) (rs2 : List (Int × Int)) (r2 : Int) (ls2 : List Int) (es2 : List Nat) (v2 : Value) (w : World) (hv : SpV w v (rs, r, ls, es)) (hv2 : SpV w v2 (rs2, r2, ls2, es2)) (hs : wsmall es) (hs2 : wsmall es2) (hL : LayOK w) :
    Calls Tryd.prog 4 #[v, v2] w fun e w' => e = .returned (.bool true) ∧ Below w.heap.size w w' := by
  obtain ⟨A, c, L, cl, B, d, hve, _, _, _, _⟩ := id hv
  subst hve
  obtain ⟨A2, c2, L2, cl2, B2, d2, hve2, _, _, _, _⟩ := id hv2
  subst hve2
  unfold spcV at hv hv2 ⊢
  simp only at hv hv2 ⊢
  have kS := (Bk.new w #[.slice A rs.length c, .int .i64 r, .slice L ls.length cl, .slice B es.length d] 28).alloc (.cells #[.slice A2 rs2.length c2, .int .i64 r2, .slice L2 ls2.length cl2, .slice B2 es2.length d2] 28)
  have kU := Bk.new (w.alloc (.cells #[.slice A rs.length c, .int .i64 r, .slice L ls.length cl, .slice B es.length d] 28)) #[.slice A2 rs2.length c2, .int .i64 r2, .slice L2 ls2.length cl2, .slice B2 es2.length d2] 28
  simp only [World.size_alloc] at kU
  have hB0 := balloc (balloc (Below.refl _ w) (.cells #[.slice A rs.length c, .int .i64 r, .slice L ls.length cl, .slice B es.length d] 28)) (.cells #[.slice A2 rs2.length c2, .int .i64 r2, .slice L2 ls2.length cl2, .slice B2 es2.length d2] 28)
  generalize hw1 : (w.alloc (.cells #[.slice A rs.length c, .int .i64 r, .slice L ls.length cl, .slice B es.length d] 28)).alloc (.cells #[.slice A2 rs2.length c2, .int .i64 r2, .slice L2 ls2.length cl2, .slice B2 es2.length d2] 28) = w1 at *
  replace hv := hv.to hB0
  replace hv2 := hv2.to hB0
  replace hL := hL.below hB0
  have HLt := Lib.hid (fun v W h => few28_any rs r ls es v W h)
  have HLt2 := Lib.hid (fun v W h => few28_any rs2 r2 ls2 es2 v W h)
  by_cases hlt : rs.length ≤ 40 ∧ ls.length ≤ 10 ∧ es.length ≤ 70
  case neg =>
    rw [decide_eq_false hlt] at HLt
    clear hlt
    go_enter Tryd.func4, Tryd.ntmps4
    obtain ⟨c_kS, f_kS, l_kS⟩ := kS.facts
    obtain ⟨c_kU, f_kU, l_kU⟩ := kU.facts
    go_wp2_with fail
    clear c_kS f_kS l_kS
    clear c_kU f_kU l_kU
    refine (HLt.out _ _ hv).mono ?_
    rintro e w1 ⟨rfl, hb1⟩
    replace hv := hv.to hb1
    replace hv2 := hv2.to hb1
    replace kS := kS.to hb1
    replace kU := kU.to hb1
    replace hL := hL.below hb1
    replace hB0 := bnext hB0 hb1
    clear hb1
    clear hw1
    obtain ⟨c_kS, f_kS, l_kS⟩ := kS.facts
    obtain ⟨c_kU, f_kU, l_kU⟩ := kU.facts
    go_wp2_with fail
    clear c_kS f_kS l_kS
    clear c_kU f_kU l_kU
    refine (awake28_any _ hL).mono ?_
    rintro e w2 ⟨rfl, hb2⟩
    replace hv := hv.to hb2
    replace hv2 := hv2.to hb2
    replace kS := kS.to hb2
    replace kU := kU.to hb2
    replace hL := hL.below hb2
    replace hB0 := bnext hB0 hb2
    clear hb2
    obtain ⟨c_kS, f_kS, l_kS⟩ := kS.facts
    obtain ⟨c_kU, f_kU, l_kU⟩ := kU.facts
    go_wp2_with fail
    go_ret
    exact ⟨rfl, hB0⟩
  rw [decide_eq_true hlt] at HLt
  by_cases hlt2 : rs2.length ≤ 40 ∧ ls2.length ≤ 10 ∧ es2.length ≤ 70
  case neg =>
    rw [decide_eq_false hlt2] at HLt2
    clear hlt hlt2
    go_enter Tryd.func4, Tryd.ntmps4
    obtain ⟨c_kS, f_kS, l_kS⟩ := kS.facts
    obtain ⟨c_kU, f_kU, l_kU⟩ := kU.facts
    go_wp2_with fail
    clear c_kS f_kS l_kS
    clear c_kU f_kU l_kU
    refine (HLt.out _ _ hv).mono ?_
    rintro e w1 ⟨rfl, hb1⟩
    replace hv := hv.to hb1
    replace hv2 := hv2.to hb1
    replace kS := kS.to hb1
    replace kU := kU.to hb1
    replace hL := hL.below hb1
    replace hB0 := bnext hB0 hb1
    clear hb1
    clear hw1
    obtain ⟨c_kS, f_kS, l_kS⟩ := kS.facts
    obtain ⟨c_kU, f_kU, l_kU⟩ := kU.facts
    go_wp2_with fail
    clear c_kS f_kS l_kS
    clear c_kU f_kU l_kU
    refine (HLt2.out _ _ hv2).mono ?_
    rintro e w2 ⟨rfl, hb2⟩
    replace hv := hv.to hb2
    replace hv2 := hv2.to hb2
    replace kS := kS.to hb2
    replace kU := kU.to hb2
    replace hL := hL.below hb2
    replace hB0 := bnext hB0 hb2
    clear hb2
    obtain ⟨c_kS, f_kS, l_kS⟩ := kS.facts
    obtain ⟨c_kU, f_kU, l_kU⟩ := kU.facts
    go_wp2_with fail
    clear c_kS f_kS l_kS
    clear c_kU f_kU l_kU
    refine (awake28_any _ hL).mono ?_
    rintro e w3 ⟨rfl, hb3⟩
    replace hv := hv.to hb3
    replace hv2 := hv2.to hb3
    replace kS := kS.to hb3
    replace kU := kU.to hb3
    replace hL := hL.below hb3
    replace hB0 := bnext hB0 hb3
    clear hb3
    obtain ⟨c_kS, f_kS, l_kS⟩ := kS.facts
    obtain ⟨c_kU, f_kU, l_kU⟩ := kU.facts
    go_wp2_with fail
    go_ret
    exact ⟨rfl, hB0⟩
  rw [decide_eq_true hlt2] at HLt2
  obtain ⟨hl1, hl2, hl3⟩ := hlt
  obtain ⟨hl4, hl5, hl6⟩ := hlt2
  have HS := Lib.hid (fun v v2 W h h2 hl => fSame_any rs r ls es v rs2 r2 ls2 es2 v2 W h h2 (by omega) (by omega) hs hs2 hl)
  have HSr := Lib.hid (fun v v2 W h h2 => rSame28_any rs r ls es v rs2 r2 ls2 es2 v2 W h h2 (by omega) (by omega) hs hs2)
  have HD := Lib.hid (fun v v2 W h h2 hl => fDiffer_any rs r ls es v rs2 r2 ls2 es2 v2 W h h2 (by omega) (by omega) hs hs2 hl)
  have HDr := Lib.hid (fun v v2 W h h2 => rDiffer28_any rs r ls es v rs2 r2 ls2 es2 v2 W h h2 (by omega) (by omega) hs hs2)
  have hdl : (difR (rs, r, ls, es) (rs2, r2, ls2, es2)).1.length ≤ 1000 := by
    unfold difR
    split
    · simp
    · exact Nat.le_trans (difL_len _ _ 64) (by omega)
  generalize difR (rs, r, ls, es) (rs2, r2, ls2, es2) = dR at *
  generalize samR (rs, r, ls, es) (rs2, r2, ls2, es2) = sR at *
  obtain ⟨dl, de⟩ := dR
  obtain ⟨sb, se⟩ := sR
  simp only at hdl
  have HSI := Lib.hid (fun v v2 W h h2 => SameInts_v dl v v2 W h h2 hdl)
  clear hl1 hl2 hl3 hl4 hl5 hl6 hdl
  go_enter Tryd.func4, Tryd.ntmps4
  obtain ⟨c_kS, f_kS, l_kS⟩ := kS.facts
  obtain ⟨c_kU, f_kU, l_kU⟩ := kU.facts
  go_wp2_with fail
  clear c_kS f_kS l_kS
  clear c_kU f_kU l_kU
  refine (HLt.out _ _ hv).mono ?_
  rintro e w1 ⟨rfl, hb1⟩
  replace hv := hv.to hb1
  replace hv2 := hv2.to hb1
  replace kS := kS.to hb1
  replace kU := kU.to hb1
  replace hL := hL.below hb1
  replace hB0 := bnext hB0 hb1
  clear hb1
  clear hw1
  obtain ⟨c_kS, f_kS, l_kS⟩ := kS.facts
  obtain ⟨c_kU, f_kU, l_kU⟩ := kU.facts
  go_wp2_with fail
  clear c_kS f_kS l_kS
  clear c_kU f_kU l_kU
  refine (HLt2.out _ _ hv2).mono ?_
  rintro e w2 ⟨rfl, hb2⟩
  replace hv := hv.to hb2
  replace hv2 := hv2.to hb2
  replace kS := kS.to hb2
  replace kU := kU.to hb2
  replace hL := hL.below hb2
  replace hB0 := bnext hB0 hb2
  clear hb2
  obtain ⟨c_kS, f_kS, l_kS⟩ := kS.facts
  obtain ⟨c_kU, f_kU, l_kU⟩ := kU.facts
  go_wp2_with fail
  clear c_kS f_kS l_kS
  clear c_kU f_kU l_kU
  refine (HS.out _ _ _ hv hv2 hL).mono ?_
  rintro e w3 ⟨rfl, hb3⟩
  replace hv := hv.to hb3
  replace hv2 := hv2.to hb3
  replace kS := kS.to hb3
  replace kU := kU.to hb3
  replace hL := hL.below hb3
  replace hB0 := bnext hB0 hb3
  clear hb3
  obtain ⟨c_kS, f_kS, l_kS⟩ := kS.facts
  obtain ⟨c_kU, f_kU, l_kU⟩ := kU.facts
  go_wp2_with fail
  clear c_kS f_kS l_kS
  clear c_kU f_kU l_kU
  refine (HSr.out _ _ _ hv hv2).mono ?_
  rintro e w4 ⟨rfl, hb4⟩
  replace hv := hv.to hb4
  replace hv2 := hv2.to hb4
  replace kS := kS.to hb4
  replace kU := kU.to hb4
  replace hL := hL.below hb4
  replace hB0 := bnext hB0 hb4
  clear hb4
  obtain ⟨c_kS, f_kS, l_kS⟩ := kS.facts
  obtain ⟨c_kU, f_kU, l_kU⟩ := kU.facts
  go_wp2_with fail
  clear c_kS f_kS l_kS
  clear c_kU f_kU l_kU
  refine (HD.out _ _ _ hv hv2 hL).mono ?_
  rintro e w5 ⟨vp, rfl, hp, hb5⟩
  replace hv := hv.to hb5
  replace hv2 := hv2.to hb5
  replace kS := kS.to hb5
  replace kU := kU.to hb5
  replace hL := hL.below hb5
  replace hB0 := bnext hB0 hb5
  clear hb5
  obtain ⟨Ap, cp, rfl, hrp⟩ := id hp
  clear hrp
  obtain ⟨c_kS, f_kS, l_kS⟩ := kS.facts
  obtain ⟨c_kU, f_kU, l_kU⟩ := kU.facts
  go_wp2_with fail
  clear c_kS f_kS l_kS
  clear c_kU f_kU l_kU
  refine (HDr.out _ _ _ hv hv2).mono ?_
  rintro e w6 ⟨vq, rfl, hq, hb6⟩
  replace hv := hv.to hb6
  replace hv2 := hv2.to hb6
  replace hp := hp.to hb6
  replace kS := kS.to hb6
  replace kU := kU.to hb6
  replace hL := hL.below hb6
  replace hB0 := bnext hB0 hb6
  clear hb6
  obtain ⟨Aq, cq, rfl, hrq⟩ := id hq
  clear hrq
  clear hv hv2 kS kU
  clear HS HSr HD HDr HLt HLt2
  go_wp2_with fail
  refine (HSI.out _ _ _ hp hq).mono ?_
  rintro e w7 ⟨rfl, hb7⟩
  replace hp := hp.to hb7
  replace hq := hq.to hb7
  replace hL := hL.below hb7
  replace hB0 := bnext hB0 hb7
  clear hb7
  go_wp2_with fail
  refine (awake28_any _ hL).mono ?_
  rintro e w8 ⟨rfl, hb8⟩
  replace hp := hp.to hb8
  replace hq := hq.to hb8
  replace hL := hL.below hb8
  replace hB0 := bnext hB0 hb8
  clear hb8
  go_wp2_with fail
  go_ret
  exact ⟨rfl, hB0⟩
end Go.Proofs.YtmjahjdnfijpkaaDoor
