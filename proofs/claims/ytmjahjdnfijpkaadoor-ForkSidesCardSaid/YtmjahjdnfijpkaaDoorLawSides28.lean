/- ForkSides returns true. -/
import Derived.Test.YtmjahjdnfijpkaaDoorHG
import Derived.Test.YtmjahjdnfijpkaaDoorFkL
import Derived.Test.YtmjahjdnfijpkaaDoorFkZ
import Derived.Test.YtmjahjdnfijpkaaDoorHV
import Derived.Test.YtmjahjdnfijpkaaDoorSpK
namespace Go.Proofs.YtmjahjdnfijpkaaDoor
open Go Go.Proofs Go.RowKit
set_option linter.unusedSimpArgs false
set_option linter.unusedVariables false
set_option maxRecDepth 100000

theorem rFork28_any (rs : List (Int × Int)) (r : Int) (ls : List Int) (es : List Nat) (v : Value) (fr : List Int) (F : Option Addr) (cf : Nat) (w : World) (hv : SpV w v (rs, r, ls, es)) (hn : rs.length ≤ 1000000) (hs : wsmall es) (hF : Rd w 1 F fr.length (iw fr)) (hfn : fr.length ≤ 1000) :
    Calls Tryd.prog 17 #[v, .slice F fr.length cf] w fun e w' => FkRs w w' (forR (rs, r, ls, es) fr).1 (forR (rs, r, ls, es) fr).2.1 (forR (rs, r, ls, es) fr).2.2 e := by
  by_cases hE : forE (rs, r, ls, es) fr = 0
  · have hR : forR (rs, r, ls, es) fr = (parS (rs, r, ls, es), chiS (rs, r, ls, es) fr, 0) := by unfold forR; rw [if_neg (by simpa using hE)]
    rw [hR]
    exact rFork28_ok rs r ls es v fr F cf w hv hn hs hF hfn hE
  · have hR : forR (rs, r, ls, es) fr = (sp0, sp0, forE (rs, r, ls, es) fr) := by unfold forR; rw [if_pos hE]
    rw [hR]
    exact rFork28_bad rs r ls es v fr F cf w hv hn hs hF hfn hE
/-- An address space is small. -/
def LenF (n : Nat) (s : Sp) : Prop := wsmall s.2.2.2 ∧ s.1.length ≤ n ∧ s.2.2.1.length ≤ n ∧ s.2.2.2.length ≤ n
theorem for_len {s : Sp} {fr : List Int} (h : LenF 1000 s) : LenF 1000 (forR s fr).1 ∧ LenF 1000 (forR s fr).2.1 := by
  unfold forR
  split
  · exact ⟨⟨fun x hx => by simp [sp0, tb0] at hx, by simp [sp0], by simp [sp0, tb0], by simp [sp0, tb0]⟩, ⟨fun x hx => by simp [sp0, tb0] at hx, by simp [sp0], by simp [sp0, tb0], by simp [sp0, tb0]⟩⟩
  · rename_i hE
    have hE : forE s fr = 0 := by simpa using hE
    obtain ⟨hR, _⟩ := for_zero hE
    have hT := (spc_zero (roo_zero hR).1).2.1
    obtain ⟨h1, h2, h3, h4⟩ := h
    refine ⟨⟨wsmall_map parW_kp hT h1, h2, h3, by show (s.2.2.2.map parW).length ≤ _; rw [List.length_map]; exact h4⟩, ⟨wsmall_map chiW_kp hT h1, h2, by show (chiL fr s.2.2.1).length ≤ _; unfold chiL; simp, by show (s.2.2.2.map chiW).length ≤ _; rw [List.length_map]; exact h4⟩⟩
theorem sha_len (s : Sp) : (shaR s).1.length ≤ 1000 ∧ (shaR s).2.1.length ≤ 1000 := by
  unfold shaR
  split
  · exact ⟨by simp, by simp⟩
  · exact ⟨Nat.le_trans (nums_len _ _ _) (by omega), Nat.le_trans (nums_len _ _ _) (by omega)⟩

set_option maxHeartbeats 16000000 in
theorem ForkSides_true (rs : List (Int × Int)) (r : Int) (ls : List Int) (es : List Nat) (v : Value) (fr : List Int) (F : Option Addr) (cf : Nat) (w : World) (hv : SpV w v (rs, r, ls, es)) (hs : wsmall es) (hF : Rd w 1 F fr.length (iw fr)) (hm : fr.length ≤ maxLen) (hL : LayOK w) :
    Calls Tryd.prog 3 #[v, .slice F fr.length cf] w fun e w' => e = .returned (.bool true) ∧ Below w.heap.size w w' := by
  obtain ⟨A, c, L, cl, B, d, hve, -, -, -, -⟩ := id hv
  subst hve
  unfold spcV at hv ⊢
  simp only at hv ⊢
  unfold maxLen at hm
  have kS := Bk.new w #[.slice A rs.length c, .int .i64 r, .slice L ls.length cl, .slice B es.length d] 28
  have hB0 := balloc (Below.refl _ w) (.cells #[.slice A rs.length c, .int .i64 r, .slice L ls.length cl, .slice B es.length d] 28)
  generalize hw1 : w.alloc (.cells #[.slice A rs.length c, .int .i64 r, .slice L ls.length cl, .slice B es.length d] 28) = w1 at *
  replace hv := hv.to hB0
  replace hL := hL.below hB0
  have hf : RdI w1 F fr := hF.below hB0 (Nat.le_refl _)
  clear hF
  have HLt := Lib.hid (fun v W h => few28_any rs r ls es v W h)
  by_cases hlt : rs.length ≤ 40 ∧ ls.length ≤ 10 ∧ es.length ≤ 70
  case neg =>
    rw [decide_eq_false hlt] at HLt
    clear hlt
    go_enter Tryd.func3, Tryd.ntmps3
    obtain ⟨c_kS, f_kS, l_kS⟩ := kS.facts
    go_wp2_with fail
    clear c_kS f_kS l_kS
    refine (HLt.out _ _ hv).mono ?_
    rintro e w1 ⟨rfl, hb1⟩
    replace hv := hv.to hb1
    replace hf := hf.to hb1
    replace kS := kS.to hb1
    replace hL := hL.below hb1
    replace hB0 := bnext hB0 hb1
    clear hb1
    clear hw1
    obtain ⟨c_kS, f_kS, l_kS⟩ := kS.facts
    go_wp2_with fail
    clear c_kS f_kS l_kS
    refine (awake28_any _ hL).mono ?_
    rintro e w2 ⟨rfl, hb2⟩
    replace hv := hv.to hb2
    replace hf := hf.to hb2
    replace kS := kS.to hb2
    replace hL := hL.below hb2
    replace hB0 := bnext hB0 hb2
    clear hb2
    obtain ⟨c_kS, f_kS, l_kS⟩ := kS.facts
    go_wp2_with fail
    go_ret
    exact ⟨rfl, hB0⟩
  rw [decide_eq_true hlt] at HLt
  by_cases h12 : fr.length ≤ 12
  case neg =>
    have hd : decide ((12 : Int) < fr.length) = true := decide_eq_true (by omega)
    have hd1 : (12 : Int) < fr.length := by omega
    clear hlt h12
    go_enter Tryd.func3, Tryd.ntmps3
    obtain ⟨c_kS, f_kS, l_kS⟩ := kS.facts
    go_wp2_with fail
    clear c_kS f_kS l_kS
    refine (HLt.out _ _ hv).mono ?_
    rintro e w1 ⟨rfl, hb1⟩
    replace hv := hv.to hb1
    replace hf := hf.to hb1
    replace kS := kS.to hb1
    replace hL := hL.below hb1
    replace hB0 := bnext hB0 hb1
    clear hb1
    clear hw1
    obtain ⟨c_kS, f_kS, l_kS⟩ := kS.facts
    go_wp2_with fail
    clear c_kS f_kS l_kS
    refine (awake28_any _ hL).mono ?_
    rintro e w2 ⟨rfl, hb2⟩
    replace hv := hv.to hb2
    replace hf := hf.to hb2
    replace kS := kS.to hb2
    replace hL := hL.below hb2
    replace hB0 := bnext hB0 hb2
    clear hb2
    obtain ⟨c_kS, f_kS, l_kS⟩ := kS.facts
    go_wp2_with fail
    go_ret
    exact ⟨rfl, hB0⟩
  have hd : decide ((12 : Int) < fr.length) = false := decide_eq_false (by omega)
  have hd1 : ¬ (12 : Int) < fr.length := by omega
  obtain ⟨hl1, hl2, hl3⟩ := hlt
  obtain ⟨hP, hC⟩ := for_len (s := (rs, r, ls, es)) (fr := fr) ⟨hs, by simp only; omega, by simp only; omega, by simp only; omega⟩
  obtain ⟨hq1, hq2⟩ := sha_len (rs, r, ls, es)
  have HOS := Lib.hid (fun v W h => OwnSpace_any rs r ls es v W h (by omega) (by omega) (by omega))
  have HOI := Lib.hid (fun W h => OwnInts28_any F fr.length cf fr W h rfl (by omega))
  have HN := Lib.hid (fun v W h hl => Needs_any rs r ls es v W h (by omega) hs hl)
  have HNr := Lib.hid (fun v W h => rNeeds28_any rs r ls es v W h (by omega) hs)
  have HFk := Lib.hid (fun v F cf W h hl hF hcf => fFork_any rs r ls es v fr F cf W h (by omega) hs hl hF hcf (by omega))
  have HFr := Lib.hid (fun v F cf W h hF => rFork28_any rs r ls es v fr F cf W h (by omega) hs hF (by omega))
  have HSh := Lib.hid (fun v W h hl => fShared_any rs r ls es v W h (by omega) hs hl)
  have HShr := Lib.hid (fun v W h => rShared28_any rs r ls es v W h (by omega) hs)
  have HSX := Lib.hid (fun v v2 W h h2 => SameSpace_eq rs r ls es v v2 W h h2 hs (by omega) (by omega) (by omega))
  have HSF := Lib.hid (fun v v2 W h h2 => SameInts_v fr v v2 W h h2 (by omega))
  generalize forR (rs, r, ls, es) fr = R at *
  generalize shaR (rs, r, ls, es) = Q at *
  generalize neeR (rs, r, ls, es) = U at *
  obtain ⟨⟨rsP, rP, lsP, esP⟩, ⟨rsC, rC, lsC, esC⟩, er⟩ := R
  obtain ⟨zs1, zs2, eq⟩ := Q
  obtain ⟨un, ue⟩ := U
  obtain ⟨p1, p2, p3, p4⟩ := hP
  obtain ⟨c1, c2, c3, c4⟩ := hC
  simp only at p1 p2 p3 p4 c1 c2 c3 c4 hq1 hq2
  have HSP := Lib.hid (fun v v2 W h h2 => SameSpace_eq rsP rP lsP esP v v2 W h h2 p1 p2 p3 p4)
  have HSC := Lib.hid (fun v v2 W h h2 => SameSpace_eq rsC rC lsC esC v v2 W h h2 c1 c2 c3 c4)
  have HI1 := Lib.hid (fun v v2 W h h2 => SameInts_v zs1 v v2 W h h2 hq1)
  have HI2 := Lib.hid (fun v v2 W h h2 => SameInts_v zs2 v v2 W h h2 hq2)
  have Hs := Lib.hid hs
  clear hl1 hl2 hl3 h12 hm p1 p2 p3 p4 c1 c2 c3 c4 hq1 hq2 hs
  go_enter Tryd.func3, Tryd.ntmps3
  obtain ⟨c_kS, f_kS, l_kS⟩ := kS.facts
  go_wp2_with fail
  clear c_kS f_kS l_kS
  refine (HLt.out _ _ hv).mono ?_
  rintro e w1 ⟨rfl, hb1⟩
  replace hv := hv.to hb1
  replace hf := hf.to hb1
  replace kS := kS.to hb1
  replace hL := hL.below hb1
  replace hB0 := bnext hB0 hb1
  clear hb1
  clear hw1 HLt
  obtain ⟨c_kS, f_kS, l_kS⟩ := kS.facts
  go_wp2_with fail
  clear c_kS f_kS l_kS
  refine (HOS.out _ _ hv).mono ?_
  rintro e w2 ⟨vx, rfl, hvx, hb2⟩
  replace hv := hv.to hb2
  replace hf := hf.to hb2
  replace kS := kS.to hb2
  replace hL := hL.below hb2
  replace hB0 := bnext hB0 hb2
  clear hb2
  obtain ⟨AX, cX, LX, clX, BX, dX, rfl, -, -, -, -⟩ := id hvx
  simp only [spcV] at hvx ⊢
  obtain ⟨c_kS, f_kS, l_kS⟩ := kS.facts
  go_wp2_with fail
  clear c_kS f_kS l_kS
  refine (HOI.out _ hf).mono ?_
  rintro e w3 ⟨AI, cI, rfl, hcI, hI0, -, hb3⟩
  replace hv := hv.to hb3
  replace hf := hf.to hb3
  replace hvx := hvx.to hb3
  replace kS := kS.to hb3
  replace hL := hL.below hb3
  replace hB0 := bnext hB0 hb3
  clear hb3
  have hI : RdI w3 AI fr := hI0
  clear hI0 HOS HOI
  obtain ⟨c_kS, f_kS, l_kS⟩ := kS.facts
  go_upto_region 4 with fail
  clear c_kS f_kS l_kS
  have kx := Bk.new w3 #[.slice AX rs.length cX, .int .i64 r, .slice LX ls.length clX, .slice BX es.length dX] 28
  have hcN := balloc (Below.refl _ w3) (.cells #[.slice AX rs.length cX, .int .i64 r, .slice LX ls.length clX, .slice BX es.length dX] 28)
  generalize w3.alloc (.cells #[.slice AX rs.length cX, .int .i64 r, .slice LX ls.length clX, .slice BX es.length dX] 28) = w4 at *
  replace hv := hv.to hcN
  replace hf := hf.to hcN
  replace hvx := hvx.to hcN
  replace hI := hI.to hcN
  replace kS := kS.to hcN
  replace hL := hL.below hcN
  replace hB0 := bnext hB0 hcN
  clear hcN
  obtain ⟨c_kS, f_kS, l_kS⟩ := kS.facts
  obtain ⟨c_kx, f_kx, l_kx⟩ := kx.facts
  go_wp2_with fail
  clear c_kS f_kS l_kS
  clear c_kx f_kx l_kx
  refine (HN.out _ _ hvx hL).mono ?_
  rintro e w5 ⟨rfl, hb5⟩
  replace hv := hv.to hb5
  replace hf := hf.to hb5
  replace hvx := hvx.to hb5
  replace hI := hI.to hb5
  replace kS := kS.to hb5
  replace kx := kx.to hb5
  replace hL := hL.below hb5
  replace hB0 := bnext hB0 hb5
  clear hb5
  obtain ⟨c_kS, f_kS, l_kS⟩ := kS.facts
  obtain ⟨c_kx, f_kx, l_kx⟩ := kx.facts
  go_wp2_with fail
  clear c_kS f_kS l_kS
  clear c_kx f_kx l_kx
  refine (HNr.out _ _ hv).mono ?_
  rintro e w6 ⟨rfl, hb6⟩
  replace hv := hv.to hb6
  replace hf := hf.to hb6
  replace hvx := hvx.to hb6
  replace hI := hI.to hb6
  replace kS := kS.to hb6
  replace kx := kx.to hb6
  replace hL := hL.below hb6
  replace hB0 := bnext hB0 hb6
  clear hb6
  clear HN HNr
  obtain ⟨c_kS, f_kS, l_kS⟩ := kS.facts
  obtain ⟨c_kx, f_kx, l_kx⟩ := kx.facts
  go_wp2_with fail
  clear c_kS f_kS l_kS
  clear c_kx f_kx l_kx
  refine (HFk.out _ _ _ _ hvx hL hI hcI).mono ?_
  rintro e w7 ⟨va, vb, rfl, hva, hvb, -, -, hb7⟩
  replace hv := hv.to hb7
  replace hf := hf.to hb7
  replace hvx := hvx.to hb7
  replace hI := hI.to hb7
  replace kS := kS.to hb7
  replace kx := kx.to hb7
  replace hL := hL.below hb7
  replace hB0 := bnext hB0 hb7
  clear hb7
  obtain ⟨AP, cP, LP, clP, BP, dP, rfl, -, -, -, -⟩ := id hva
  simp only [spcV] at hva ⊢
  obtain ⟨AC, cC, LC, clC, BC, dC, rfl, -, -, -, -⟩ := id hvb
  simp only [spcV] at hvb ⊢
  obtain ⟨c_kS, f_kS, l_kS⟩ := kS.facts
  obtain ⟨c_kx, f_kx, l_kx⟩ := kx.facts
  go_upto_region 9 with fail
  clear c_kS f_kS l_kS
  clear c_kx f_kx l_kx
  have ka := Bk.new w7 #[.slice AP rsP.length cP, .int .i64 rP, .slice LP lsP.length clP, .slice BP esP.length dP] 28
  have hcN := balloc (Below.refl _ w7) (.cells #[.slice AP rsP.length cP, .int .i64 rP, .slice LP lsP.length clP, .slice BP esP.length dP] 28)
  have hcS : (w7.alloc (.cells #[.slice AP rsP.length cP, .int .i64 rP, .slice LP lsP.length clP, .slice BP esP.length dP] 28)).heap.size = w7.heap.size + 1 := by rw [World.size_alloc]
  generalize w7.alloc (.cells #[.slice AP rsP.length cP, .int .i64 rP, .slice LP lsP.length clP, .slice BP esP.length dP] 28) = w8 at *
  replace hv := hv.to hcN
  replace hf := hf.to hcN
  replace hvx := hvx.to hcN
  replace hI := hI.to hcN
  replace hva := hva.to hcN
  replace hvb := hvb.to hcN
  replace kS := kS.to hcN
  replace kx := kx.to hcN
  replace hL := hL.below hcN
  replace hB0 := bnext hB0 hcN
  clear hcN
  have kb : Bk (w8.alloc (.cells #[.slice AC rsC.length cC, .int .i64 rC, .slice LC lsC.length clC, .slice BC esC.length dC] 28)) (w7.heap.size + 1) #[.slice AC rsC.length cC, .int .i64 rC, .slice LC lsC.length clC, .slice BC esC.length dC] 28 := by rw [← hcS]; exact Bk.new w8 #[.slice AC rsC.length cC, .int .i64 rC, .slice LC lsC.length clC, .slice BC esC.length dC] 28
  have hcN := balloc (Below.refl _ w8) (.cells #[.slice AC rsC.length cC, .int .i64 rC, .slice LC lsC.length clC, .slice BC esC.length dC] 28)
  generalize w8.alloc (.cells #[.slice AC rsC.length cC, .int .i64 rC, .slice LC lsC.length clC, .slice BC esC.length dC] 28) = w9 at *
  replace hv := hv.to hcN
  replace hf := hf.to hcN
  replace hvx := hvx.to hcN
  replace hI := hI.to hcN
  replace hva := hva.to hcN
  replace hvb := hvb.to hcN
  replace kS := kS.to hcN
  replace kx := kx.to hcN
  replace ka := ka.to hcN
  replace hL := hL.below hcN
  replace hB0 := bnext hB0 hcN
  clear hcN
  clear hcS
  obtain ⟨c_kS, f_kS, l_kS⟩ := kS.facts
  obtain ⟨c_kx, f_kx, l_kx⟩ := kx.facts
  obtain ⟨c_ka, f_ka, l_ka⟩ := ka.facts
  obtain ⟨c_kb, f_kb, l_kb⟩ := kb.facts
  go_wp2_with fail
  clear c_kS f_kS l_kS
  clear c_kx f_kx l_kx
  clear c_ka f_ka l_ka
  clear c_kb f_kb l_kb
  refine (HFr.out _ _ _ _ hv hf).mono ?_
  rintro e w10 ⟨vc, vd, rfl, hvc, hvd, hb10⟩
  replace hv := hv.to hb10
  replace hf := hf.to hb10
  replace hvx := hvx.to hb10
  replace hI := hI.to hb10
  replace hva := hva.to hb10
  replace hvb := hvb.to hb10
  replace kS := kS.to hb10
  replace kx := kx.to hb10
  replace ka := ka.to hb10
  replace kb := kb.to hb10
  replace hL := hL.below hb10
  replace hB0 := bnext hB0 hb10
  clear hb10
  obtain ⟨AQ, cQ, LQ, clQ, BQ, dQ, rfl, -, -, -, -⟩ := id hvc
  simp only [spcV] at hvc ⊢
  obtain ⟨AD, cD, LD, clD, BD, dD, rfl, -, -, -, -⟩ := id hvd
  simp only [spcV] at hvd ⊢
  obtain ⟨c_kS, f_kS, l_kS⟩ := kS.facts
  obtain ⟨c_kx, f_kx, l_kx⟩ := kx.facts
  obtain ⟨c_ka, f_ka, l_ka⟩ := ka.facts
  obtain ⟨c_kb, f_kb, l_kb⟩ := kb.facts
  go_upto_region 10 with fail
  clear c_kS f_kS l_kS
  clear c_kx f_kx l_kx
  clear c_ka f_ka l_ka
  clear c_kb f_kb l_kb
  have kc := Bk.new w10 #[.slice AQ rsP.length cQ, .int .i64 rP, .slice LQ lsP.length clQ, .slice BQ esP.length dQ] 28
  have hcN := balloc (Below.refl _ w10) (.cells #[.slice AQ rsP.length cQ, .int .i64 rP, .slice LQ lsP.length clQ, .slice BQ esP.length dQ] 28)
  have hcS : (w10.alloc (.cells #[.slice AQ rsP.length cQ, .int .i64 rP, .slice LQ lsP.length clQ, .slice BQ esP.length dQ] 28)).heap.size = w10.heap.size + 1 := by rw [World.size_alloc]
  generalize w10.alloc (.cells #[.slice AQ rsP.length cQ, .int .i64 rP, .slice LQ lsP.length clQ, .slice BQ esP.length dQ] 28) = w11 at *
  replace hv := hv.to hcN
  replace hf := hf.to hcN
  replace hvx := hvx.to hcN
  replace hI := hI.to hcN
  replace hva := hva.to hcN
  replace hvb := hvb.to hcN
  replace hvc := hvc.to hcN
  replace hvd := hvd.to hcN
  replace kS := kS.to hcN
  replace kx := kx.to hcN
  replace ka := ka.to hcN
  replace kb := kb.to hcN
  replace hL := hL.below hcN
  replace hB0 := bnext hB0 hcN
  clear hcN
  have kd : Bk (w11.alloc (.cells #[.slice AD rsC.length cD, .int .i64 rC, .slice LD lsC.length clD, .slice BD esC.length dD] 28)) (w10.heap.size + 1) #[.slice AD rsC.length cD, .int .i64 rC, .slice LD lsC.length clD, .slice BD esC.length dD] 28 := by rw [← hcS]; exact Bk.new w11 #[.slice AD rsC.length cD, .int .i64 rC, .slice LD lsC.length clD, .slice BD esC.length dD] 28
  have hcN := balloc (Below.refl _ w11) (.cells #[.slice AD rsC.length cD, .int .i64 rC, .slice LD lsC.length clD, .slice BD esC.length dD] 28)
  generalize w11.alloc (.cells #[.slice AD rsC.length cD, .int .i64 rC, .slice LD lsC.length clD, .slice BD esC.length dD] 28) = w12 at *
  replace hv := hv.to hcN
  replace hf := hf.to hcN
  replace hvx := hvx.to hcN
  replace hI := hI.to hcN
  replace hva := hva.to hcN
  replace hvb := hvb.to hcN
  replace hvc := hvc.to hcN
  replace hvd := hvd.to hcN
  replace kS := kS.to hcN
  replace kx := kx.to hcN
  replace ka := ka.to hcN
  replace kb := kb.to hcN
  replace kc := kc.to hcN
  replace hL := hL.below hcN
  replace hB0 := bnext hB0 hcN
  clear hcN
  clear hcS
  clear HFk HFr
  obtain ⟨c_kS, f_kS, l_kS⟩ := kS.facts
  obtain ⟨c_kx, f_kx, l_kx⟩ := kx.facts
  obtain ⟨c_ka, f_ka, l_ka⟩ := ka.facts
  obtain ⟨c_kb, f_kb, l_kb⟩ := kb.facts
  obtain ⟨c_kc, f_kc, l_kc⟩ := kc.facts
  obtain ⟨c_kd, f_kd, l_kd⟩ := kd.facts
  go_wp2_with fail
  clear c_kS f_kS l_kS
  clear c_kx f_kx l_kx
  clear c_ka f_ka l_ka
  clear c_kb f_kb l_kb
  clear c_kc f_kc l_kc
  clear c_kd f_kd l_kd
  refine (HSP.out _ _ _ hva hvc).mono ?_
  rintro e w13 ⟨rfl, hb13⟩
  replace hv := hv.to hb13
  replace hf := hf.to hb13
  replace hvx := hvx.to hb13
  replace hI := hI.to hb13
  replace hva := hva.to hb13
  replace hvb := hvb.to hb13
  replace hvc := hvc.to hb13
  replace hvd := hvd.to hb13
  replace kS := kS.to hb13
  replace kx := kx.to hb13
  replace ka := ka.to hb13
  replace kb := kb.to hb13
  replace kc := kc.to hb13
  replace kd := kd.to hb13
  replace hL := hL.below hb13
  replace hB0 := bnext hB0 hb13
  clear hb13
  obtain ⟨c_kS, f_kS, l_kS⟩ := kS.facts
  obtain ⟨c_kx, f_kx, l_kx⟩ := kx.facts
  obtain ⟨c_ka, f_ka, l_ka⟩ := ka.facts
  obtain ⟨c_kb, f_kb, l_kb⟩ := kb.facts
  obtain ⟨c_kc, f_kc, l_kc⟩ := kc.facts
  obtain ⟨c_kd, f_kd, l_kd⟩ := kd.facts
  go_wp2_with fail
  clear c_kS f_kS l_kS
  clear c_kx f_kx l_kx
  clear c_ka f_ka l_ka
  clear c_kb f_kb l_kb
  clear c_kc f_kc l_kc
  clear c_kd f_kd l_kd
  refine (HSC.out _ _ _ hvb hvd).mono ?_
  rintro e w14 ⟨rfl, hb14⟩
  replace hv := hv.to hb14
  replace hf := hf.to hb14
  replace hvx := hvx.to hb14
  replace hI := hI.to hb14
  replace hva := hva.to hb14
  replace hvb := hvb.to hb14
  replace hvc := hvc.to hb14
  replace hvd := hvd.to hb14
  replace kS := kS.to hb14
  replace kx := kx.to hb14
  replace ka := ka.to hb14
  replace kb := kb.to hb14
  replace kc := kc.to hb14
  replace kd := kd.to hb14
  replace hL := hL.below hb14
  replace hB0 := bnext hB0 hb14
  clear hb14
  clear hva hvb hvc hvd ka kb kc kd
  clear HSP HSC
  obtain ⟨c_kS, f_kS, l_kS⟩ := kS.facts
  obtain ⟨c_kx, f_kx, l_kx⟩ := kx.facts
  go_wp2_with fail
  clear c_kS f_kS l_kS
  clear c_kx f_kx l_kx
  refine (HSh.out _ _ hvx hL).mono ?_
  rintro e w15 ⟨vp, vq, rfl, hvp, hvq, -, hb15⟩
  replace hv := hv.to hb15
  replace hf := hf.to hb15
  replace hvx := hvx.to hb15
  replace hI := hI.to hb15
  replace kS := kS.to hb15
  replace kx := kx.to hb15
  replace hL := hL.below hb15
  replace hB0 := bnext hB0 hb15
  clear hb15
  obtain ⟨Ap, cp, rfl, -⟩ := id hvp
  obtain ⟨Aq, cq, rfl, -⟩ := id hvq
  obtain ⟨c_kS, f_kS, l_kS⟩ := kS.facts
  obtain ⟨c_kx, f_kx, l_kx⟩ := kx.facts
  go_wp2_with fail
  clear c_kS f_kS l_kS
  clear c_kx f_kx l_kx
  refine (HShr.out _ _ hv).mono ?_
  rintro e w16 ⟨vr, vt, rfl, hvr, hvt, -, hb16⟩
  replace hv := hv.to hb16
  replace hf := hf.to hb16
  replace hvx := hvx.to hb16
  replace hI := hI.to hb16
  replace hvp := hvp.to hb16
  replace hvq := hvq.to hb16
  replace kS := kS.to hb16
  replace kx := kx.to hb16
  replace hL := hL.below hb16
  replace hB0 := bnext hB0 hb16
  clear hb16
  obtain ⟨Ar, cr, rfl, -⟩ := id hvr
  obtain ⟨At, ct, rfl, -⟩ := id hvt
  clear HSh HShr
  obtain ⟨c_kS, f_kS, l_kS⟩ := kS.facts
  obtain ⟨c_kx, f_kx, l_kx⟩ := kx.facts
  go_wp2_with fail
  clear c_kS f_kS l_kS
  clear c_kx f_kx l_kx
  refine (HI1.out _ _ _ hvp hvr).mono ?_
  rintro e w17 ⟨rfl, hb17⟩
  replace hv := hv.to hb17
  replace hf := hf.to hb17
  replace hvx := hvx.to hb17
  replace hI := hI.to hb17
  replace hvp := hvp.to hb17
  replace hvq := hvq.to hb17
  replace hvr := hvr.to hb17
  replace hvt := hvt.to hb17
  replace kS := kS.to hb17
  replace kx := kx.to hb17
  replace hL := hL.below hb17
  replace hB0 := bnext hB0 hb17
  clear hb17
  obtain ⟨c_kS, f_kS, l_kS⟩ := kS.facts
  obtain ⟨c_kx, f_kx, l_kx⟩ := kx.facts
  go_wp2_with fail
  clear c_kS f_kS l_kS
  clear c_kx f_kx l_kx
  refine (HI2.out _ _ _ hvq hvt).mono ?_
  rintro e w18 ⟨rfl, hb18⟩
  replace hv := hv.to hb18
  replace hf := hf.to hb18
  replace hvx := hvx.to hb18
  replace hI := hI.to hb18
  replace hvp := hvp.to hb18
  replace hvq := hvq.to hb18
  replace hvr := hvr.to hb18
  replace hvt := hvt.to hb18
  replace kS := kS.to hb18
  replace kx := kx.to hb18
  replace hL := hL.below hb18
  replace hB0 := bnext hB0 hb18
  clear hb18
  clear hvp hvq hvr hvt
  clear HI1 HI2
  obtain ⟨c_kS, f_kS, l_kS⟩ := kS.facts
  obtain ⟨c_kx, f_kx, l_kx⟩ := kx.facts
  go_wp2_with fail
  clear c_kS f_kS l_kS
  clear c_kx f_kx l_kx
  refine (HSX.out _ _ _ hvx hv).mono ?_
  rintro e w19 ⟨rfl, hb19⟩
  replace hv := hv.to hb19
  replace hf := hf.to hb19
  replace hvx := hvx.to hb19
  replace hI := hI.to hb19
  replace kS := kS.to hb19
  replace kx := kx.to hb19
  replace hL := hL.below hb19
  replace hB0 := bnext hB0 hb19
  clear hb19
  clear hvx hv kx kS
  go_wp2_with fail
  refine (HSF.out _ _ _ (hI.is cI) (hf.is cf)).mono ?_
  rintro e w20 ⟨rfl, hb20⟩
  replace hf := hf.to hb20
  replace hI := hI.to hb20
  replace hL := hL.below hb20
  replace hB0 := bnext hB0 hb20
  clear hb20
  clear hI hf
  clear HSX HSF
  go_wp2_with fail
  refine (awake28_any _ hL).mono ?_
  rintro e w21 ⟨rfl, hb21⟩
  replace hL := hL.below hb21
  replace hB0 := bnext hB0 hb21
  clear hb21
  go_wp2_with fail
  go_ret
  exact ⟨rfl, hB0⟩
end Go.Proofs.YtmjahjdnfijpkaaDoor
