/- ForkAdds returns true. -/
import Derived.Test.YtmjahjdnfijpkaaDoorHT
import Derived.Test.YtmjahjdnfijpkaaDoorHG
import Derived.Test.YtmjahjdnfijpkaaDoorHF
import Derived.Test.YtmjahjdnfijpkaaDoorFkE
import Derived.Test.YtmjahjdnfijpkaaDoorSpK
import Derived.Test.YtmjahjdnfijpkaaDoorHS
import Derived.Deep.RegionHeld3
namespace Go.Proofs.YtmjahjdnfijpkaaDoor
open Go Go.Proofs Go.RowKit
set_option linter.unusedSimpArgs false
set_option linter.unusedVariables false
set_option maxRecDepth 100000

/-- What the walk of ForkAdds needs of the address space and its fork. -/
theorem adds_facts {rs : List (Int × Int)} {ls : List Int} {es : List Nat} (hM : MdS (rs, 10, ls, es) 10) (hl8 : ls.length = 8) (hrl : rs.length ≤ 64) :
    ∃ (sP sC : Sp) (c1 c2 nl : List Int), wsmall es ∧ wsmall sP.2.2.2 ∧ wsmall sC.2.2.2 ∧ es.length = 64 ∧ sP.1.length ≤ 64 ∧ sC.1.length ≤ 64 ∧
      forR (rs, 10, ls, es) (frsL 100 ls 8) = (sP, sC, 0) ∧ couR [(rs, 10, ls, es)] = (c1, 0) ∧ couR [sP, sC] = (c2, 0) ∧ shaR (rs, 10, ls, es) = (nl, numL es 2 64, 0) ∧ nl.foldl bump c1 = c2 ∧ c1.length = 256 ∧ c2.length = 256 ∧ nl.length ≤ 64 ∧ (∀ x ∈ nl, 20 ≤ x ∧ x ≤ 39) ∧ (∀ f, 0 ≤ c1.getD f 0 ∧ c1.getD f 0 ≤ 64) := by
  have hfo := hM.frames (y := 100) (by omega) (by omega) (by omega) (by omega)
  simp only at hfo
  have hok := hM.ok
  obtain ⟨hpv, hpA⟩ := par_valid hok
  obtain ⟨_, hfk, _⟩ := for_zero hfo
  obtain ⟨hcv, hcA⟩ := chi_valid hok hfk
  have hT0 := (spc_zero hok).2.1
  refine ⟨parS (rs, 10, ls, es), chiS (rs, 10, ls, es) (frsL 100 ls 8), couL [(rs, 10, ls, es)] 1, couL [parS (rs, 10, ls, es), chiS (rs, 10, ls, es) (frsL 100 ls 8)] 2, numL es 1 64, hM.sm, wsmall_map parW_kp hT0 hM.sm, wsmall_map chiW_kp hT0 hM.sm, (tab_zero hT0).2.1, hrl, hrl, ?_, couR_one hok, couR_two hpv hcv, ?_, adds_plain hok hpA hcA, cou_len _ _, cou_len _ _, nums_len _ _ _, fun x hx => ?_, fun f => ?_⟩
  · unfold forR; rw [if_neg (by rw [hfo]; decide)]
  · unfold shaR; rw [if_neg (by simpa using hok)]
  · unfold numL at hx
    obtain ⟨p, hp, rfl⟩ := List.mem_map.1 hx
    obtain ⟨hp1, hp2⟩ := List.mem_filter.1 hp
    exact hM.nm p (List.mem_range.1 hp1) (by simpa using hp2)
  · have := couL_bd [(rs, 10, ls, es)] 1 (by simp) f
    simpa using this
/-- Between two shared frames. -/
def AddI (nl c1 c2 : List Int) (PB PC : Nat) (AN : Option Addr) (w : World) (i : Value) (wr : World) : Prop := ∃ k : Nat, k ≤ nl.length ∧ i = .int .i64 k ∧ Bk wr PB (iw ((nl.take k).foldl bump c1)).toArray 3 ∧ Bk wr PC (iw c2).toArray 3 ∧ Rd wr 1 AN nl.length (iw nl) ∧ Below w.heap.size w wr
theorem has_twenty {x : Int} (h : 20 ≤ x ∧ x ≤ 39) : decide (x ∈ [20, 21, 22, 23, 24, 25, 26, 27, 28, 29, 30, 31, 32, 33, 34, 35, 36, 37, 38, 39]) = true := by
  refine decide_eq_true ?_
  simp only [List.mem_cons, List.not_mem_nil, or_false]
  omega

set_option maxHeartbeats 16000000 in
theorem ForkAdds_true (F : Option Addr) (cf : Nat) (zs : List Int) (w : World) (hF : Rd w 1 F zs.length (iw zs)) (hn : zs.length ≤ maxLen) (hL : LayOK w) :
    Calls Tryd.prog 6 #[.slice F zs.length cf] w fun e w' => e = .returned (.bool true) ∧ Below w.heap.size w w' := by
  have hB0 := Below.refl w.heap.size w
  have HL0 := Lib.hid hL
  have HMd := Lib.hid (made28_any F cf zs w hF hn)
  generalize zs.length = nz at *
  clear hF hn
  go_enter Tryd.func6, Tryd.ntmps6
  go_wp2_with fail
  refine (HMd.out).mono ?_
  rintro e w1 ⟨rs, ls, es, vS, rfl, hvS, hM, hD, hl8, hrl, hb1⟩
  replace hL := hL.below hb1
  replace hB0 := bnext hB0 hb1
  clear hb1
  obtain ⟨AS, cS, LS, clS, BS, dS, rfl, _, _, _, _⟩ := id hvS
  simp only [spcV] at hvS ⊢
  clear HMd hD
  obtain ⟨⟨rsP, rP, lsP, esP⟩, ⟨rsC, rC, lsC, esC⟩, c1, c2, nl, hsm, hsP, hsC, h64, hrP, hrC, hfR, hcS, hcT, hsh, hpl, hc1, hc2, hnl, hnr, hcb⟩ := adds_facts hM hl8 hrl
  simp only at hsP hsC hrP hrC
  have hfl := frs_len9 100 ls 8
  have HOS := Lib.hid (fun v W h => OwnSpace_any rs 10 ls es v W h (by omega) (by omega) (by omega))
  have HFr := Lib.hid (fun v W h => frames28_any rs 10 ls es v 100 W h hl8 (by omega))
  have HFk := Lib.hid (fun v F cf W h hl hF hcf => fFork_any rs 10 ls es v (frsL 100 ls 8) F cf W h (by omega) hsm hl hF hcf (by omega))
  have HSh := Lib.hid (fun v W h hl => fShared_any rs 10 ls es v W h (by omega) hsm hl)
  have HC1 := Lib.hid (fun A c W h hl => fCounts_any [(rs, 10, ls, es)] A c W h (fun k hk => by rcases k with _ | k; exact ⟨by show rs.length ≤ _; omega, hsm⟩; simp at hk) hl)
  have HC2 := Lib.hid (fun A c W h hl => fCounts_any [(rsP, rP, lsP, esP), (rsC, rC, lsC, esC)] A c W h (fun k hk => by rcases k with _ | _ | k; exact ⟨by show rsP.length ≤ _; omega, hsP⟩; exact ⟨by show rsC.length ≤ _; omega, hsC⟩; simp at hk; omega) hl)
  rw [hcS] at HC1
  rw [hcT] at HC2
  rw [hfR] at HFk
  rw [hsh] at HSh
  have HPl := Lib.hid hpl
  have HC1l := Lib.hid hc1
  have HC2l := Lib.hid hc2
  have HNl := Lib.hid hnl
  have HNr := Lib.hid hnr
  have HCb := Lib.hid hcb
  generalize frsL 100 ls 8 = fr at *
  generalize numL es 2 64 = sl at *
  clear hM hfR hcS hcT hsh hpl hc1 hc2 hnl hnr hcb hsm hsP hsC h64 hrP hrC hfl hl8 hrl
  go_upto_region 2 with fail
  have ks := Bk.new w1 #[.slice AS rs.length cS, .int .i64 10, .slice LS ls.length clS, .slice BS es.length dS] 28
  have hcN := balloc (Below.refl _ w1) (.cells #[.slice AS rs.length cS, .int .i64 10, .slice LS ls.length clS, .slice BS es.length dS] 28)
  generalize w1.alloc (.cells #[.slice AS rs.length cS, .int .i64 10, .slice LS ls.length clS, .slice BS es.length dS] 28) = w2 at *
  replace hvS := hvS.to hcN
  replace hL := hL.below hcN
  replace hB0 := bnext hB0 hcN
  clear hcN
  obtain ⟨c_ks, f_ks, l_ks⟩ := ks.facts
  go_wp2_with fail
  clear c_ks f_ks l_ks
  have kl0 := Bk.new w2 #[.slice AS rs.length cS, .int .i64 10, .slice LS ls.length clS, .slice BS es.length dS] 28
  have hcN := balloc (Below.refl _ w2) (.cells #[.slice AS rs.length cS, .int .i64 10, .slice LS ls.length clS, .slice BS es.length dS] 28)
  generalize w2.alloc (.cells #[.slice AS rs.length cS, .int .i64 10, .slice LS ls.length clS, .slice BS es.length dS] 28) = w3 at *
  replace hvS := hvS.to hcN
  replace ks := ks.to hcN
  replace hL := hL.below hcN
  replace hB0 := bnext hB0 hcN
  clear hcN
  have hsB : w.heap.size ≤ w3.heap.size := hB0.size
  refine (HC1.out _ _ _ (sps_one kl0 hvS) hL).mono ?_
  rintro e w4 ⟨vl, rfl, _, hlP, hb4⟩
  replace hvS := hvS.to hb4
  replace ks := ks.to hb4
  replace kl0 := kl0.to hb4
  replace hL := hL.below hb4
  replace hB0 := bnext hB0 hb4
  clear hb4
  clear kl0
  obtain ⟨PB, rfl, hPK, kl⟩ := hlP rfl
  clear hlP
  obtain ⟨c_ks, f_ks, l_ks⟩ := ks.facts
  go_upto_region 3 with fail
  clear c_ks f_ks l_ks
  have hB := below_drew (Below.refl w4.heap.size w4)
  have hu : (Tryd.prog.underlying 28).map (·.isRow) = some true := by kernel_rfl
  obtain ⟨dd, hu, hd⟩ := Option.map_eq_some_iff.1 hu
  have hal : ∀ (W : World) (ev : Operand → Value) (o : Oper), o.op = Op.alloc 28 → (execOp ev o).run Tryd.prog W = .ok (.value (.pointer (some ⟨W.heap.size, 0, none⟩))) (W.alloc (.cells #[.slice none 0 0, .int .i64 0, .slice none 0 0, .slice none 0 0] 28)) := fun W ev o ho => by unfold execOp; simp [ho, go_sem]
  have hcf1 : ∀ (x : Value) (W : World), (callFunc 12 #[x]).run Tryd.prog W = .ok (.enter 12 #[x]) W := fun x W => by go_simp
  have hcf2 : ∀ (x y : Value) (W : World), (callFunc 27 #[x, y]).run Tryd.prog W = .ok (.enter 27 #[x, y]) W := fun x y W => by go_simp
  have hcf3 : ∀ (x y : Value) (W : World), (callFunc 16 #[x, y]).run Tryd.prog W = .ok (.enter 16 #[x, y]) W := fun x y W => by go_simp
  have l9_ks := ks.lt
  refine wp_region_held_drew (S := fun w' => Bk w' w1.heap.size #[.slice AS rs.length cS, .int .i64 10, .slice LS ls.length clS, .slice BS es.length dS] 28) (by kernel_rfl) (ks.drew) (fun _ => ?_)
  refine takeD 0 (some 24) (.agg #[.slice AS rs.length cS, .int .i64 10, .slice LS ls.length clS, .slice BS es.length dS]) rfl rfl (by kernel_rfl) (by kernel_rfl) (by kernel_rfl) (fun _ _ _ h => h) (yieldsIf_load_mid (by rfl) 28 _ rfl w1.heap.size 0 rfl [.slice AS rs.length cS, .int .i64 10, .slice LS ls.length clS, .slice BS es.length dS] dd (fun w' e => e.range) hu hd (by kernel_rfl)) (ks.drew) ?_
  try simp only [Act.put, List.setIfInBounds_toArray, List.set_cons_zero, List.set_cons_succ]
  refine takeD 2 (some 26) (.agg #[.slice AS rs.length cS, .int .i64 10, .slice LS ls.length clS, .slice BS es.length dS]) rfl rfl (by kernel_rfl) (by kernel_rfl) (by kernel_rfl) (fun _ _ _ h => h) (yieldsIf_load_mid (by rfl) 28 _ rfl w1.heap.size 0 rfl [.slice AS rs.length cS, .int .i64 10, .slice LS ls.length clS, .slice BS es.length dS] dd (fun w' e => e.range) hu hd (by kernel_rfl)) (ks.drew) ?_
  try simp only [Act.put, List.setIfInBounds_toArray, List.set_cons_zero, List.set_cons_succ]
  generalize hw_d : w4.drew = wd at *
  refine shareD (X := Nat × Nat × Value × Option Addr × Nat × Value × Value) (fun x W => Bk W x.1 #[.slice none 0 0, .int .i64 0, .slice none 0 0, .slice none 0 0] 28 ∧ Bk W x.2.1 #[.slice none 0 0, .int .i64 0, .slice none 0 0, .slice none 0 0] 28 ∧ x.1 ≠ x.2.1 ∧ w4.heap.size ≤ x.1 ∧ w4.heap.size ≤ x.2.1 ∧ SpV W x.2.2.2.2.2.1 (rsP, rP, lsP, esP) ∧ SpV W x.2.2.2.2.2.2 (rsC, rC, lsC, esC) ∧ SNo x.1 x.2.2.2.2.2.1 ∧ SNo x.2.1 x.2.2.2.2.2.1 ∧ SNo x.1 x.2.2.2.2.2.2 ∧ SNo x.2.1 x.2.2.2.2.2.2 ∧ Below w4.heap.size w4 W) 3 #[true, true, true, true, true, true, true, true, true, true, true, false, false, false] (fun a x => (((((((((a.put (some 25) x.2.2.1).put (some 27) (.slice x.2.2.2.1 fr.length x.2.2.2.2.1)).put (some 28) (.tuple #[x.2.2.2.2.2.1, x.2.2.2.2.2.2, .int .i64 0])).put (some 23) (.tuple #[x.2.2.2.2.2.1, x.2.2.2.2.2.2, .int .i64 0])).put (some 29) x.2.2.2.2.2.1).put (some 30) x.2.2.2.2.2.2).put (some 31) (.int .i64 0)).put (some 6) (.pointer (some ⟨x.1, 0, none⟩))).put (some 7) (.pointer (some ⟨x.2.1, 0, none⟩)))) ?_ ?_
  · intro HK
    simp only [Act.put, List.setIfInBounds_toArray, List.set_cons_zero, List.set_cons_succ] at HK
    refine wpAnyH_all (rs := [1, 9, 10]) (by kernel_rfl) (by simp) (fun i hiR => ?_)
    simp only [List.mem_cons, List.not_mem_nil, or_false] at hiR
    rcases hiR with rfl | rfl | rfl
    · skip
      refine callD 1 (some 25) rfl rfl rfl (f := 12) (args := #[.agg #[.slice AS rs.length cS, .int .i64 10, .slice LS ls.length clS, .slice BS es.length dS]]) (run_call1 (vx := .agg #[.slice AS rs.length cS, .int .i64 10, .slice LS ls.length clS, .slice BS es.length dS]) (x := .tmp 24) rfl rfl rfl (hcf1 _) _) (HOS.out _ _ (SpV.to hvS (show Below w4.heap.size w4 wd from hB))) ?_
      rintro e wc1 ⟨vX, rfl, hvX, hb_wc1⟩
      refine ⟨_, rfl, ((ks.to hB).to hb_wc1), ?_⟩
      replace hB := hB.trans (hb_wc1.mono hB.size)
      clear hb_wc1
      try simp only [Act.put, List.setIfInBounds_toArray, List.set_cons_zero, List.set_cons_succ]
      refine wpAnyH_all (rs := [3, 9, 10]) (by kernel_rfl) (by simp) (fun i hiR => ?_)
      simp only [List.mem_cons, List.not_mem_nil, or_false] at hiR
      rcases hiR with rfl | rfl | rfl
      · skip
        refine callD 3 (some 27) rfl rfl rfl (f := 27) (args := #[.agg #[.slice AS rs.length cS, .int .i64 10, .slice LS ls.length clS, .slice BS es.length dS], .int .i64 100]) (run_call2 (vx := .agg #[.slice AS rs.length cS, .int .i64 10, .slice LS ls.length clS, .slice BS es.length dS]) (vy := .int .i64 100) (x := .tmp 26) (y := _) rfl rfl rfl rfl (hcf2 _ _) _) (HFr.out _ _ (SpV.to hvS (show Below w4.heap.size w4 wc1 from hB))) ?_
        rintro e wc2 ⟨AF, cF, rfl, hcF, hF, hb_wc2⟩
        refine ⟨_, rfl, ((ks.to hB).to hb_wc2), ?_⟩
        replace hvX := hvX.to hb_wc2
        replace hB := hB.trans (hb_wc2.mono hB.size)
        clear hb_wc2
        try simp only [Act.put, List.setIfInBounds_toArray, List.set_cons_zero, List.set_cons_succ]
        refine wpAnyH_all (rs := [4, 9, 10]) (by kernel_rfl) (by simp) (fun i hiR => ?_)
        simp only [List.mem_cons, List.not_mem_nil, or_false] at hiR
        rcases hiR with rfl | rfl | rfl
        · skip
          refine callD 4 (some 28) rfl rfl rfl (f := 16) (args := #[vX, .slice AF fr.length cF]) (run_call2 (vx := vX) (vy := .slice AF fr.length cF) (x := .tmp 25) (y := .tmp 27) rfl rfl rfl rfl (hcf3 _ _) _) (HFk.out _ _ _ _ hvX (hL.below (show Below w4.heap.size w4 wc2 from hB)) hF hcF) ?_
          rintro e wc3 ⟨vP, vC, rfl, hvP, hvC, hlP, hlC, hb_wc3⟩
          refine ⟨_, rfl, ((ks.to hB).to hb_wc3), ?_⟩
          clear hlP hlC
          replace hvX := hvX.to hb_wc3
          replace hF := hF.below hb_wc3 (Nat.le_refl _)
          replace hB := hB.trans (hb_wc3.mono hB.size)
          clear hb_wc3
          try simp only [Act.put, List.setIfInBounds_toArray, List.set_cons_zero, List.set_cons_succ]
          refine takeD 5 (some 23) (.tuple #[vP, vC, .int .i64 0]) rfl rfl (by kernel_rfl) (by kernel_rfl) (by kernel_rfl) (fun _ _ _ h => h) (.inl ⟨rfl, fun w' hS => by go_simp⟩) (ks.to hB) ?_
          try simp only [Act.put, List.setIfInBounds_toArray, List.set_cons_zero, List.set_cons_succ]
          refine takeD 6 (some 29) (vP) rfl rfl (by kernel_rfl) (by kernel_rfl) (by kernel_rfl) (fun _ _ _ h => h) (.inl ⟨rfl, fun w' hS => by go_simp⟩) (ks.to hB) ?_
          try simp only [Act.put, List.setIfInBounds_toArray, List.set_cons_zero, List.set_cons_succ]
          refine takeD 7 (some 30) (vC) rfl rfl (by kernel_rfl) (by kernel_rfl) (by kernel_rfl) (fun _ _ _ h => h) (.inl ⟨rfl, fun w' hS => by go_simp⟩) (ks.to hB) ?_
          try simp only [Act.put, List.setIfInBounds_toArray, List.set_cons_zero, List.set_cons_succ]
          refine takeD 8 (some 31) (.int .i64 0) rfl rfl (by kernel_rfl) (by kernel_rfl) (by kernel_rfl) (fun _ _ _ h => h) (.inl ⟨rfl, fun w' hS => by go_simp⟩) (ks.to hB) ?_
          try simp only [Act.put, List.setIfInBounds_toArray, List.set_cons_zero, List.set_cons_succ]
          refine wpAnyH_all (rs := [9, 10]) (by kernel_rfl) (by simp) (fun i hiR => ?_)
          simp only [List.mem_cons, List.not_mem_nil, or_false] at hiR
          rcases hiR with rfl | rfl
          · skip
            refine valD 9 (some 6) rfl rfl rfl (hal _ _ _ rfl) ⟨((ks.to hB).alloc _), ?_⟩
            have kA := Bk.new wc3 #[.slice none 0 0, .int .i64 0, .slice none 0 0, .slice none 0 0] 28
            have hcN := balloc (Below.refl _ wc3) (.cells #[.slice none 0 0, .int .i64 0, .slice none 0 0, .slice none 0 0] 28)
            have hgA : w4.heap.size ≤ wc3.heap.size := hB.size
            have hnAP := SNo.new hvP (Nat.le_refl _)
            have hnAC := SNo.new hvC (Nat.le_refl _)
            generalize hw_wn4 : wc3.alloc (.cells #[.slice none 0 0, .int .i64 0, .slice none 0 0, .slice none 0 0] 28) = wn4 at *
            replace hvX := hvX.to hcN
            replace hF := hF.below hcN (Nat.le_refl _)
            replace hvP := hvP.to hcN
            replace hvC := hvC.to hcN
            replace hB := hB.trans (hcN.mono hB.size)
            clear hcN
            try simp only [Act.put, List.setIfInBounds_toArray, List.set_cons_zero, List.set_cons_succ]
            refine wpAnyH_all (rs := [10]) (by kernel_rfl) (by simp) (fun i hiR => ?_)
            obtain rfl : i = 10 := by simpa using hiR
            refine valD 10 (some 7) rfl rfl rfl (hal _ _ _ rfl) ⟨((ks.to hB).alloc _), ?_⟩
            have kB := Bk.new wn4 #[.slice none 0 0, .int .i64 0, .slice none 0 0, .slice none 0 0] 28
            have hcN := balloc (Below.refl _ wn4) (.cells #[.slice none 0 0, .int .i64 0, .slice none 0 0, .slice none 0 0] 28)
            have hgB : w4.heap.size ≤ wn4.heap.size := hB.size
            have hneAB : wc3.heap.size ≠ wn4.heap.size := Nat.ne_of_lt kA.lt
            have hnBP := SNo.new hvP (Nat.le_refl _)
            have hnBC := SNo.new hvC (Nat.le_refl _)
            generalize hw_wn5 : wn4.alloc (.cells #[.slice none 0 0, .int .i64 0, .slice none 0 0, .slice none 0 0] 28) = wn5 at *
            replace kA := kA.to hcN
            replace hvX := hvX.to hcN
            replace hF := hF.below hcN (Nat.le_refl _)
            replace hvP := hvP.to hcN
            replace hvC := hvC.to hcN
            replace hB := hB.trans (hcN.mono hB.size)
            clear hcN
            try simp only [Act.put, List.setIfInBounds_toArray, List.set_cons_zero, List.set_cons_succ]
            exact HK (wc3.heap.size, wn4.heap.size, vX, AF, cF, vP, vC) _ ⟨kA, kB, hneAB, hgA, hgB, hvP, hvC, hnAP, hnBP, hnAC, hnBC, hB⟩
          · skip
            refine valD 10 (some 7) rfl rfl rfl (hal _ _ _ rfl) ⟨((ks.to hB).alloc _), ?_⟩
            have kB := Bk.new wc3 #[.slice none 0 0, .int .i64 0, .slice none 0 0, .slice none 0 0] 28
            have hcN := balloc (Below.refl _ wc3) (.cells #[.slice none 0 0, .int .i64 0, .slice none 0 0, .slice none 0 0] 28)
            have hgB : w4.heap.size ≤ wc3.heap.size := hB.size
            have hnBP := SNo.new hvP (Nat.le_refl _)
            have hnBC := SNo.new hvC (Nat.le_refl _)
            generalize hw_wn6 : wc3.alloc (.cells #[.slice none 0 0, .int .i64 0, .slice none 0 0, .slice none 0 0] 28) = wn6 at *
            replace hvX := hvX.to hcN
            replace hF := hF.below hcN (Nat.le_refl _)
            replace hvP := hvP.to hcN
            replace hvC := hvC.to hcN
            replace hB := hB.trans (hcN.mono hB.size)
            clear hcN
            try simp only [Act.put, List.setIfInBounds_toArray, List.set_cons_zero, List.set_cons_succ]
            refine wpAnyH_all (rs := [9]) (by kernel_rfl) (by simp) (fun i hiR => ?_)
            obtain rfl : i = 9 := by simpa using hiR
            refine valD 9 (some 6) rfl rfl rfl (hal _ _ _ rfl) ⟨((ks.to hB).alloc _), ?_⟩
            have kA := Bk.new wn6 #[.slice none 0 0, .int .i64 0, .slice none 0 0, .slice none 0 0] 28
            have hcN := balloc (Below.refl _ wn6) (.cells #[.slice none 0 0, .int .i64 0, .slice none 0 0, .slice none 0 0] 28)
            have hgA : w4.heap.size ≤ wn6.heap.size := hB.size
            have hneAB : wn6.heap.size ≠ wc3.heap.size := (Nat.ne_of_lt kB.lt).symm
            have hnAP := SNo.new hvP (Nat.le_refl _)
            have hnAC := SNo.new hvC (Nat.le_refl _)
            generalize hw_wn7 : wn6.alloc (.cells #[.slice none 0 0, .int .i64 0, .slice none 0 0, .slice none 0 0] 28) = wn7 at *
            replace kB := kB.to hcN
            replace hvX := hvX.to hcN
            replace hF := hF.below hcN (Nat.le_refl _)
            replace hvP := hvP.to hcN
            replace hvC := hvC.to hcN
            replace hB := hB.trans (hcN.mono hB.size)
            clear hcN
            try simp only [Act.put, List.setIfInBounds_toArray, List.set_cons_zero, List.set_cons_succ]
            exact HK (wn6.heap.size, wc3.heap.size, vX, AF, cF, vP, vC) _ ⟨kA, kB, hneAB, hgA, hgB, hvP, hvC, hnAP, hnBP, hnAC, hnBC, hB⟩
        · skip
          refine valD 9 (some 6) rfl rfl rfl (hal _ _ _ rfl) ⟨((ks.to hB).alloc _), ?_⟩
          have kA := Bk.new wc2 #[.slice none 0 0, .int .i64 0, .slice none 0 0, .slice none 0 0] 28
          have hcN := balloc (Below.refl _ wc2) (.cells #[.slice none 0 0, .int .i64 0, .slice none 0 0, .slice none 0 0] 28)
          have hgA : w4.heap.size ≤ wc2.heap.size := hB.size
          generalize hw_wn8 : wc2.alloc (.cells #[.slice none 0 0, .int .i64 0, .slice none 0 0, .slice none 0 0] 28) = wn8 at *
          replace hvX := hvX.to hcN
          replace hF := hF.below hcN (Nat.le_refl _)
          replace hB := hB.trans (hcN.mono hB.size)
          clear hcN
          try simp only [Act.put, List.setIfInBounds_toArray, List.set_cons_zero, List.set_cons_succ]
          refine wpAnyH_all (rs := [4, 10]) (by kernel_rfl) (by simp) (fun i hiR => ?_)
          simp only [List.mem_cons, List.not_mem_nil, or_false] at hiR
          rcases hiR with rfl | rfl
          · skip
            refine callD 4 (some 28) rfl rfl rfl (f := 16) (args := #[vX, .slice AF fr.length cF]) (run_call2 (vx := vX) (vy := .slice AF fr.length cF) (x := .tmp 25) (y := .tmp 27) rfl rfl rfl rfl (hcf3 _ _) _) (HFk.out _ _ _ _ hvX (hL.below (show Below w4.heap.size w4 wn8 from hB)) hF hcF) ?_
            rintro e wc9 ⟨vP, vC, rfl, hvP, hvC, hlP, hlC, hb_wc9⟩
            refine ⟨_, rfl, ((ks.to hB).to hb_wc9), ?_⟩
            have hnAP := SNo.loc hlP kA.lt
            have hnAC := SNo.loc hlC kA.lt
            clear hlP hlC
            replace kA := kA.to hb_wc9
            replace hvX := hvX.to hb_wc9
            replace hF := hF.below hb_wc9 (Nat.le_refl _)
            replace hB := hB.trans (hb_wc9.mono hB.size)
            clear hb_wc9
            try simp only [Act.put, List.setIfInBounds_toArray, List.set_cons_zero, List.set_cons_succ]
            refine takeD 5 (some 23) (.tuple #[vP, vC, .int .i64 0]) rfl rfl (by kernel_rfl) (by kernel_rfl) (by kernel_rfl) (fun _ _ _ h => h) (.inl ⟨rfl, fun w' hS => by go_simp⟩) (ks.to hB) ?_
            try simp only [Act.put, List.setIfInBounds_toArray, List.set_cons_zero, List.set_cons_succ]
            refine takeD 6 (some 29) (vP) rfl rfl (by kernel_rfl) (by kernel_rfl) (by kernel_rfl) (fun _ _ _ h => h) (.inl ⟨rfl, fun w' hS => by go_simp⟩) (ks.to hB) ?_
            try simp only [Act.put, List.setIfInBounds_toArray, List.set_cons_zero, List.set_cons_succ]
            refine takeD 7 (some 30) (vC) rfl rfl (by kernel_rfl) (by kernel_rfl) (by kernel_rfl) (fun _ _ _ h => h) (.inl ⟨rfl, fun w' hS => by go_simp⟩) (ks.to hB) ?_
            try simp only [Act.put, List.setIfInBounds_toArray, List.set_cons_zero, List.set_cons_succ]
            refine takeD 8 (some 31) (.int .i64 0) rfl rfl (by kernel_rfl) (by kernel_rfl) (by kernel_rfl) (fun _ _ _ h => h) (.inl ⟨rfl, fun w' hS => by go_simp⟩) (ks.to hB) ?_
            try simp only [Act.put, List.setIfInBounds_toArray, List.set_cons_zero, List.set_cons_succ]
            refine wpAnyH_all (rs := [10]) (by kernel_rfl) (by simp) (fun i hiR => ?_)
            obtain rfl : i = 10 := by simpa using hiR
            refine valD 10 (some 7) rfl rfl rfl (hal _ _ _ rfl) ⟨((ks.to hB).alloc _), ?_⟩
            have kB := Bk.new wc9 #[.slice none 0 0, .int .i64 0, .slice none 0 0, .slice none 0 0] 28
            have hcN := balloc (Below.refl _ wc9) (.cells #[.slice none 0 0, .int .i64 0, .slice none 0 0, .slice none 0 0] 28)
            have hgB : w4.heap.size ≤ wc9.heap.size := hB.size
            have hneAB : wc2.heap.size ≠ wc9.heap.size := Nat.ne_of_lt kA.lt
            have hnBP := SNo.new hvP (Nat.le_refl _)
            have hnBC := SNo.new hvC (Nat.le_refl _)
            generalize hw_wn10 : wc9.alloc (.cells #[.slice none 0 0, .int .i64 0, .slice none 0 0, .slice none 0 0] 28) = wn10 at *
            replace kA := kA.to hcN
            replace hvX := hvX.to hcN
            replace hF := hF.below hcN (Nat.le_refl _)
            replace hvP := hvP.to hcN
            replace hvC := hvC.to hcN
            replace hB := hB.trans (hcN.mono hB.size)
            clear hcN
            try simp only [Act.put, List.setIfInBounds_toArray, List.set_cons_zero, List.set_cons_succ]
            exact HK (wc2.heap.size, wc9.heap.size, vX, AF, cF, vP, vC) _ ⟨kA, kB, hneAB, hgA, hgB, hvP, hvC, hnAP, hnBP, hnAC, hnBC, hB⟩
          · skip
            refine valD 10 (some 7) rfl rfl rfl (hal _ _ _ rfl) ⟨((ks.to hB).alloc _), ?_⟩
            have kB := Bk.new wn8 #[.slice none 0 0, .int .i64 0, .slice none 0 0, .slice none 0 0] 28
            have hcN := balloc (Below.refl _ wn8) (.cells #[.slice none 0 0, .int .i64 0, .slice none 0 0, .slice none 0 0] 28)
            have hgB : w4.heap.size ≤ wn8.heap.size := hB.size
            have hneAB : wc2.heap.size ≠ wn8.heap.size := Nat.ne_of_lt kA.lt
            generalize hw_wn11 : wn8.alloc (.cells #[.slice none 0 0, .int .i64 0, .slice none 0 0, .slice none 0 0] 28) = wn11 at *
            replace kA := kA.to hcN
            replace hvX := hvX.to hcN
            replace hF := hF.below hcN (Nat.le_refl _)
            replace hB := hB.trans (hcN.mono hB.size)
            clear hcN
            try simp only [Act.put, List.setIfInBounds_toArray, List.set_cons_zero, List.set_cons_succ]
            refine wpAnyH_all (rs := [4]) (by kernel_rfl) (by simp) (fun i hiR => ?_)
            obtain rfl : i = 4 := by simpa using hiR
            refine callD 4 (some 28) rfl rfl rfl (f := 16) (args := #[vX, .slice AF fr.length cF]) (run_call2 (vx := vX) (vy := .slice AF fr.length cF) (x := .tmp 25) (y := .tmp 27) rfl rfl rfl rfl (hcf3 _ _) _) (HFk.out _ _ _ _ hvX (hL.below (show Below w4.heap.size w4 wn11 from hB)) hF hcF) ?_
            rintro e wc12 ⟨vP, vC, rfl, hvP, hvC, hlP, hlC, hb_wc12⟩
            refine ⟨_, rfl, ((ks.to hB).to hb_wc12), ?_⟩
            have hnAP := SNo.loc hlP kA.lt
            have hnAC := SNo.loc hlC kA.lt
            have hnBP := SNo.loc hlP kB.lt
            have hnBC := SNo.loc hlC kB.lt
            clear hlP hlC
            replace kA := kA.to hb_wc12
            replace kB := kB.to hb_wc12
            replace hvX := hvX.to hb_wc12
            replace hF := hF.below hb_wc12 (Nat.le_refl _)
            replace hB := hB.trans (hb_wc12.mono hB.size)
            clear hb_wc12
            try simp only [Act.put, List.setIfInBounds_toArray, List.set_cons_zero, List.set_cons_succ]
            refine takeD 5 (some 23) (.tuple #[vP, vC, .int .i64 0]) rfl rfl (by kernel_rfl) (by kernel_rfl) (by kernel_rfl) (fun _ _ _ h => h) (.inl ⟨rfl, fun w' hS => by go_simp⟩) (ks.to hB) ?_
            try simp only [Act.put, List.setIfInBounds_toArray, List.set_cons_zero, List.set_cons_succ]
            refine takeD 6 (some 29) (vP) rfl rfl (by kernel_rfl) (by kernel_rfl) (by kernel_rfl) (fun _ _ _ h => h) (.inl ⟨rfl, fun w' hS => by go_simp⟩) (ks.to hB) ?_
            try simp only [Act.put, List.setIfInBounds_toArray, List.set_cons_zero, List.set_cons_succ]
            refine takeD 7 (some 30) (vC) rfl rfl (by kernel_rfl) (by kernel_rfl) (by kernel_rfl) (fun _ _ _ h => h) (.inl ⟨rfl, fun w' hS => by go_simp⟩) (ks.to hB) ?_
            try simp only [Act.put, List.setIfInBounds_toArray, List.set_cons_zero, List.set_cons_succ]
            refine takeD 8 (some 31) (.int .i64 0) rfl rfl (by kernel_rfl) (by kernel_rfl) (by kernel_rfl) (fun _ _ _ h => h) (.inl ⟨rfl, fun w' hS => by go_simp⟩) (ks.to hB) ?_
            try simp only [Act.put, List.setIfInBounds_toArray, List.set_cons_zero, List.set_cons_succ]
            exact HK (wc2.heap.size, wn8.heap.size, vX, AF, cF, vP, vC) _ ⟨kA, kB, hneAB, hgA, hgB, hvP, hvC, hnAP, hnBP, hnAC, hnBC, hB⟩
        · skip
          refine valD 10 (some 7) rfl rfl rfl (hal _ _ _ rfl) ⟨((ks.to hB).alloc _), ?_⟩
          have kB := Bk.new wc2 #[.slice none 0 0, .int .i64 0, .slice none 0 0, .slice none 0 0] 28
          have hcN := balloc (Below.refl _ wc2) (.cells #[.slice none 0 0, .int .i64 0, .slice none 0 0, .slice none 0 0] 28)
          have hgB : w4.heap.size ≤ wc2.heap.size := hB.size
          generalize hw_wn13 : wc2.alloc (.cells #[.slice none 0 0, .int .i64 0, .slice none 0 0, .slice none 0 0] 28) = wn13 at *
          replace hvX := hvX.to hcN
          replace hF := hF.below hcN (Nat.le_refl _)
          replace hB := hB.trans (hcN.mono hB.size)
          clear hcN
          try simp only [Act.put, List.setIfInBounds_toArray, List.set_cons_zero, List.set_cons_succ]
          refine wpAnyH_all (rs := [4, 9]) (by kernel_rfl) (by simp) (fun i hiR => ?_)
          simp only [List.mem_cons, List.not_mem_nil, or_false] at hiR
          rcases hiR with rfl | rfl
          · skip
            refine callD 4 (some 28) rfl rfl rfl (f := 16) (args := #[vX, .slice AF fr.length cF]) (run_call2 (vx := vX) (vy := .slice AF fr.length cF) (x := .tmp 25) (y := .tmp 27) rfl rfl rfl rfl (hcf3 _ _) _) (HFk.out _ _ _ _ hvX (hL.below (show Below w4.heap.size w4 wn13 from hB)) hF hcF) ?_
            rintro e wc14 ⟨vP, vC, rfl, hvP, hvC, hlP, hlC, hb_wc14⟩
            refine ⟨_, rfl, ((ks.to hB).to hb_wc14), ?_⟩
            have hnBP := SNo.loc hlP kB.lt
            have hnBC := SNo.loc hlC kB.lt
            clear hlP hlC
            replace kB := kB.to hb_wc14
            replace hvX := hvX.to hb_wc14
            replace hF := hF.below hb_wc14 (Nat.le_refl _)
            replace hB := hB.trans (hb_wc14.mono hB.size)
            clear hb_wc14
            try simp only [Act.put, List.setIfInBounds_toArray, List.set_cons_zero, List.set_cons_succ]
            refine takeD 5 (some 23) (.tuple #[vP, vC, .int .i64 0]) rfl rfl (by kernel_rfl) (by kernel_rfl) (by kernel_rfl) (fun _ _ _ h => h) (.inl ⟨rfl, fun w' hS => by go_simp⟩) (ks.to hB) ?_
            try simp only [Act.put, List.setIfInBounds_toArray, List.set_cons_zero, List.set_cons_succ]
            refine takeD 6 (some 29) (vP) rfl rfl (by kernel_rfl) (by kernel_rfl) (by kernel_rfl) (fun _ _ _ h => h) (.inl ⟨rfl, fun w' hS => by go_simp⟩) (ks.to hB) ?_
            try simp only [Act.put, List.setIfInBounds_toArray, List.set_cons_zero, List.set_cons_succ]
            refine takeD 7 (some 30) (vC) rfl rfl (by kernel_rfl) (by kernel_rfl) (by kernel_rfl) (fun _ _ _ h => h) (.inl ⟨rfl, fun w' hS => by go_simp⟩) (ks.to hB) ?_
            try simp only [Act.put, List.setIfInBounds_toArray, List.set_cons_zero, List.set_cons_succ]
            refine takeD 8 (some 31) (.int .i64 0) rfl rfl (by kernel_rfl) (by kernel_rfl) (by kernel_rfl) (fun _ _ _ h => h) (.inl ⟨rfl, fun w' hS => by go_simp⟩) (ks.to hB) ?_
            try simp only [Act.put, List.setIfInBounds_toArray, List.set_cons_zero, List.set_cons_succ]
            refine wpAnyH_all (rs := [9]) (by kernel_rfl) (by simp) (fun i hiR => ?_)
            obtain rfl : i = 9 := by simpa using hiR
            refine valD 9 (some 6) rfl rfl rfl (hal _ _ _ rfl) ⟨((ks.to hB).alloc _), ?_⟩
            have kA := Bk.new wc14 #[.slice none 0 0, .int .i64 0, .slice none 0 0, .slice none 0 0] 28
            have hcN := balloc (Below.refl _ wc14) (.cells #[.slice none 0 0, .int .i64 0, .slice none 0 0, .slice none 0 0] 28)
            have hgA : w4.heap.size ≤ wc14.heap.size := hB.size
            have hneAB : wc14.heap.size ≠ wc2.heap.size := (Nat.ne_of_lt kB.lt).symm
            have hnAP := SNo.new hvP (Nat.le_refl _)
            have hnAC := SNo.new hvC (Nat.le_refl _)
            generalize hw_wn15 : wc14.alloc (.cells #[.slice none 0 0, .int .i64 0, .slice none 0 0, .slice none 0 0] 28) = wn15 at *
            replace kB := kB.to hcN
            replace hvX := hvX.to hcN
            replace hF := hF.below hcN (Nat.le_refl _)
            replace hvP := hvP.to hcN
            replace hvC := hvC.to hcN
            replace hB := hB.trans (hcN.mono hB.size)
            clear hcN
            try simp only [Act.put, List.setIfInBounds_toArray, List.set_cons_zero, List.set_cons_succ]
            exact HK (wc14.heap.size, wc2.heap.size, vX, AF, cF, vP, vC) _ ⟨kA, kB, hneAB, hgA, hgB, hvP, hvC, hnAP, hnBP, hnAC, hnBC, hB⟩
          · skip
            refine valD 9 (some 6) rfl rfl rfl (hal _ _ _ rfl) ⟨((ks.to hB).alloc _), ?_⟩
            have kA := Bk.new wn13 #[.slice none 0 0, .int .i64 0, .slice none 0 0, .slice none 0 0] 28
            have hcN := balloc (Below.refl _ wn13) (.cells #[.slice none 0 0, .int .i64 0, .slice none 0 0, .slice none 0 0] 28)
            have hgA : w4.heap.size ≤ wn13.heap.size := hB.size
            have hneAB : wn13.heap.size ≠ wc2.heap.size := (Nat.ne_of_lt kB.lt).symm
            generalize hw_wn16 : wn13.alloc (.cells #[.slice none 0 0, .int .i64 0, .slice none 0 0, .slice none 0 0] 28) = wn16 at *
            replace kB := kB.to hcN
            replace hvX := hvX.to hcN
            replace hF := hF.below hcN (Nat.le_refl _)
            replace hB := hB.trans (hcN.mono hB.size)
            clear hcN
            try simp only [Act.put, List.setIfInBounds_toArray, List.set_cons_zero, List.set_cons_succ]
            refine wpAnyH_all (rs := [4]) (by kernel_rfl) (by simp) (fun i hiR => ?_)
            obtain rfl : i = 4 := by simpa using hiR
            refine callD 4 (some 28) rfl rfl rfl (f := 16) (args := #[vX, .slice AF fr.length cF]) (run_call2 (vx := vX) (vy := .slice AF fr.length cF) (x := .tmp 25) (y := .tmp 27) rfl rfl rfl rfl (hcf3 _ _) _) (HFk.out _ _ _ _ hvX (hL.below (show Below w4.heap.size w4 wn16 from hB)) hF hcF) ?_
            rintro e wc17 ⟨vP, vC, rfl, hvP, hvC, hlP, hlC, hb_wc17⟩
            refine ⟨_, rfl, ((ks.to hB).to hb_wc17), ?_⟩
            have hnBP := SNo.loc hlP kB.lt
            have hnBC := SNo.loc hlC kB.lt
            have hnAP := SNo.loc hlP kA.lt
            have hnAC := SNo.loc hlC kA.lt
            clear hlP hlC
            replace kB := kB.to hb_wc17
            replace kA := kA.to hb_wc17
            replace hvX := hvX.to hb_wc17
            replace hF := hF.below hb_wc17 (Nat.le_refl _)
            replace hB := hB.trans (hb_wc17.mono hB.size)
            clear hb_wc17
            try simp only [Act.put, List.setIfInBounds_toArray, List.set_cons_zero, List.set_cons_succ]
            refine takeD 5 (some 23) (.tuple #[vP, vC, .int .i64 0]) rfl rfl (by kernel_rfl) (by kernel_rfl) (by kernel_rfl) (fun _ _ _ h => h) (.inl ⟨rfl, fun w' hS => by go_simp⟩) (ks.to hB) ?_
            try simp only [Act.put, List.setIfInBounds_toArray, List.set_cons_zero, List.set_cons_succ]
            refine takeD 6 (some 29) (vP) rfl rfl (by kernel_rfl) (by kernel_rfl) (by kernel_rfl) (fun _ _ _ h => h) (.inl ⟨rfl, fun w' hS => by go_simp⟩) (ks.to hB) ?_
            try simp only [Act.put, List.setIfInBounds_toArray, List.set_cons_zero, List.set_cons_succ]
            refine takeD 7 (some 30) (vC) rfl rfl (by kernel_rfl) (by kernel_rfl) (by kernel_rfl) (fun _ _ _ h => h) (.inl ⟨rfl, fun w' hS => by go_simp⟩) (ks.to hB) ?_
            try simp only [Act.put, List.setIfInBounds_toArray, List.set_cons_zero, List.set_cons_succ]
            refine takeD 8 (some 31) (.int .i64 0) rfl rfl (by kernel_rfl) (by kernel_rfl) (by kernel_rfl) (fun _ _ _ h => h) (.inl ⟨rfl, fun w' hS => by go_simp⟩) (ks.to hB) ?_
            try simp only [Act.put, List.setIfInBounds_toArray, List.set_cons_zero, List.set_cons_succ]
            exact HK (wn13.heap.size, wc2.heap.size, vX, AF, cF, vP, vC) _ ⟨kA, kB, hneAB, hgA, hgB, hvP, hvC, hnAP, hnBP, hnAC, hnBC, hB⟩
      · skip
        refine valD 9 (some 6) rfl rfl rfl (hal _ _ _ rfl) ⟨((ks.to hB).alloc _), ?_⟩
        have kA := Bk.new wc1 #[.slice none 0 0, .int .i64 0, .slice none 0 0, .slice none 0 0] 28
        have hcN := balloc (Below.refl _ wc1) (.cells #[.slice none 0 0, .int .i64 0, .slice none 0 0, .slice none 0 0] 28)
        have hgA : w4.heap.size ≤ wc1.heap.size := hB.size
        generalize hw_wn18 : wc1.alloc (.cells #[.slice none 0 0, .int .i64 0, .slice none 0 0, .slice none 0 0] 28) = wn18 at *
        replace hvX := hvX.to hcN
        replace hB := hB.trans (hcN.mono hB.size)
        clear hcN
        try simp only [Act.put, List.setIfInBounds_toArray, List.set_cons_zero, List.set_cons_succ]
        refine wpAnyH_all (rs := [3, 10]) (by kernel_rfl) (by simp) (fun i hiR => ?_)
        simp only [List.mem_cons, List.not_mem_nil, or_false] at hiR
        rcases hiR with rfl | rfl
        · skip
          refine callD 3 (some 27) rfl rfl rfl (f := 27) (args := #[.agg #[.slice AS rs.length cS, .int .i64 10, .slice LS ls.length clS, .slice BS es.length dS], .int .i64 100]) (run_call2 (vx := .agg #[.slice AS rs.length cS, .int .i64 10, .slice LS ls.length clS, .slice BS es.length dS]) (vy := .int .i64 100) (x := .tmp 26) (y := _) rfl rfl rfl rfl (hcf2 _ _) _) (HFr.out _ _ (SpV.to hvS (show Below w4.heap.size w4 wn18 from hB))) ?_
          rintro e wc19 ⟨AF, cF, rfl, hcF, hF, hb_wc19⟩
          refine ⟨_, rfl, ((ks.to hB).to hb_wc19), ?_⟩
          replace kA := kA.to hb_wc19
          replace hvX := hvX.to hb_wc19
          replace hB := hB.trans (hb_wc19.mono hB.size)
          clear hb_wc19
          try simp only [Act.put, List.setIfInBounds_toArray, List.set_cons_zero, List.set_cons_succ]
          refine wpAnyH_all (rs := [4, 10]) (by kernel_rfl) (by simp) (fun i hiR => ?_)
          simp only [List.mem_cons, List.not_mem_nil, or_false] at hiR
          rcases hiR with rfl | rfl
          · skip
            refine callD 4 (some 28) rfl rfl rfl (f := 16) (args := #[vX, .slice AF fr.length cF]) (run_call2 (vx := vX) (vy := .slice AF fr.length cF) (x := .tmp 25) (y := .tmp 27) rfl rfl rfl rfl (hcf3 _ _) _) (HFk.out _ _ _ _ hvX (hL.below (show Below w4.heap.size w4 wc19 from hB)) hF hcF) ?_
            rintro e wc20 ⟨vP, vC, rfl, hvP, hvC, hlP, hlC, hb_wc20⟩
            refine ⟨_, rfl, ((ks.to hB).to hb_wc20), ?_⟩
            have hnAP := SNo.loc hlP kA.lt
            have hnAC := SNo.loc hlC kA.lt
            clear hlP hlC
            replace kA := kA.to hb_wc20
            replace hvX := hvX.to hb_wc20
            replace hF := hF.below hb_wc20 (Nat.le_refl _)
            replace hB := hB.trans (hb_wc20.mono hB.size)
            clear hb_wc20
            try simp only [Act.put, List.setIfInBounds_toArray, List.set_cons_zero, List.set_cons_succ]
            refine takeD 5 (some 23) (.tuple #[vP, vC, .int .i64 0]) rfl rfl (by kernel_rfl) (by kernel_rfl) (by kernel_rfl) (fun _ _ _ h => h) (.inl ⟨rfl, fun w' hS => by go_simp⟩) (ks.to hB) ?_
            try simp only [Act.put, List.setIfInBounds_toArray, List.set_cons_zero, List.set_cons_succ]
            refine takeD 6 (some 29) (vP) rfl rfl (by kernel_rfl) (by kernel_rfl) (by kernel_rfl) (fun _ _ _ h => h) (.inl ⟨rfl, fun w' hS => by go_simp⟩) (ks.to hB) ?_
            try simp only [Act.put, List.setIfInBounds_toArray, List.set_cons_zero, List.set_cons_succ]
            refine takeD 7 (some 30) (vC) rfl rfl (by kernel_rfl) (by kernel_rfl) (by kernel_rfl) (fun _ _ _ h => h) (.inl ⟨rfl, fun w' hS => by go_simp⟩) (ks.to hB) ?_
            try simp only [Act.put, List.setIfInBounds_toArray, List.set_cons_zero, List.set_cons_succ]
            refine takeD 8 (some 31) (.int .i64 0) rfl rfl (by kernel_rfl) (by kernel_rfl) (by kernel_rfl) (fun _ _ _ h => h) (.inl ⟨rfl, fun w' hS => by go_simp⟩) (ks.to hB) ?_
            try simp only [Act.put, List.setIfInBounds_toArray, List.set_cons_zero, List.set_cons_succ]
            refine wpAnyH_all (rs := [10]) (by kernel_rfl) (by simp) (fun i hiR => ?_)
            obtain rfl : i = 10 := by simpa using hiR
            refine valD 10 (some 7) rfl rfl rfl (hal _ _ _ rfl) ⟨((ks.to hB).alloc _), ?_⟩
            have kB := Bk.new wc20 #[.slice none 0 0, .int .i64 0, .slice none 0 0, .slice none 0 0] 28
            have hcN := balloc (Below.refl _ wc20) (.cells #[.slice none 0 0, .int .i64 0, .slice none 0 0, .slice none 0 0] 28)
            have hgB : w4.heap.size ≤ wc20.heap.size := hB.size
            have hneAB : wc1.heap.size ≠ wc20.heap.size := Nat.ne_of_lt kA.lt
            have hnBP := SNo.new hvP (Nat.le_refl _)
            have hnBC := SNo.new hvC (Nat.le_refl _)
            generalize hw_wn21 : wc20.alloc (.cells #[.slice none 0 0, .int .i64 0, .slice none 0 0, .slice none 0 0] 28) = wn21 at *
            replace kA := kA.to hcN
            replace hvX := hvX.to hcN
            replace hF := hF.below hcN (Nat.le_refl _)
            replace hvP := hvP.to hcN
            replace hvC := hvC.to hcN
            replace hB := hB.trans (hcN.mono hB.size)
            clear hcN
            try simp only [Act.put, List.setIfInBounds_toArray, List.set_cons_zero, List.set_cons_succ]
            exact HK (wc1.heap.size, wc20.heap.size, vX, AF, cF, vP, vC) _ ⟨kA, kB, hneAB, hgA, hgB, hvP, hvC, hnAP, hnBP, hnAC, hnBC, hB⟩
          · skip
            refine valD 10 (some 7) rfl rfl rfl (hal _ _ _ rfl) ⟨((ks.to hB).alloc _), ?_⟩
            have kB := Bk.new wc19 #[.slice none 0 0, .int .i64 0, .slice none 0 0, .slice none 0 0] 28
            have hcN := balloc (Below.refl _ wc19) (.cells #[.slice none 0 0, .int .i64 0, .slice none 0 0, .slice none 0 0] 28)
            have hgB : w4.heap.size ≤ wc19.heap.size := hB.size
            have hneAB : wc1.heap.size ≠ wc19.heap.size := Nat.ne_of_lt kA.lt
            generalize hw_wn22 : wc19.alloc (.cells #[.slice none 0 0, .int .i64 0, .slice none 0 0, .slice none 0 0] 28) = wn22 at *
            replace kA := kA.to hcN
            replace hvX := hvX.to hcN
            replace hF := hF.below hcN (Nat.le_refl _)
            replace hB := hB.trans (hcN.mono hB.size)
            clear hcN
            try simp only [Act.put, List.setIfInBounds_toArray, List.set_cons_zero, List.set_cons_succ]
            refine wpAnyH_all (rs := [4]) (by kernel_rfl) (by simp) (fun i hiR => ?_)
            obtain rfl : i = 4 := by simpa using hiR
            refine callD 4 (some 28) rfl rfl rfl (f := 16) (args := #[vX, .slice AF fr.length cF]) (run_call2 (vx := vX) (vy := .slice AF fr.length cF) (x := .tmp 25) (y := .tmp 27) rfl rfl rfl rfl (hcf3 _ _) _) (HFk.out _ _ _ _ hvX (hL.below (show Below w4.heap.size w4 wn22 from hB)) hF hcF) ?_
            rintro e wc23 ⟨vP, vC, rfl, hvP, hvC, hlP, hlC, hb_wc23⟩
            refine ⟨_, rfl, ((ks.to hB).to hb_wc23), ?_⟩
            have hnAP := SNo.loc hlP kA.lt
            have hnAC := SNo.loc hlC kA.lt
            have hnBP := SNo.loc hlP kB.lt
            have hnBC := SNo.loc hlC kB.lt
            clear hlP hlC
            replace kA := kA.to hb_wc23
            replace kB := kB.to hb_wc23
            replace hvX := hvX.to hb_wc23
            replace hF := hF.below hb_wc23 (Nat.le_refl _)
            replace hB := hB.trans (hb_wc23.mono hB.size)
            clear hb_wc23
            try simp only [Act.put, List.setIfInBounds_toArray, List.set_cons_zero, List.set_cons_succ]
            refine takeD 5 (some 23) (.tuple #[vP, vC, .int .i64 0]) rfl rfl (by kernel_rfl) (by kernel_rfl) (by kernel_rfl) (fun _ _ _ h => h) (.inl ⟨rfl, fun w' hS => by go_simp⟩) (ks.to hB) ?_
            try simp only [Act.put, List.setIfInBounds_toArray, List.set_cons_zero, List.set_cons_succ]
            refine takeD 6 (some 29) (vP) rfl rfl (by kernel_rfl) (by kernel_rfl) (by kernel_rfl) (fun _ _ _ h => h) (.inl ⟨rfl, fun w' hS => by go_simp⟩) (ks.to hB) ?_
            try simp only [Act.put, List.setIfInBounds_toArray, List.set_cons_zero, List.set_cons_succ]
            refine takeD 7 (some 30) (vC) rfl rfl (by kernel_rfl) (by kernel_rfl) (by kernel_rfl) (fun _ _ _ h => h) (.inl ⟨rfl, fun w' hS => by go_simp⟩) (ks.to hB) ?_
            try simp only [Act.put, List.setIfInBounds_toArray, List.set_cons_zero, List.set_cons_succ]
            refine takeD 8 (some 31) (.int .i64 0) rfl rfl (by kernel_rfl) (by kernel_rfl) (by kernel_rfl) (fun _ _ _ h => h) (.inl ⟨rfl, fun w' hS => by go_simp⟩) (ks.to hB) ?_
            try simp only [Act.put, List.setIfInBounds_toArray, List.set_cons_zero, List.set_cons_succ]
            exact HK (wc1.heap.size, wc19.heap.size, vX, AF, cF, vP, vC) _ ⟨kA, kB, hneAB, hgA, hgB, hvP, hvC, hnAP, hnBP, hnAC, hnBC, hB⟩
        · skip
          refine valD 10 (some 7) rfl rfl rfl (hal _ _ _ rfl) ⟨((ks.to hB).alloc _), ?_⟩
          have kB := Bk.new wn18 #[.slice none 0 0, .int .i64 0, .slice none 0 0, .slice none 0 0] 28
          have hcN := balloc (Below.refl _ wn18) (.cells #[.slice none 0 0, .int .i64 0, .slice none 0 0, .slice none 0 0] 28)
          have hgB : w4.heap.size ≤ wn18.heap.size := hB.size
          have hneAB : wc1.heap.size ≠ wn18.heap.size := Nat.ne_of_lt kA.lt
          generalize hw_wn24 : wn18.alloc (.cells #[.slice none 0 0, .int .i64 0, .slice none 0 0, .slice none 0 0] 28) = wn24 at *
          replace kA := kA.to hcN
          replace hvX := hvX.to hcN
          replace hB := hB.trans (hcN.mono hB.size)
          clear hcN
          try simp only [Act.put, List.setIfInBounds_toArray, List.set_cons_zero, List.set_cons_succ]
          refine wpAnyH_all (rs := [3]) (by kernel_rfl) (by simp) (fun i hiR => ?_)
          obtain rfl : i = 3 := by simpa using hiR
          refine callD 3 (some 27) rfl rfl rfl (f := 27) (args := #[.agg #[.slice AS rs.length cS, .int .i64 10, .slice LS ls.length clS, .slice BS es.length dS], .int .i64 100]) (run_call2 (vx := .agg #[.slice AS rs.length cS, .int .i64 10, .slice LS ls.length clS, .slice BS es.length dS]) (vy := .int .i64 100) (x := .tmp 26) (y := _) rfl rfl rfl rfl (hcf2 _ _) _) (HFr.out _ _ (SpV.to hvS (show Below w4.heap.size w4 wn24 from hB))) ?_
          rintro e wc25 ⟨AF, cF, rfl, hcF, hF, hb_wc25⟩
          refine ⟨_, rfl, ((ks.to hB).to hb_wc25), ?_⟩
          replace kA := kA.to hb_wc25
          replace kB := kB.to hb_wc25
          replace hvX := hvX.to hb_wc25
          replace hB := hB.trans (hb_wc25.mono hB.size)
          clear hb_wc25
          try simp only [Act.put, List.setIfInBounds_toArray, List.set_cons_zero, List.set_cons_succ]
          refine wpAnyH_all (rs := [4]) (by kernel_rfl) (by simp) (fun i hiR => ?_)
          obtain rfl : i = 4 := by simpa using hiR
          refine callD 4 (some 28) rfl rfl rfl (f := 16) (args := #[vX, .slice AF fr.length cF]) (run_call2 (vx := vX) (vy := .slice AF fr.length cF) (x := .tmp 25) (y := .tmp 27) rfl rfl rfl rfl (hcf3 _ _) _) (HFk.out _ _ _ _ hvX (hL.below (show Below w4.heap.size w4 wc25 from hB)) hF hcF) ?_
          rintro e wc26 ⟨vP, vC, rfl, hvP, hvC, hlP, hlC, hb_wc26⟩
          refine ⟨_, rfl, ((ks.to hB).to hb_wc26), ?_⟩
          have hnAP := SNo.loc hlP kA.lt
          have hnAC := SNo.loc hlC kA.lt
          have hnBP := SNo.loc hlP kB.lt
          have hnBC := SNo.loc hlC kB.lt
          clear hlP hlC
          replace kA := kA.to hb_wc26
          replace kB := kB.to hb_wc26
          replace hvX := hvX.to hb_wc26
          replace hF := hF.below hb_wc26 (Nat.le_refl _)
          replace hB := hB.trans (hb_wc26.mono hB.size)
          clear hb_wc26
          try simp only [Act.put, List.setIfInBounds_toArray, List.set_cons_zero, List.set_cons_succ]
          refine takeD 5 (some 23) (.tuple #[vP, vC, .int .i64 0]) rfl rfl (by kernel_rfl) (by kernel_rfl) (by kernel_rfl) (fun _ _ _ h => h) (.inl ⟨rfl, fun w' hS => by go_simp⟩) (ks.to hB) ?_
          try simp only [Act.put, List.setIfInBounds_toArray, List.set_cons_zero, List.set_cons_succ]
          refine takeD 6 (some 29) (vP) rfl rfl (by kernel_rfl) (by kernel_rfl) (by kernel_rfl) (fun _ _ _ h => h) (.inl ⟨rfl, fun w' hS => by go_simp⟩) (ks.to hB) ?_
          try simp only [Act.put, List.setIfInBounds_toArray, List.set_cons_zero, List.set_cons_succ]
          refine takeD 7 (some 30) (vC) rfl rfl (by kernel_rfl) (by kernel_rfl) (by kernel_rfl) (fun _ _ _ h => h) (.inl ⟨rfl, fun w' hS => by go_simp⟩) (ks.to hB) ?_
          try simp only [Act.put, List.setIfInBounds_toArray, List.set_cons_zero, List.set_cons_succ]
          refine takeD 8 (some 31) (.int .i64 0) rfl rfl (by kernel_rfl) (by kernel_rfl) (by kernel_rfl) (fun _ _ _ h => h) (.inl ⟨rfl, fun w' hS => by go_simp⟩) (ks.to hB) ?_
          try simp only [Act.put, List.setIfInBounds_toArray, List.set_cons_zero, List.set_cons_succ]
          exact HK (wc1.heap.size, wn18.heap.size, vX, AF, cF, vP, vC) _ ⟨kA, kB, hneAB, hgA, hgB, hvP, hvC, hnAP, hnBP, hnAC, hnBC, hB⟩
      · skip
        refine valD 10 (some 7) rfl rfl rfl (hal _ _ _ rfl) ⟨((ks.to hB).alloc _), ?_⟩
        have kB := Bk.new wc1 #[.slice none 0 0, .int .i64 0, .slice none 0 0, .slice none 0 0] 28
        have hcN := balloc (Below.refl _ wc1) (.cells #[.slice none 0 0, .int .i64 0, .slice none 0 0, .slice none 0 0] 28)
        have hgB : w4.heap.size ≤ wc1.heap.size := hB.size
        generalize hw_wn27 : wc1.alloc (.cells #[.slice none 0 0, .int .i64 0, .slice none 0 0, .slice none 0 0] 28) = wn27 at *
        replace hvX := hvX.to hcN
        replace hB := hB.trans (hcN.mono hB.size)
        clear hcN
        try simp only [Act.put, List.setIfInBounds_toArray, List.set_cons_zero, List.set_cons_succ]
        refine wpAnyH_all (rs := [3, 9]) (by kernel_rfl) (by simp) (fun i hiR => ?_)
        simp only [List.mem_cons, List.not_mem_nil, or_false] at hiR
        rcases hiR with rfl | rfl
        · skip
          refine callD 3 (some 27) rfl rfl rfl (f := 27) (args := #[.agg #[.slice AS rs.length cS, .int .i64 10, .slice LS ls.length clS, .slice BS es.length dS], .int .i64 100]) (run_call2 (vx := .agg #[.slice AS rs.length cS, .int .i64 10, .slice LS ls.length clS, .slice BS es.length dS]) (vy := .int .i64 100) (x := .tmp 26) (y := _) rfl rfl rfl rfl (hcf2 _ _) _) (HFr.out _ _ (SpV.to hvS (show Below w4.heap.size w4 wn27 from hB))) ?_
          rintro e wc28 ⟨AF, cF, rfl, hcF, hF, hb_wc28⟩
          refine ⟨_, rfl, ((ks.to hB).to hb_wc28), ?_⟩
          replace kB := kB.to hb_wc28
          replace hvX := hvX.to hb_wc28
          replace hB := hB.trans (hb_wc28.mono hB.size)
          clear hb_wc28
          try simp only [Act.put, List.setIfInBounds_toArray, List.set_cons_zero, List.set_cons_succ]
          refine wpAnyH_all (rs := [4, 9]) (by kernel_rfl) (by simp) (fun i hiR => ?_)
          simp only [List.mem_cons, List.not_mem_nil, or_false] at hiR
          rcases hiR with rfl | rfl
          · skip
            refine callD 4 (some 28) rfl rfl rfl (f := 16) (args := #[vX, .slice AF fr.length cF]) (run_call2 (vx := vX) (vy := .slice AF fr.length cF) (x := .tmp 25) (y := .tmp 27) rfl rfl rfl rfl (hcf3 _ _) _) (HFk.out _ _ _ _ hvX (hL.below (show Below w4.heap.size w4 wc28 from hB)) hF hcF) ?_
            rintro e wc29 ⟨vP, vC, rfl, hvP, hvC, hlP, hlC, hb_wc29⟩
            refine ⟨_, rfl, ((ks.to hB).to hb_wc29), ?_⟩
            have hnBP := SNo.loc hlP kB.lt
            have hnBC := SNo.loc hlC kB.lt
            clear hlP hlC
            replace kB := kB.to hb_wc29
            replace hvX := hvX.to hb_wc29
            replace hF := hF.below hb_wc29 (Nat.le_refl _)
            replace hB := hB.trans (hb_wc29.mono hB.size)
            clear hb_wc29
            try simp only [Act.put, List.setIfInBounds_toArray, List.set_cons_zero, List.set_cons_succ]
            refine takeD 5 (some 23) (.tuple #[vP, vC, .int .i64 0]) rfl rfl (by kernel_rfl) (by kernel_rfl) (by kernel_rfl) (fun _ _ _ h => h) (.inl ⟨rfl, fun w' hS => by go_simp⟩) (ks.to hB) ?_
            try simp only [Act.put, List.setIfInBounds_toArray, List.set_cons_zero, List.set_cons_succ]
            refine takeD 6 (some 29) (vP) rfl rfl (by kernel_rfl) (by kernel_rfl) (by kernel_rfl) (fun _ _ _ h => h) (.inl ⟨rfl, fun w' hS => by go_simp⟩) (ks.to hB) ?_
            try simp only [Act.put, List.setIfInBounds_toArray, List.set_cons_zero, List.set_cons_succ]
            refine takeD 7 (some 30) (vC) rfl rfl (by kernel_rfl) (by kernel_rfl) (by kernel_rfl) (fun _ _ _ h => h) (.inl ⟨rfl, fun w' hS => by go_simp⟩) (ks.to hB) ?_
            try simp only [Act.put, List.setIfInBounds_toArray, List.set_cons_zero, List.set_cons_succ]
            refine takeD 8 (some 31) (.int .i64 0) rfl rfl (by kernel_rfl) (by kernel_rfl) (by kernel_rfl) (fun _ _ _ h => h) (.inl ⟨rfl, fun w' hS => by go_simp⟩) (ks.to hB) ?_
            try simp only [Act.put, List.setIfInBounds_toArray, List.set_cons_zero, List.set_cons_succ]
            refine wpAnyH_all (rs := [9]) (by kernel_rfl) (by simp) (fun i hiR => ?_)
            obtain rfl : i = 9 := by simpa using hiR
            refine valD 9 (some 6) rfl rfl rfl (hal _ _ _ rfl) ⟨((ks.to hB).alloc _), ?_⟩
            have kA := Bk.new wc29 #[.slice none 0 0, .int .i64 0, .slice none 0 0, .slice none 0 0] 28
            have hcN := balloc (Below.refl _ wc29) (.cells #[.slice none 0 0, .int .i64 0, .slice none 0 0, .slice none 0 0] 28)
            have hgA : w4.heap.size ≤ wc29.heap.size := hB.size
            have hneAB : wc29.heap.size ≠ wc1.heap.size := (Nat.ne_of_lt kB.lt).symm
            have hnAP := SNo.new hvP (Nat.le_refl _)
            have hnAC := SNo.new hvC (Nat.le_refl _)
            generalize hw_wn30 : wc29.alloc (.cells #[.slice none 0 0, .int .i64 0, .slice none 0 0, .slice none 0 0] 28) = wn30 at *
            replace kB := kB.to hcN
            replace hvX := hvX.to hcN
            replace hF := hF.below hcN (Nat.le_refl _)
            replace hvP := hvP.to hcN
            replace hvC := hvC.to hcN
            replace hB := hB.trans (hcN.mono hB.size)
            clear hcN
            try simp only [Act.put, List.setIfInBounds_toArray, List.set_cons_zero, List.set_cons_succ]
            exact HK (wc29.heap.size, wc1.heap.size, vX, AF, cF, vP, vC) _ ⟨kA, kB, hneAB, hgA, hgB, hvP, hvC, hnAP, hnBP, hnAC, hnBC, hB⟩
          · skip
            refine valD 9 (some 6) rfl rfl rfl (hal _ _ _ rfl) ⟨((ks.to hB).alloc _), ?_⟩
            have kA := Bk.new wc28 #[.slice none 0 0, .int .i64 0, .slice none 0 0, .slice none 0 0] 28
            have hcN := balloc (Below.refl _ wc28) (.cells #[.slice none 0 0, .int .i64 0, .slice none 0 0, .slice none 0 0] 28)
            have hgA : w4.heap.size ≤ wc28.heap.size := hB.size
            have hneAB : wc28.heap.size ≠ wc1.heap.size := (Nat.ne_of_lt kB.lt).symm
            generalize hw_wn31 : wc28.alloc (.cells #[.slice none 0 0, .int .i64 0, .slice none 0 0, .slice none 0 0] 28) = wn31 at *
            replace kB := kB.to hcN
            replace hvX := hvX.to hcN
            replace hF := hF.below hcN (Nat.le_refl _)
            replace hB := hB.trans (hcN.mono hB.size)
            clear hcN
            try simp only [Act.put, List.setIfInBounds_toArray, List.set_cons_zero, List.set_cons_succ]
            refine wpAnyH_all (rs := [4]) (by kernel_rfl) (by simp) (fun i hiR => ?_)
            obtain rfl : i = 4 := by simpa using hiR
            refine callD 4 (some 28) rfl rfl rfl (f := 16) (args := #[vX, .slice AF fr.length cF]) (run_call2 (vx := vX) (vy := .slice AF fr.length cF) (x := .tmp 25) (y := .tmp 27) rfl rfl rfl rfl (hcf3 _ _) _) (HFk.out _ _ _ _ hvX (hL.below (show Below w4.heap.size w4 wn31 from hB)) hF hcF) ?_
            rintro e wc32 ⟨vP, vC, rfl, hvP, hvC, hlP, hlC, hb_wc32⟩
            refine ⟨_, rfl, ((ks.to hB).to hb_wc32), ?_⟩
            have hnBP := SNo.loc hlP kB.lt
            have hnBC := SNo.loc hlC kB.lt
            have hnAP := SNo.loc hlP kA.lt
            have hnAC := SNo.loc hlC kA.lt
            clear hlP hlC
            replace kB := kB.to hb_wc32
            replace kA := kA.to hb_wc32
            replace hvX := hvX.to hb_wc32
            replace hF := hF.below hb_wc32 (Nat.le_refl _)
            replace hB := hB.trans (hb_wc32.mono hB.size)
            clear hb_wc32
            try simp only [Act.put, List.setIfInBounds_toArray, List.set_cons_zero, List.set_cons_succ]
            refine takeD 5 (some 23) (.tuple #[vP, vC, .int .i64 0]) rfl rfl (by kernel_rfl) (by kernel_rfl) (by kernel_rfl) (fun _ _ _ h => h) (.inl ⟨rfl, fun w' hS => by go_simp⟩) (ks.to hB) ?_
            try simp only [Act.put, List.setIfInBounds_toArray, List.set_cons_zero, List.set_cons_succ]
            refine takeD 6 (some 29) (vP) rfl rfl (by kernel_rfl) (by kernel_rfl) (by kernel_rfl) (fun _ _ _ h => h) (.inl ⟨rfl, fun w' hS => by go_simp⟩) (ks.to hB) ?_
            try simp only [Act.put, List.setIfInBounds_toArray, List.set_cons_zero, List.set_cons_succ]
            refine takeD 7 (some 30) (vC) rfl rfl (by kernel_rfl) (by kernel_rfl) (by kernel_rfl) (fun _ _ _ h => h) (.inl ⟨rfl, fun w' hS => by go_simp⟩) (ks.to hB) ?_
            try simp only [Act.put, List.setIfInBounds_toArray, List.set_cons_zero, List.set_cons_succ]
            refine takeD 8 (some 31) (.int .i64 0) rfl rfl (by kernel_rfl) (by kernel_rfl) (by kernel_rfl) (fun _ _ _ h => h) (.inl ⟨rfl, fun w' hS => by go_simp⟩) (ks.to hB) ?_
            try simp only [Act.put, List.setIfInBounds_toArray, List.set_cons_zero, List.set_cons_succ]
            exact HK (wc28.heap.size, wc1.heap.size, vX, AF, cF, vP, vC) _ ⟨kA, kB, hneAB, hgA, hgB, hvP, hvC, hnAP, hnBP, hnAC, hnBC, hB⟩
        · skip
          refine valD 9 (some 6) rfl rfl rfl (hal _ _ _ rfl) ⟨((ks.to hB).alloc _), ?_⟩
          have kA := Bk.new wn27 #[.slice none 0 0, .int .i64 0, .slice none 0 0, .slice none 0 0] 28
          have hcN := balloc (Below.refl _ wn27) (.cells #[.slice none 0 0, .int .i64 0, .slice none 0 0, .slice none 0 0] 28)
          have hgA : w4.heap.size ≤ wn27.heap.size := hB.size
          have hneAB : wn27.heap.size ≠ wc1.heap.size := (Nat.ne_of_lt kB.lt).symm
          generalize hw_wn33 : wn27.alloc (.cells #[.slice none 0 0, .int .i64 0, .slice none 0 0, .slice none 0 0] 28) = wn33 at *
          replace kB := kB.to hcN
          replace hvX := hvX.to hcN
          replace hB := hB.trans (hcN.mono hB.size)
          clear hcN
          try simp only [Act.put, List.setIfInBounds_toArray, List.set_cons_zero, List.set_cons_succ]
          refine wpAnyH_all (rs := [3]) (by kernel_rfl) (by simp) (fun i hiR => ?_)
          obtain rfl : i = 3 := by simpa using hiR
          refine callD 3 (some 27) rfl rfl rfl (f := 27) (args := #[.agg #[.slice AS rs.length cS, .int .i64 10, .slice LS ls.length clS, .slice BS es.length dS], .int .i64 100]) (run_call2 (vx := .agg #[.slice AS rs.length cS, .int .i64 10, .slice LS ls.length clS, .slice BS es.length dS]) (vy := .int .i64 100) (x := .tmp 26) (y := _) rfl rfl rfl rfl (hcf2 _ _) _) (HFr.out _ _ (SpV.to hvS (show Below w4.heap.size w4 wn33 from hB))) ?_
          rintro e wc34 ⟨AF, cF, rfl, hcF, hF, hb_wc34⟩
          refine ⟨_, rfl, ((ks.to hB).to hb_wc34), ?_⟩
          replace kB := kB.to hb_wc34
          replace kA := kA.to hb_wc34
          replace hvX := hvX.to hb_wc34
          replace hB := hB.trans (hb_wc34.mono hB.size)
          clear hb_wc34
          try simp only [Act.put, List.setIfInBounds_toArray, List.set_cons_zero, List.set_cons_succ]
          refine wpAnyH_all (rs := [4]) (by kernel_rfl) (by simp) (fun i hiR => ?_)
          obtain rfl : i = 4 := by simpa using hiR
          refine callD 4 (some 28) rfl rfl rfl (f := 16) (args := #[vX, .slice AF fr.length cF]) (run_call2 (vx := vX) (vy := .slice AF fr.length cF) (x := .tmp 25) (y := .tmp 27) rfl rfl rfl rfl (hcf3 _ _) _) (HFk.out _ _ _ _ hvX (hL.below (show Below w4.heap.size w4 wc34 from hB)) hF hcF) ?_
          rintro e wc35 ⟨vP, vC, rfl, hvP, hvC, hlP, hlC, hb_wc35⟩
          refine ⟨_, rfl, ((ks.to hB).to hb_wc35), ?_⟩
          have hnBP := SNo.loc hlP kB.lt
          have hnBC := SNo.loc hlC kB.lt
          have hnAP := SNo.loc hlP kA.lt
          have hnAC := SNo.loc hlC kA.lt
          clear hlP hlC
          replace kB := kB.to hb_wc35
          replace kA := kA.to hb_wc35
          replace hvX := hvX.to hb_wc35
          replace hF := hF.below hb_wc35 (Nat.le_refl _)
          replace hB := hB.trans (hb_wc35.mono hB.size)
          clear hb_wc35
          try simp only [Act.put, List.setIfInBounds_toArray, List.set_cons_zero, List.set_cons_succ]
          refine takeD 5 (some 23) (.tuple #[vP, vC, .int .i64 0]) rfl rfl (by kernel_rfl) (by kernel_rfl) (by kernel_rfl) (fun _ _ _ h => h) (.inl ⟨rfl, fun w' hS => by go_simp⟩) (ks.to hB) ?_
          try simp only [Act.put, List.setIfInBounds_toArray, List.set_cons_zero, List.set_cons_succ]
          refine takeD 6 (some 29) (vP) rfl rfl (by kernel_rfl) (by kernel_rfl) (by kernel_rfl) (fun _ _ _ h => h) (.inl ⟨rfl, fun w' hS => by go_simp⟩) (ks.to hB) ?_
          try simp only [Act.put, List.setIfInBounds_toArray, List.set_cons_zero, List.set_cons_succ]
          refine takeD 7 (some 30) (vC) rfl rfl (by kernel_rfl) (by kernel_rfl) (by kernel_rfl) (fun _ _ _ h => h) (.inl ⟨rfl, fun w' hS => by go_simp⟩) (ks.to hB) ?_
          try simp only [Act.put, List.setIfInBounds_toArray, List.set_cons_zero, List.set_cons_succ]
          refine takeD 8 (some 31) (.int .i64 0) rfl rfl (by kernel_rfl) (by kernel_rfl) (by kernel_rfl) (fun _ _ _ h => h) (.inl ⟨rfl, fun w' hS => by go_simp⟩) (ks.to hB) ?_
          try simp only [Act.put, List.setIfInBounds_toArray, List.set_cons_zero, List.set_cons_succ]
          exact HK (wn27.heap.size, wc1.heap.size, vX, AF, cF, vP, vC) _ ⟨kA, kB, hneAB, hgA, hgB, hvP, hvC, hnAP, hnBP, hnAC, hnBC, hB⟩
    · skip
      refine valD 9 (some 6) rfl rfl rfl (hal _ _ _ rfl) ⟨((ks.to hB).alloc _), ?_⟩
      have kA := Bk.new wd #[.slice none 0 0, .int .i64 0, .slice none 0 0, .slice none 0 0] 28
      have hcN := balloc (Below.refl _ wd) (.cells #[.slice none 0 0, .int .i64 0, .slice none 0 0, .slice none 0 0] 28)
      have hgA : w4.heap.size ≤ wd.heap.size := hB.size
      generalize hw_wn36 : wd.alloc (.cells #[.slice none 0 0, .int .i64 0, .slice none 0 0, .slice none 0 0] 28) = wn36 at *
      replace hB := hB.trans (hcN.mono hB.size)
      clear hcN
      try simp only [Act.put, List.setIfInBounds_toArray, List.set_cons_zero, List.set_cons_succ]
      refine wpAnyH_all (rs := [1, 10]) (by kernel_rfl) (by simp) (fun i hiR => ?_)
      simp only [List.mem_cons, List.not_mem_nil, or_false] at hiR
      rcases hiR with rfl | rfl
      · skip
        refine callD 1 (some 25) rfl rfl rfl (f := 12) (args := #[.agg #[.slice AS rs.length cS, .int .i64 10, .slice LS ls.length clS, .slice BS es.length dS]]) (run_call1 (vx := .agg #[.slice AS rs.length cS, .int .i64 10, .slice LS ls.length clS, .slice BS es.length dS]) (x := .tmp 24) rfl rfl rfl (hcf1 _) _) (HOS.out _ _ (SpV.to hvS (show Below w4.heap.size w4 wn36 from hB))) ?_
        rintro e wc37 ⟨vX, rfl, hvX, hb_wc37⟩
        refine ⟨_, rfl, ((ks.to hB).to hb_wc37), ?_⟩
        replace kA := kA.to hb_wc37
        replace hB := hB.trans (hb_wc37.mono hB.size)
        clear hb_wc37
        try simp only [Act.put, List.setIfInBounds_toArray, List.set_cons_zero, List.set_cons_succ]
        refine wpAnyH_all (rs := [3, 10]) (by kernel_rfl) (by simp) (fun i hiR => ?_)
        simp only [List.mem_cons, List.not_mem_nil, or_false] at hiR
        rcases hiR with rfl | rfl
        · skip
          refine callD 3 (some 27) rfl rfl rfl (f := 27) (args := #[.agg #[.slice AS rs.length cS, .int .i64 10, .slice LS ls.length clS, .slice BS es.length dS], .int .i64 100]) (run_call2 (vx := .agg #[.slice AS rs.length cS, .int .i64 10, .slice LS ls.length clS, .slice BS es.length dS]) (vy := .int .i64 100) (x := .tmp 26) (y := _) rfl rfl rfl rfl (hcf2 _ _) _) (HFr.out _ _ (SpV.to hvS (show Below w4.heap.size w4 wc37 from hB))) ?_
          rintro e wc38 ⟨AF, cF, rfl, hcF, hF, hb_wc38⟩
          refine ⟨_, rfl, ((ks.to hB).to hb_wc38), ?_⟩
          replace kA := kA.to hb_wc38
          replace hvX := hvX.to hb_wc38
          replace hB := hB.trans (hb_wc38.mono hB.size)
          clear hb_wc38
          try simp only [Act.put, List.setIfInBounds_toArray, List.set_cons_zero, List.set_cons_succ]
          refine wpAnyH_all (rs := [4, 10]) (by kernel_rfl) (by simp) (fun i hiR => ?_)
          simp only [List.mem_cons, List.not_mem_nil, or_false] at hiR
          rcases hiR with rfl | rfl
          · skip
            refine callD 4 (some 28) rfl rfl rfl (f := 16) (args := #[vX, .slice AF fr.length cF]) (run_call2 (vx := vX) (vy := .slice AF fr.length cF) (x := .tmp 25) (y := .tmp 27) rfl rfl rfl rfl (hcf3 _ _) _) (HFk.out _ _ _ _ hvX (hL.below (show Below w4.heap.size w4 wc38 from hB)) hF hcF) ?_
            rintro e wc39 ⟨vP, vC, rfl, hvP, hvC, hlP, hlC, hb_wc39⟩
            refine ⟨_, rfl, ((ks.to hB).to hb_wc39), ?_⟩
            have hnAP := SNo.loc hlP kA.lt
            have hnAC := SNo.loc hlC kA.lt
            clear hlP hlC
            replace kA := kA.to hb_wc39
            replace hvX := hvX.to hb_wc39
            replace hF := hF.below hb_wc39 (Nat.le_refl _)
            replace hB := hB.trans (hb_wc39.mono hB.size)
            clear hb_wc39
            try simp only [Act.put, List.setIfInBounds_toArray, List.set_cons_zero, List.set_cons_succ]
            refine takeD 5 (some 23) (.tuple #[vP, vC, .int .i64 0]) rfl rfl (by kernel_rfl) (by kernel_rfl) (by kernel_rfl) (fun _ _ _ h => h) (.inl ⟨rfl, fun w' hS => by go_simp⟩) (ks.to hB) ?_
            try simp only [Act.put, List.setIfInBounds_toArray, List.set_cons_zero, List.set_cons_succ]
            refine takeD 6 (some 29) (vP) rfl rfl (by kernel_rfl) (by kernel_rfl) (by kernel_rfl) (fun _ _ _ h => h) (.inl ⟨rfl, fun w' hS => by go_simp⟩) (ks.to hB) ?_
            try simp only [Act.put, List.setIfInBounds_toArray, List.set_cons_zero, List.set_cons_succ]
            refine takeD 7 (some 30) (vC) rfl rfl (by kernel_rfl) (by kernel_rfl) (by kernel_rfl) (fun _ _ _ h => h) (.inl ⟨rfl, fun w' hS => by go_simp⟩) (ks.to hB) ?_
            try simp only [Act.put, List.setIfInBounds_toArray, List.set_cons_zero, List.set_cons_succ]
            refine takeD 8 (some 31) (.int .i64 0) rfl rfl (by kernel_rfl) (by kernel_rfl) (by kernel_rfl) (fun _ _ _ h => h) (.inl ⟨rfl, fun w' hS => by go_simp⟩) (ks.to hB) ?_
            try simp only [Act.put, List.setIfInBounds_toArray, List.set_cons_zero, List.set_cons_succ]
            refine wpAnyH_all (rs := [10]) (by kernel_rfl) (by simp) (fun i hiR => ?_)
            obtain rfl : i = 10 := by simpa using hiR
            refine valD 10 (some 7) rfl rfl rfl (hal _ _ _ rfl) ⟨((ks.to hB).alloc _), ?_⟩
            have kB := Bk.new wc39 #[.slice none 0 0, .int .i64 0, .slice none 0 0, .slice none 0 0] 28
            have hcN := balloc (Below.refl _ wc39) (.cells #[.slice none 0 0, .int .i64 0, .slice none 0 0, .slice none 0 0] 28)
            have hgB : w4.heap.size ≤ wc39.heap.size := hB.size
            have hneAB : wd.heap.size ≠ wc39.heap.size := Nat.ne_of_lt kA.lt
            have hnBP := SNo.new hvP (Nat.le_refl _)
            have hnBC := SNo.new hvC (Nat.le_refl _)
            generalize hw_wn40 : wc39.alloc (.cells #[.slice none 0 0, .int .i64 0, .slice none 0 0, .slice none 0 0] 28) = wn40 at *
            replace kA := kA.to hcN
            replace hvX := hvX.to hcN
            replace hF := hF.below hcN (Nat.le_refl _)
            replace hvP := hvP.to hcN
            replace hvC := hvC.to hcN
            replace hB := hB.trans (hcN.mono hB.size)
            clear hcN
            try simp only [Act.put, List.setIfInBounds_toArray, List.set_cons_zero, List.set_cons_succ]
            exact HK (wd.heap.size, wc39.heap.size, vX, AF, cF, vP, vC) _ ⟨kA, kB, hneAB, hgA, hgB, hvP, hvC, hnAP, hnBP, hnAC, hnBC, hB⟩
          · skip
            refine valD 10 (some 7) rfl rfl rfl (hal _ _ _ rfl) ⟨((ks.to hB).alloc _), ?_⟩
            have kB := Bk.new wc38 #[.slice none 0 0, .int .i64 0, .slice none 0 0, .slice none 0 0] 28
            have hcN := balloc (Below.refl _ wc38) (.cells #[.slice none 0 0, .int .i64 0, .slice none 0 0, .slice none 0 0] 28)
            have hgB : w4.heap.size ≤ wc38.heap.size := hB.size
            have hneAB : wd.heap.size ≠ wc38.heap.size := Nat.ne_of_lt kA.lt
            generalize hw_wn41 : wc38.alloc (.cells #[.slice none 0 0, .int .i64 0, .slice none 0 0, .slice none 0 0] 28) = wn41 at *
            replace kA := kA.to hcN
            replace hvX := hvX.to hcN
            replace hF := hF.below hcN (Nat.le_refl _)
            replace hB := hB.trans (hcN.mono hB.size)
            clear hcN
            try simp only [Act.put, List.setIfInBounds_toArray, List.set_cons_zero, List.set_cons_succ]
            refine wpAnyH_all (rs := [4]) (by kernel_rfl) (by simp) (fun i hiR => ?_)
            obtain rfl : i = 4 := by simpa using hiR
            refine callD 4 (some 28) rfl rfl rfl (f := 16) (args := #[vX, .slice AF fr.length cF]) (run_call2 (vx := vX) (vy := .slice AF fr.length cF) (x := .tmp 25) (y := .tmp 27) rfl rfl rfl rfl (hcf3 _ _) _) (HFk.out _ _ _ _ hvX (hL.below (show Below w4.heap.size w4 wn41 from hB)) hF hcF) ?_
            rintro e wc42 ⟨vP, vC, rfl, hvP, hvC, hlP, hlC, hb_wc42⟩
            refine ⟨_, rfl, ((ks.to hB).to hb_wc42), ?_⟩
            have hnAP := SNo.loc hlP kA.lt
            have hnAC := SNo.loc hlC kA.lt
            have hnBP := SNo.loc hlP kB.lt
            have hnBC := SNo.loc hlC kB.lt
            clear hlP hlC
            replace kA := kA.to hb_wc42
            replace kB := kB.to hb_wc42
            replace hvX := hvX.to hb_wc42
            replace hF := hF.below hb_wc42 (Nat.le_refl _)
            replace hB := hB.trans (hb_wc42.mono hB.size)
            clear hb_wc42
            try simp only [Act.put, List.setIfInBounds_toArray, List.set_cons_zero, List.set_cons_succ]
            refine takeD 5 (some 23) (.tuple #[vP, vC, .int .i64 0]) rfl rfl (by kernel_rfl) (by kernel_rfl) (by kernel_rfl) (fun _ _ _ h => h) (.inl ⟨rfl, fun w' hS => by go_simp⟩) (ks.to hB) ?_
            try simp only [Act.put, List.setIfInBounds_toArray, List.set_cons_zero, List.set_cons_succ]
            refine takeD 6 (some 29) (vP) rfl rfl (by kernel_rfl) (by kernel_rfl) (by kernel_rfl) (fun _ _ _ h => h) (.inl ⟨rfl, fun w' hS => by go_simp⟩) (ks.to hB) ?_
            try simp only [Act.put, List.setIfInBounds_toArray, List.set_cons_zero, List.set_cons_succ]
            refine takeD 7 (some 30) (vC) rfl rfl (by kernel_rfl) (by kernel_rfl) (by kernel_rfl) (fun _ _ _ h => h) (.inl ⟨rfl, fun w' hS => by go_simp⟩) (ks.to hB) ?_
            try simp only [Act.put, List.setIfInBounds_toArray, List.set_cons_zero, List.set_cons_succ]
            refine takeD 8 (some 31) (.int .i64 0) rfl rfl (by kernel_rfl) (by kernel_rfl) (by kernel_rfl) (fun _ _ _ h => h) (.inl ⟨rfl, fun w' hS => by go_simp⟩) (ks.to hB) ?_
            try simp only [Act.put, List.setIfInBounds_toArray, List.set_cons_zero, List.set_cons_succ]
            exact HK (wd.heap.size, wc38.heap.size, vX, AF, cF, vP, vC) _ ⟨kA, kB, hneAB, hgA, hgB, hvP, hvC, hnAP, hnBP, hnAC, hnBC, hB⟩
        · skip
          refine valD 10 (some 7) rfl rfl rfl (hal _ _ _ rfl) ⟨((ks.to hB).alloc _), ?_⟩
          have kB := Bk.new wc37 #[.slice none 0 0, .int .i64 0, .slice none 0 0, .slice none 0 0] 28
          have hcN := balloc (Below.refl _ wc37) (.cells #[.slice none 0 0, .int .i64 0, .slice none 0 0, .slice none 0 0] 28)
          have hgB : w4.heap.size ≤ wc37.heap.size := hB.size
          have hneAB : wd.heap.size ≠ wc37.heap.size := Nat.ne_of_lt kA.lt
          generalize hw_wn43 : wc37.alloc (.cells #[.slice none 0 0, .int .i64 0, .slice none 0 0, .slice none 0 0] 28) = wn43 at *
          replace kA := kA.to hcN
          replace hvX := hvX.to hcN
          replace hB := hB.trans (hcN.mono hB.size)
          clear hcN
          try simp only [Act.put, List.setIfInBounds_toArray, List.set_cons_zero, List.set_cons_succ]
          refine wpAnyH_all (rs := [3]) (by kernel_rfl) (by simp) (fun i hiR => ?_)
          obtain rfl : i = 3 := by simpa using hiR
          refine callD 3 (some 27) rfl rfl rfl (f := 27) (args := #[.agg #[.slice AS rs.length cS, .int .i64 10, .slice LS ls.length clS, .slice BS es.length dS], .int .i64 100]) (run_call2 (vx := .agg #[.slice AS rs.length cS, .int .i64 10, .slice LS ls.length clS, .slice BS es.length dS]) (vy := .int .i64 100) (x := .tmp 26) (y := _) rfl rfl rfl rfl (hcf2 _ _) _) (HFr.out _ _ (SpV.to hvS (show Below w4.heap.size w4 wn43 from hB))) ?_
          rintro e wc44 ⟨AF, cF, rfl, hcF, hF, hb_wc44⟩
          refine ⟨_, rfl, ((ks.to hB).to hb_wc44), ?_⟩
          replace kA := kA.to hb_wc44
          replace kB := kB.to hb_wc44
          replace hvX := hvX.to hb_wc44
          replace hB := hB.trans (hb_wc44.mono hB.size)
          clear hb_wc44
          try simp only [Act.put, List.setIfInBounds_toArray, List.set_cons_zero, List.set_cons_succ]
          refine wpAnyH_all (rs := [4]) (by kernel_rfl) (by simp) (fun i hiR => ?_)
          obtain rfl : i = 4 := by simpa using hiR
          refine callD 4 (some 28) rfl rfl rfl (f := 16) (args := #[vX, .slice AF fr.length cF]) (run_call2 (vx := vX) (vy := .slice AF fr.length cF) (x := .tmp 25) (y := .tmp 27) rfl rfl rfl rfl (hcf3 _ _) _) (HFk.out _ _ _ _ hvX (hL.below (show Below w4.heap.size w4 wc44 from hB)) hF hcF) ?_
          rintro e wc45 ⟨vP, vC, rfl, hvP, hvC, hlP, hlC, hb_wc45⟩
          refine ⟨_, rfl, ((ks.to hB).to hb_wc45), ?_⟩
          have hnAP := SNo.loc hlP kA.lt
          have hnAC := SNo.loc hlC kA.lt
          have hnBP := SNo.loc hlP kB.lt
          have hnBC := SNo.loc hlC kB.lt
          clear hlP hlC
          replace kA := kA.to hb_wc45
          replace kB := kB.to hb_wc45
          replace hvX := hvX.to hb_wc45
          replace hF := hF.below hb_wc45 (Nat.le_refl _)
          replace hB := hB.trans (hb_wc45.mono hB.size)
          clear hb_wc45
          try simp only [Act.put, List.setIfInBounds_toArray, List.set_cons_zero, List.set_cons_succ]
          refine takeD 5 (some 23) (.tuple #[vP, vC, .int .i64 0]) rfl rfl (by kernel_rfl) (by kernel_rfl) (by kernel_rfl) (fun _ _ _ h => h) (.inl ⟨rfl, fun w' hS => by go_simp⟩) (ks.to hB) ?_
          try simp only [Act.put, List.setIfInBounds_toArray, List.set_cons_zero, List.set_cons_succ]
          refine takeD 6 (some 29) (vP) rfl rfl (by kernel_rfl) (by kernel_rfl) (by kernel_rfl) (fun _ _ _ h => h) (.inl ⟨rfl, fun w' hS => by go_simp⟩) (ks.to hB) ?_
          try simp only [Act.put, List.setIfInBounds_toArray, List.set_cons_zero, List.set_cons_succ]
          refine takeD 7 (some 30) (vC) rfl rfl (by kernel_rfl) (by kernel_rfl) (by kernel_rfl) (fun _ _ _ h => h) (.inl ⟨rfl, fun w' hS => by go_simp⟩) (ks.to hB) ?_
          try simp only [Act.put, List.setIfInBounds_toArray, List.set_cons_zero, List.set_cons_succ]
          refine takeD 8 (some 31) (.int .i64 0) rfl rfl (by kernel_rfl) (by kernel_rfl) (by kernel_rfl) (fun _ _ _ h => h) (.inl ⟨rfl, fun w' hS => by go_simp⟩) (ks.to hB) ?_
          try simp only [Act.put, List.setIfInBounds_toArray, List.set_cons_zero, List.set_cons_succ]
          exact HK (wd.heap.size, wc37.heap.size, vX, AF, cF, vP, vC) _ ⟨kA, kB, hneAB, hgA, hgB, hvP, hvC, hnAP, hnBP, hnAC, hnBC, hB⟩
      · skip
        refine valD 10 (some 7) rfl rfl rfl (hal _ _ _ rfl) ⟨((ks.to hB).alloc _), ?_⟩
        have kB := Bk.new wn36 #[.slice none 0 0, .int .i64 0, .slice none 0 0, .slice none 0 0] 28
        have hcN := balloc (Below.refl _ wn36) (.cells #[.slice none 0 0, .int .i64 0, .slice none 0 0, .slice none 0 0] 28)
        have hgB : w4.heap.size ≤ wn36.heap.size := hB.size
        have hneAB : wd.heap.size ≠ wn36.heap.size := Nat.ne_of_lt kA.lt
        generalize hw_wn46 : wn36.alloc (.cells #[.slice none 0 0, .int .i64 0, .slice none 0 0, .slice none 0 0] 28) = wn46 at *
        replace kA := kA.to hcN
        replace hB := hB.trans (hcN.mono hB.size)
        clear hcN
        try simp only [Act.put, List.setIfInBounds_toArray, List.set_cons_zero, List.set_cons_succ]
        refine wpAnyH_all (rs := [1]) (by kernel_rfl) (by simp) (fun i hiR => ?_)
        obtain rfl : i = 1 := by simpa using hiR
        refine callD 1 (some 25) rfl rfl rfl (f := 12) (args := #[.agg #[.slice AS rs.length cS, .int .i64 10, .slice LS ls.length clS, .slice BS es.length dS]]) (run_call1 (vx := .agg #[.slice AS rs.length cS, .int .i64 10, .slice LS ls.length clS, .slice BS es.length dS]) (x := .tmp 24) rfl rfl rfl (hcf1 _) _) (HOS.out _ _ (SpV.to hvS (show Below w4.heap.size w4 wn46 from hB))) ?_
        rintro e wc47 ⟨vX, rfl, hvX, hb_wc47⟩
        refine ⟨_, rfl, ((ks.to hB).to hb_wc47), ?_⟩
        replace kA := kA.to hb_wc47
        replace kB := kB.to hb_wc47
        replace hB := hB.trans (hb_wc47.mono hB.size)
        clear hb_wc47
        try simp only [Act.put, List.setIfInBounds_toArray, List.set_cons_zero, List.set_cons_succ]
        refine wpAnyH_all (rs := [3]) (by kernel_rfl) (by simp) (fun i hiR => ?_)
        obtain rfl : i = 3 := by simpa using hiR
        refine callD 3 (some 27) rfl rfl rfl (f := 27) (args := #[.agg #[.slice AS rs.length cS, .int .i64 10, .slice LS ls.length clS, .slice BS es.length dS], .int .i64 100]) (run_call2 (vx := .agg #[.slice AS rs.length cS, .int .i64 10, .slice LS ls.length clS, .slice BS es.length dS]) (vy := .int .i64 100) (x := .tmp 26) (y := _) rfl rfl rfl rfl (hcf2 _ _) _) (HFr.out _ _ (SpV.to hvS (show Below w4.heap.size w4 wc47 from hB))) ?_
        rintro e wc48 ⟨AF, cF, rfl, hcF, hF, hb_wc48⟩
        refine ⟨_, rfl, ((ks.to hB).to hb_wc48), ?_⟩
        replace kA := kA.to hb_wc48
        replace kB := kB.to hb_wc48
        replace hvX := hvX.to hb_wc48
        replace hB := hB.trans (hb_wc48.mono hB.size)
        clear hb_wc48
        try simp only [Act.put, List.setIfInBounds_toArray, List.set_cons_zero, List.set_cons_succ]
        refine wpAnyH_all (rs := [4]) (by kernel_rfl) (by simp) (fun i hiR => ?_)
        obtain rfl : i = 4 := by simpa using hiR
        refine callD 4 (some 28) rfl rfl rfl (f := 16) (args := #[vX, .slice AF fr.length cF]) (run_call2 (vx := vX) (vy := .slice AF fr.length cF) (x := .tmp 25) (y := .tmp 27) rfl rfl rfl rfl (hcf3 _ _) _) (HFk.out _ _ _ _ hvX (hL.below (show Below w4.heap.size w4 wc48 from hB)) hF hcF) ?_
        rintro e wc49 ⟨vP, vC, rfl, hvP, hvC, hlP, hlC, hb_wc49⟩
        refine ⟨_, rfl, ((ks.to hB).to hb_wc49), ?_⟩
        have hnAP := SNo.loc hlP kA.lt
        have hnAC := SNo.loc hlC kA.lt
        have hnBP := SNo.loc hlP kB.lt
        have hnBC := SNo.loc hlC kB.lt
        clear hlP hlC
        replace kA := kA.to hb_wc49
        replace kB := kB.to hb_wc49
        replace hvX := hvX.to hb_wc49
        replace hF := hF.below hb_wc49 (Nat.le_refl _)
        replace hB := hB.trans (hb_wc49.mono hB.size)
        clear hb_wc49
        try simp only [Act.put, List.setIfInBounds_toArray, List.set_cons_zero, List.set_cons_succ]
        refine takeD 5 (some 23) (.tuple #[vP, vC, .int .i64 0]) rfl rfl (by kernel_rfl) (by kernel_rfl) (by kernel_rfl) (fun _ _ _ h => h) (.inl ⟨rfl, fun w' hS => by go_simp⟩) (ks.to hB) ?_
        try simp only [Act.put, List.setIfInBounds_toArray, List.set_cons_zero, List.set_cons_succ]
        refine takeD 6 (some 29) (vP) rfl rfl (by kernel_rfl) (by kernel_rfl) (by kernel_rfl) (fun _ _ _ h => h) (.inl ⟨rfl, fun w' hS => by go_simp⟩) (ks.to hB) ?_
        try simp only [Act.put, List.setIfInBounds_toArray, List.set_cons_zero, List.set_cons_succ]
        refine takeD 7 (some 30) (vC) rfl rfl (by kernel_rfl) (by kernel_rfl) (by kernel_rfl) (fun _ _ _ h => h) (.inl ⟨rfl, fun w' hS => by go_simp⟩) (ks.to hB) ?_
        try simp only [Act.put, List.setIfInBounds_toArray, List.set_cons_zero, List.set_cons_succ]
        refine takeD 8 (some 31) (.int .i64 0) rfl rfl (by kernel_rfl) (by kernel_rfl) (by kernel_rfl) (fun _ _ _ h => h) (.inl ⟨rfl, fun w' hS => by go_simp⟩) (ks.to hB) ?_
        try simp only [Act.put, List.setIfInBounds_toArray, List.set_cons_zero, List.set_cons_succ]
        exact HK (wd.heap.size, wn36.heap.size, vX, AF, cF, vP, vC) _ ⟨kA, kB, hneAB, hgA, hgB, hvP, hvC, hnAP, hnBP, hnAC, hnBC, hB⟩
    · skip
      refine valD 10 (some 7) rfl rfl rfl (hal _ _ _ rfl) ⟨((ks.to hB).alloc _), ?_⟩
      have kB := Bk.new wd #[.slice none 0 0, .int .i64 0, .slice none 0 0, .slice none 0 0] 28
      have hcN := balloc (Below.refl _ wd) (.cells #[.slice none 0 0, .int .i64 0, .slice none 0 0, .slice none 0 0] 28)
      have hgB : w4.heap.size ≤ wd.heap.size := hB.size
      generalize hw_wn50 : wd.alloc (.cells #[.slice none 0 0, .int .i64 0, .slice none 0 0, .slice none 0 0] 28) = wn50 at *
      replace hB := hB.trans (hcN.mono hB.size)
      clear hcN
      try simp only [Act.put, List.setIfInBounds_toArray, List.set_cons_zero, List.set_cons_succ]
      refine wpAnyH_all (rs := [1, 9]) (by kernel_rfl) (by simp) (fun i hiR => ?_)
      simp only [List.mem_cons, List.not_mem_nil, or_false] at hiR
      rcases hiR with rfl | rfl
      · skip
        refine callD 1 (some 25) rfl rfl rfl (f := 12) (args := #[.agg #[.slice AS rs.length cS, .int .i64 10, .slice LS ls.length clS, .slice BS es.length dS]]) (run_call1 (vx := .agg #[.slice AS rs.length cS, .int .i64 10, .slice LS ls.length clS, .slice BS es.length dS]) (x := .tmp 24) rfl rfl rfl (hcf1 _) _) (HOS.out _ _ (SpV.to hvS (show Below w4.heap.size w4 wn50 from hB))) ?_
        rintro e wc51 ⟨vX, rfl, hvX, hb_wc51⟩
        refine ⟨_, rfl, ((ks.to hB).to hb_wc51), ?_⟩
        replace kB := kB.to hb_wc51
        replace hB := hB.trans (hb_wc51.mono hB.size)
        clear hb_wc51
        try simp only [Act.put, List.setIfInBounds_toArray, List.set_cons_zero, List.set_cons_succ]
        refine wpAnyH_all (rs := [3, 9]) (by kernel_rfl) (by simp) (fun i hiR => ?_)
        simp only [List.mem_cons, List.not_mem_nil, or_false] at hiR
        rcases hiR with rfl | rfl
        · skip
          refine callD 3 (some 27) rfl rfl rfl (f := 27) (args := #[.agg #[.slice AS rs.length cS, .int .i64 10, .slice LS ls.length clS, .slice BS es.length dS], .int .i64 100]) (run_call2 (vx := .agg #[.slice AS rs.length cS, .int .i64 10, .slice LS ls.length clS, .slice BS es.length dS]) (vy := .int .i64 100) (x := .tmp 26) (y := _) rfl rfl rfl rfl (hcf2 _ _) _) (HFr.out _ _ (SpV.to hvS (show Below w4.heap.size w4 wc51 from hB))) ?_
          rintro e wc52 ⟨AF, cF, rfl, hcF, hF, hb_wc52⟩
          refine ⟨_, rfl, ((ks.to hB).to hb_wc52), ?_⟩
          replace kB := kB.to hb_wc52
          replace hvX := hvX.to hb_wc52
          replace hB := hB.trans (hb_wc52.mono hB.size)
          clear hb_wc52
          try simp only [Act.put, List.setIfInBounds_toArray, List.set_cons_zero, List.set_cons_succ]
          refine wpAnyH_all (rs := [4, 9]) (by kernel_rfl) (by simp) (fun i hiR => ?_)
          simp only [List.mem_cons, List.not_mem_nil, or_false] at hiR
          rcases hiR with rfl | rfl
          · skip
            refine callD 4 (some 28) rfl rfl rfl (f := 16) (args := #[vX, .slice AF fr.length cF]) (run_call2 (vx := vX) (vy := .slice AF fr.length cF) (x := .tmp 25) (y := .tmp 27) rfl rfl rfl rfl (hcf3 _ _) _) (HFk.out _ _ _ _ hvX (hL.below (show Below w4.heap.size w4 wc52 from hB)) hF hcF) ?_
            rintro e wc53 ⟨vP, vC, rfl, hvP, hvC, hlP, hlC, hb_wc53⟩
            refine ⟨_, rfl, ((ks.to hB).to hb_wc53), ?_⟩
            have hnBP := SNo.loc hlP kB.lt
            have hnBC := SNo.loc hlC kB.lt
            clear hlP hlC
            replace kB := kB.to hb_wc53
            replace hvX := hvX.to hb_wc53
            replace hF := hF.below hb_wc53 (Nat.le_refl _)
            replace hB := hB.trans (hb_wc53.mono hB.size)
            clear hb_wc53
            try simp only [Act.put, List.setIfInBounds_toArray, List.set_cons_zero, List.set_cons_succ]
            refine takeD 5 (some 23) (.tuple #[vP, vC, .int .i64 0]) rfl rfl (by kernel_rfl) (by kernel_rfl) (by kernel_rfl) (fun _ _ _ h => h) (.inl ⟨rfl, fun w' hS => by go_simp⟩) (ks.to hB) ?_
            try simp only [Act.put, List.setIfInBounds_toArray, List.set_cons_zero, List.set_cons_succ]
            refine takeD 6 (some 29) (vP) rfl rfl (by kernel_rfl) (by kernel_rfl) (by kernel_rfl) (fun _ _ _ h => h) (.inl ⟨rfl, fun w' hS => by go_simp⟩) (ks.to hB) ?_
            try simp only [Act.put, List.setIfInBounds_toArray, List.set_cons_zero, List.set_cons_succ]
            refine takeD 7 (some 30) (vC) rfl rfl (by kernel_rfl) (by kernel_rfl) (by kernel_rfl) (fun _ _ _ h => h) (.inl ⟨rfl, fun w' hS => by go_simp⟩) (ks.to hB) ?_
            try simp only [Act.put, List.setIfInBounds_toArray, List.set_cons_zero, List.set_cons_succ]
            refine takeD 8 (some 31) (.int .i64 0) rfl rfl (by kernel_rfl) (by kernel_rfl) (by kernel_rfl) (fun _ _ _ h => h) (.inl ⟨rfl, fun w' hS => by go_simp⟩) (ks.to hB) ?_
            try simp only [Act.put, List.setIfInBounds_toArray, List.set_cons_zero, List.set_cons_succ]
            refine wpAnyH_all (rs := [9]) (by kernel_rfl) (by simp) (fun i hiR => ?_)
            obtain rfl : i = 9 := by simpa using hiR
            refine valD 9 (some 6) rfl rfl rfl (hal _ _ _ rfl) ⟨((ks.to hB).alloc _), ?_⟩
            have kA := Bk.new wc53 #[.slice none 0 0, .int .i64 0, .slice none 0 0, .slice none 0 0] 28
            have hcN := balloc (Below.refl _ wc53) (.cells #[.slice none 0 0, .int .i64 0, .slice none 0 0, .slice none 0 0] 28)
            have hgA : w4.heap.size ≤ wc53.heap.size := hB.size
            have hneAB : wc53.heap.size ≠ wd.heap.size := (Nat.ne_of_lt kB.lt).symm
            have hnAP := SNo.new hvP (Nat.le_refl _)
            have hnAC := SNo.new hvC (Nat.le_refl _)
            generalize hw_wn54 : wc53.alloc (.cells #[.slice none 0 0, .int .i64 0, .slice none 0 0, .slice none 0 0] 28) = wn54 at *
            replace kB := kB.to hcN
            replace hvX := hvX.to hcN
            replace hF := hF.below hcN (Nat.le_refl _)
            replace hvP := hvP.to hcN
            replace hvC := hvC.to hcN
            replace hB := hB.trans (hcN.mono hB.size)
            clear hcN
            try simp only [Act.put, List.setIfInBounds_toArray, List.set_cons_zero, List.set_cons_succ]
            exact HK (wc53.heap.size, wd.heap.size, vX, AF, cF, vP, vC) _ ⟨kA, kB, hneAB, hgA, hgB, hvP, hvC, hnAP, hnBP, hnAC, hnBC, hB⟩
          · skip
            refine valD 9 (some 6) rfl rfl rfl (hal _ _ _ rfl) ⟨((ks.to hB).alloc _), ?_⟩
            have kA := Bk.new wc52 #[.slice none 0 0, .int .i64 0, .slice none 0 0, .slice none 0 0] 28
            have hcN := balloc (Below.refl _ wc52) (.cells #[.slice none 0 0, .int .i64 0, .slice none 0 0, .slice none 0 0] 28)
            have hgA : w4.heap.size ≤ wc52.heap.size := hB.size
            have hneAB : wc52.heap.size ≠ wd.heap.size := (Nat.ne_of_lt kB.lt).symm
            generalize hw_wn55 : wc52.alloc (.cells #[.slice none 0 0, .int .i64 0, .slice none 0 0, .slice none 0 0] 28) = wn55 at *
            replace kB := kB.to hcN
            replace hvX := hvX.to hcN
            replace hF := hF.below hcN (Nat.le_refl _)
            replace hB := hB.trans (hcN.mono hB.size)
            clear hcN
            try simp only [Act.put, List.setIfInBounds_toArray, List.set_cons_zero, List.set_cons_succ]
            refine wpAnyH_all (rs := [4]) (by kernel_rfl) (by simp) (fun i hiR => ?_)
            obtain rfl : i = 4 := by simpa using hiR
            refine callD 4 (some 28) rfl rfl rfl (f := 16) (args := #[vX, .slice AF fr.length cF]) (run_call2 (vx := vX) (vy := .slice AF fr.length cF) (x := .tmp 25) (y := .tmp 27) rfl rfl rfl rfl (hcf3 _ _) _) (HFk.out _ _ _ _ hvX (hL.below (show Below w4.heap.size w4 wn55 from hB)) hF hcF) ?_
            rintro e wc56 ⟨vP, vC, rfl, hvP, hvC, hlP, hlC, hb_wc56⟩
            refine ⟨_, rfl, ((ks.to hB).to hb_wc56), ?_⟩
            have hnBP := SNo.loc hlP kB.lt
            have hnBC := SNo.loc hlC kB.lt
            have hnAP := SNo.loc hlP kA.lt
            have hnAC := SNo.loc hlC kA.lt
            clear hlP hlC
            replace kB := kB.to hb_wc56
            replace kA := kA.to hb_wc56
            replace hvX := hvX.to hb_wc56
            replace hF := hF.below hb_wc56 (Nat.le_refl _)
            replace hB := hB.trans (hb_wc56.mono hB.size)
            clear hb_wc56
            try simp only [Act.put, List.setIfInBounds_toArray, List.set_cons_zero, List.set_cons_succ]
            refine takeD 5 (some 23) (.tuple #[vP, vC, .int .i64 0]) rfl rfl (by kernel_rfl) (by kernel_rfl) (by kernel_rfl) (fun _ _ _ h => h) (.inl ⟨rfl, fun w' hS => by go_simp⟩) (ks.to hB) ?_
            try simp only [Act.put, List.setIfInBounds_toArray, List.set_cons_zero, List.set_cons_succ]
            refine takeD 6 (some 29) (vP) rfl rfl (by kernel_rfl) (by kernel_rfl) (by kernel_rfl) (fun _ _ _ h => h) (.inl ⟨rfl, fun w' hS => by go_simp⟩) (ks.to hB) ?_
            try simp only [Act.put, List.setIfInBounds_toArray, List.set_cons_zero, List.set_cons_succ]
            refine takeD 7 (some 30) (vC) rfl rfl (by kernel_rfl) (by kernel_rfl) (by kernel_rfl) (fun _ _ _ h => h) (.inl ⟨rfl, fun w' hS => by go_simp⟩) (ks.to hB) ?_
            try simp only [Act.put, List.setIfInBounds_toArray, List.set_cons_zero, List.set_cons_succ]
            refine takeD 8 (some 31) (.int .i64 0) rfl rfl (by kernel_rfl) (by kernel_rfl) (by kernel_rfl) (fun _ _ _ h => h) (.inl ⟨rfl, fun w' hS => by go_simp⟩) (ks.to hB) ?_
            try simp only [Act.put, List.setIfInBounds_toArray, List.set_cons_zero, List.set_cons_succ]
            exact HK (wc52.heap.size, wd.heap.size, vX, AF, cF, vP, vC) _ ⟨kA, kB, hneAB, hgA, hgB, hvP, hvC, hnAP, hnBP, hnAC, hnBC, hB⟩
        · skip
          refine valD 9 (some 6) rfl rfl rfl (hal _ _ _ rfl) ⟨((ks.to hB).alloc _), ?_⟩
          have kA := Bk.new wc51 #[.slice none 0 0, .int .i64 0, .slice none 0 0, .slice none 0 0] 28
          have hcN := balloc (Below.refl _ wc51) (.cells #[.slice none 0 0, .int .i64 0, .slice none 0 0, .slice none 0 0] 28)
          have hgA : w4.heap.size ≤ wc51.heap.size := hB.size
          have hneAB : wc51.heap.size ≠ wd.heap.size := (Nat.ne_of_lt kB.lt).symm
          generalize hw_wn57 : wc51.alloc (.cells #[.slice none 0 0, .int .i64 0, .slice none 0 0, .slice none 0 0] 28) = wn57 at *
          replace kB := kB.to hcN
          replace hvX := hvX.to hcN
          replace hB := hB.trans (hcN.mono hB.size)
          clear hcN
          try simp only [Act.put, List.setIfInBounds_toArray, List.set_cons_zero, List.set_cons_succ]
          refine wpAnyH_all (rs := [3]) (by kernel_rfl) (by simp) (fun i hiR => ?_)
          obtain rfl : i = 3 := by simpa using hiR
          refine callD 3 (some 27) rfl rfl rfl (f := 27) (args := #[.agg #[.slice AS rs.length cS, .int .i64 10, .slice LS ls.length clS, .slice BS es.length dS], .int .i64 100]) (run_call2 (vx := .agg #[.slice AS rs.length cS, .int .i64 10, .slice LS ls.length clS, .slice BS es.length dS]) (vy := .int .i64 100) (x := .tmp 26) (y := _) rfl rfl rfl rfl (hcf2 _ _) _) (HFr.out _ _ (SpV.to hvS (show Below w4.heap.size w4 wn57 from hB))) ?_
          rintro e wc58 ⟨AF, cF, rfl, hcF, hF, hb_wc58⟩
          refine ⟨_, rfl, ((ks.to hB).to hb_wc58), ?_⟩
          replace kB := kB.to hb_wc58
          replace kA := kA.to hb_wc58
          replace hvX := hvX.to hb_wc58
          replace hB := hB.trans (hb_wc58.mono hB.size)
          clear hb_wc58
          try simp only [Act.put, List.setIfInBounds_toArray, List.set_cons_zero, List.set_cons_succ]
          refine wpAnyH_all (rs := [4]) (by kernel_rfl) (by simp) (fun i hiR => ?_)
          obtain rfl : i = 4 := by simpa using hiR
          refine callD 4 (some 28) rfl rfl rfl (f := 16) (args := #[vX, .slice AF fr.length cF]) (run_call2 (vx := vX) (vy := .slice AF fr.length cF) (x := .tmp 25) (y := .tmp 27) rfl rfl rfl rfl (hcf3 _ _) _) (HFk.out _ _ _ _ hvX (hL.below (show Below w4.heap.size w4 wc58 from hB)) hF hcF) ?_
          rintro e wc59 ⟨vP, vC, rfl, hvP, hvC, hlP, hlC, hb_wc59⟩
          refine ⟨_, rfl, ((ks.to hB).to hb_wc59), ?_⟩
          have hnBP := SNo.loc hlP kB.lt
          have hnBC := SNo.loc hlC kB.lt
          have hnAP := SNo.loc hlP kA.lt
          have hnAC := SNo.loc hlC kA.lt
          clear hlP hlC
          replace kB := kB.to hb_wc59
          replace kA := kA.to hb_wc59
          replace hvX := hvX.to hb_wc59
          replace hF := hF.below hb_wc59 (Nat.le_refl _)
          replace hB := hB.trans (hb_wc59.mono hB.size)
          clear hb_wc59
          try simp only [Act.put, List.setIfInBounds_toArray, List.set_cons_zero, List.set_cons_succ]
          refine takeD 5 (some 23) (.tuple #[vP, vC, .int .i64 0]) rfl rfl (by kernel_rfl) (by kernel_rfl) (by kernel_rfl) (fun _ _ _ h => h) (.inl ⟨rfl, fun w' hS => by go_simp⟩) (ks.to hB) ?_
          try simp only [Act.put, List.setIfInBounds_toArray, List.set_cons_zero, List.set_cons_succ]
          refine takeD 6 (some 29) (vP) rfl rfl (by kernel_rfl) (by kernel_rfl) (by kernel_rfl) (fun _ _ _ h => h) (.inl ⟨rfl, fun w' hS => by go_simp⟩) (ks.to hB) ?_
          try simp only [Act.put, List.setIfInBounds_toArray, List.set_cons_zero, List.set_cons_succ]
          refine takeD 7 (some 30) (vC) rfl rfl (by kernel_rfl) (by kernel_rfl) (by kernel_rfl) (fun _ _ _ h => h) (.inl ⟨rfl, fun w' hS => by go_simp⟩) (ks.to hB) ?_
          try simp only [Act.put, List.setIfInBounds_toArray, List.set_cons_zero, List.set_cons_succ]
          refine takeD 8 (some 31) (.int .i64 0) rfl rfl (by kernel_rfl) (by kernel_rfl) (by kernel_rfl) (fun _ _ _ h => h) (.inl ⟨rfl, fun w' hS => by go_simp⟩) (ks.to hB) ?_
          try simp only [Act.put, List.setIfInBounds_toArray, List.set_cons_zero, List.set_cons_succ]
          exact HK (wc51.heap.size, wd.heap.size, vX, AF, cF, vP, vC) _ ⟨kA, kB, hneAB, hgA, hgB, hvP, hvC, hnAP, hnBP, hnAC, hnBC, hB⟩
      · skip
        refine valD 9 (some 6) rfl rfl rfl (hal _ _ _ rfl) ⟨((ks.to hB).alloc _), ?_⟩
        have kA := Bk.new wn50 #[.slice none 0 0, .int .i64 0, .slice none 0 0, .slice none 0 0] 28
        have hcN := balloc (Below.refl _ wn50) (.cells #[.slice none 0 0, .int .i64 0, .slice none 0 0, .slice none 0 0] 28)
        have hgA : w4.heap.size ≤ wn50.heap.size := hB.size
        have hneAB : wn50.heap.size ≠ wd.heap.size := (Nat.ne_of_lt kB.lt).symm
        generalize hw_wn60 : wn50.alloc (.cells #[.slice none 0 0, .int .i64 0, .slice none 0 0, .slice none 0 0] 28) = wn60 at *
        replace kB := kB.to hcN
        replace hB := hB.trans (hcN.mono hB.size)
        clear hcN
        try simp only [Act.put, List.setIfInBounds_toArray, List.set_cons_zero, List.set_cons_succ]
        refine wpAnyH_all (rs := [1]) (by kernel_rfl) (by simp) (fun i hiR => ?_)
        obtain rfl : i = 1 := by simpa using hiR
        refine callD 1 (some 25) rfl rfl rfl (f := 12) (args := #[.agg #[.slice AS rs.length cS, .int .i64 10, .slice LS ls.length clS, .slice BS es.length dS]]) (run_call1 (vx := .agg #[.slice AS rs.length cS, .int .i64 10, .slice LS ls.length clS, .slice BS es.length dS]) (x := .tmp 24) rfl rfl rfl (hcf1 _) _) (HOS.out _ _ (SpV.to hvS (show Below w4.heap.size w4 wn60 from hB))) ?_
        rintro e wc61 ⟨vX, rfl, hvX, hb_wc61⟩
        refine ⟨_, rfl, ((ks.to hB).to hb_wc61), ?_⟩
        replace kB := kB.to hb_wc61
        replace kA := kA.to hb_wc61
        replace hB := hB.trans (hb_wc61.mono hB.size)
        clear hb_wc61
        try simp only [Act.put, List.setIfInBounds_toArray, List.set_cons_zero, List.set_cons_succ]
        refine wpAnyH_all (rs := [3]) (by kernel_rfl) (by simp) (fun i hiR => ?_)
        obtain rfl : i = 3 := by simpa using hiR
        refine callD 3 (some 27) rfl rfl rfl (f := 27) (args := #[.agg #[.slice AS rs.length cS, .int .i64 10, .slice LS ls.length clS, .slice BS es.length dS], .int .i64 100]) (run_call2 (vx := .agg #[.slice AS rs.length cS, .int .i64 10, .slice LS ls.length clS, .slice BS es.length dS]) (vy := .int .i64 100) (x := .tmp 26) (y := _) rfl rfl rfl rfl (hcf2 _ _) _) (HFr.out _ _ (SpV.to hvS (show Below w4.heap.size w4 wc61 from hB))) ?_
        rintro e wc62 ⟨AF, cF, rfl, hcF, hF, hb_wc62⟩
        refine ⟨_, rfl, ((ks.to hB).to hb_wc62), ?_⟩
        replace kB := kB.to hb_wc62
        replace kA := kA.to hb_wc62
        replace hvX := hvX.to hb_wc62
        replace hB := hB.trans (hb_wc62.mono hB.size)
        clear hb_wc62
        try simp only [Act.put, List.setIfInBounds_toArray, List.set_cons_zero, List.set_cons_succ]
        refine wpAnyH_all (rs := [4]) (by kernel_rfl) (by simp) (fun i hiR => ?_)
        obtain rfl : i = 4 := by simpa using hiR
        refine callD 4 (some 28) rfl rfl rfl (f := 16) (args := #[vX, .slice AF fr.length cF]) (run_call2 (vx := vX) (vy := .slice AF fr.length cF) (x := .tmp 25) (y := .tmp 27) rfl rfl rfl rfl (hcf3 _ _) _) (HFk.out _ _ _ _ hvX (hL.below (show Below w4.heap.size w4 wc62 from hB)) hF hcF) ?_
        rintro e wc63 ⟨vP, vC, rfl, hvP, hvC, hlP, hlC, hb_wc63⟩
        refine ⟨_, rfl, ((ks.to hB).to hb_wc63), ?_⟩
        have hnBP := SNo.loc hlP kB.lt
        have hnBC := SNo.loc hlC kB.lt
        have hnAP := SNo.loc hlP kA.lt
        have hnAC := SNo.loc hlC kA.lt
        clear hlP hlC
        replace kB := kB.to hb_wc63
        replace kA := kA.to hb_wc63
        replace hvX := hvX.to hb_wc63
        replace hF := hF.below hb_wc63 (Nat.le_refl _)
        replace hB := hB.trans (hb_wc63.mono hB.size)
        clear hb_wc63
        try simp only [Act.put, List.setIfInBounds_toArray, List.set_cons_zero, List.set_cons_succ]
        refine takeD 5 (some 23) (.tuple #[vP, vC, .int .i64 0]) rfl rfl (by kernel_rfl) (by kernel_rfl) (by kernel_rfl) (fun _ _ _ h => h) (.inl ⟨rfl, fun w' hS => by go_simp⟩) (ks.to hB) ?_
        try simp only [Act.put, List.setIfInBounds_toArray, List.set_cons_zero, List.set_cons_succ]
        refine takeD 6 (some 29) (vP) rfl rfl (by kernel_rfl) (by kernel_rfl) (by kernel_rfl) (fun _ _ _ h => h) (.inl ⟨rfl, fun w' hS => by go_simp⟩) (ks.to hB) ?_
        try simp only [Act.put, List.setIfInBounds_toArray, List.set_cons_zero, List.set_cons_succ]
        refine takeD 7 (some 30) (vC) rfl rfl (by kernel_rfl) (by kernel_rfl) (by kernel_rfl) (fun _ _ _ h => h) (.inl ⟨rfl, fun w' hS => by go_simp⟩) (ks.to hB) ?_
        try simp only [Act.put, List.setIfInBounds_toArray, List.set_cons_zero, List.set_cons_succ]
        refine takeD 8 (some 31) (.int .i64 0) rfl rfl (by kernel_rfl) (by kernel_rfl) (by kernel_rfl) (fun _ _ _ h => h) (.inl ⟨rfl, fun w' hS => by go_simp⟩) (ks.to hB) ?_
        try simp only [Act.put, List.setIfInBounds_toArray, List.set_cons_zero, List.set_cons_succ]
        exact HK (wn50.heap.size, wd.heap.size, vX, AF, cF, vP, vC) _ ⟨kA, kB, hneAB, hgA, hgB, hvP, hvC, hnAP, hnBP, hnAC, hnBC, hB⟩
  clear hcf2 hcf3 hal hcf1
  rintro ⟨gA, gB, vX, AF, cF, vP, vC⟩ W ⟨kA, kB, hneAB, hgA, hgB, hvP, hvC, hnAP, hnBP, hnAC, hnBC, hB⟩
  simp only at kA kB hneAB hgA hgB hvP hvC hnAP hnBP hnAC hnBC
  obtain ⟨AA, cA, LA, clA, BA, dA, rfl⟩ := hvP.cells
  obtain ⟨AB, cB, LB, clB, BB, dB, rfl⟩ := hvC.cells
  simp only at hvP hvC hnAP hnBP hnAC hnBC ⊢
  simp only [Act.put, List.setIfInBounds_toArray, List.set_cons_zero, List.set_cons_succ]
  have k9_ks := ks.to hB
  refine wpAnyH_all (rs := [11]) (by kernel_rfl) (by simp) (fun i hiR => ?_)
  obtain rfl : i = 11 := by simpa using hiR
  have kN := kA.row #[.slice AA rsP.length cA, .int .i64 rP, .slice LA lsP.length clA, .slice BA esP.length dA]
  have kO := kB.rowfar hneAB.symm #[.slice AA rsP.length cA, .int .i64 rP, .slice LA lsP.length clA, .slice BA esP.length dA]
  have hBn := below_row hB hgA #[.slice AA rsP.length cA, .int .i64 rP, .slice LA lsP.length clA, .slice BA esP.length dA]
  have nP := hvP.rowfar hnAP #[.slice AA rsP.length cA, .int .i64 rP, .slice LA lsP.length clA, .slice BA esP.length dA]
  have nC := hvC.rowfar hnAC #[.slice AA rsP.length cA, .int .i64 rP, .slice LA lsP.length clA, .slice BA esP.length dA]
  have n9_ks := k9_ks.rowfar (show w1.heap.size ≠ gA by omega) #[.slice AA rsP.length cA, .int .i64 rP, .slice LA lsP.length clA, .slice BA esP.length dA]
  refine storeD 11 rfl rfl rfl 28 _ _ rfl gA #[.slice AA rsP.length cA, .int .i64 rP, .slice LA lsP.length clA, .slice BA esP.length dA] rfl rfl 28 _ kA (by kernel_rfl) rfl (all_oneCell_toArray (fun v hv => by simp at hv; rcases hv with rfl | rfl | rfl | rfl <;> rfl)) ⟨(n9_ks), ?_⟩
  generalize World.setRow W gA #[.slice AA rsP.length cA, .int .i64 rP, .slice LA lsP.length clA, .slice BA esP.length dA] = wz64 at *
  replace kA := kN
  replace kB := kO
  replace hB := hBn
  replace hvP := nP
  replace hvC := nC
  replace k9_ks := n9_ks
  clear kN kO hBn nP nC n9_ks
  try simp only [Act.put, List.setIfInBounds_toArray, List.set_cons_zero, List.set_cons_succ]
  refine wpAnyH_all (rs := [12]) (by kernel_rfl) (by simp) (fun i hiR => ?_)
  obtain rfl : i = 12 := by simpa using hiR
  have kN := kB.row #[.slice AB rsC.length cB, .int .i64 rC, .slice LB lsC.length clB, .slice BB esC.length dB]
  have kO := kA.rowfar hneAB #[.slice AB rsC.length cB, .int .i64 rC, .slice LB lsC.length clB, .slice BB esC.length dB]
  have hBn := below_row hB hgB #[.slice AB rsC.length cB, .int .i64 rC, .slice LB lsC.length clB, .slice BB esC.length dB]
  have nP := hvP.rowfar hnBP #[.slice AB rsC.length cB, .int .i64 rC, .slice LB lsC.length clB, .slice BB esC.length dB]
  have nC := hvC.rowfar hnBC #[.slice AB rsC.length cB, .int .i64 rC, .slice LB lsC.length clB, .slice BB esC.length dB]
  have n9_ks := k9_ks.rowfar (show w1.heap.size ≠ gB by omega) #[.slice AB rsC.length cB, .int .i64 rC, .slice LB lsC.length clB, .slice BB esC.length dB]
  refine storeD 12 rfl rfl rfl 28 _ _ rfl gB #[.slice AB rsC.length cB, .int .i64 rC, .slice LB lsC.length clB, .slice BB esC.length dB] rfl rfl 28 _ kB (by kernel_rfl) rfl (all_oneCell_toArray (fun v hv => by simp at hv; rcases hv with rfl | rfl | rfl | rfl <;> rfl)) ⟨(n9_ks), ?_⟩
  generalize World.setRow wz64 gB #[.slice AB rsC.length cB, .int .i64 rC, .slice LB lsC.length clB, .slice BB esC.length dB] = wz65 at *
  replace kB := kN
  replace kA := kO
  replace hB := hBn
  replace hvP := nP
  replace hvC := nC
  replace k9_ks := n9_ks
  clear kN kO hBn nP nC n9_ks
  try simp only [Act.put, List.setIfInBounds_toArray, List.set_cons_zero, List.set_cons_succ]
  refine takeD 13 (some 8) (.int .i64 0) rfl rfl (by kernel_rfl) (by kernel_rfl) (by kernel_rfl) (fun _ _ _ h => h) (.inl ⟨rfl, fun w' hS => by go_simp⟩) (k9_ks) ?_
  try simp only [Act.put, List.setIfInBounds_toArray, List.set_cons_zero, List.set_cons_succ]
  clear k9_ks l9_ks hnAP hnBP hnAC hnBC hu hd
  refine wpAnyH_done (by kernel_rfl) ?_ _
  replace hvS := hvS.to hB
  replace kl := kl.to hB
  replace ks := ks.to hB
  replace hL := hL.below hB
  replace hB0 := bnext hB0 hB
  clear hB
  clear HOS HFr HFk
  try go_frame
  obtain ⟨c_ks, f_ks, l_ks⟩ := ks.facts
  obtain ⟨c_kA, f_kA, l_kA⟩ := kA.facts
  obtain ⟨c_kB, f_kB, l_kB⟩ := kB.facts
  go_wp2_with fail
  clear c_ks f_ks l_ks
  clear c_kA f_kA l_kA
  clear c_kB f_kB l_kB
  have kl2 := Bk.new wz65 #[.slice AA rsP.length cA, .int .i64 rP, .slice LA lsP.length clA, .slice BA esP.length dA, .slice AB rsC.length cB, .int .i64 rC, .slice LB lsC.length clB, .slice BB esC.length dB] 28
  have hcN := balloc (Below.refl _ wz65) (.cells #[.slice AA rsP.length cA, .int .i64 rP, .slice LA lsP.length clA, .slice BA esP.length dA, .slice AB rsC.length cB, .int .i64 rC, .slice LB lsC.length clB, .slice BB esC.length dB] 28)
  generalize wz65.alloc (.cells #[.slice AA rsP.length cA, .int .i64 rP, .slice LA lsP.length clA, .slice BA esP.length dA, .slice AB rsC.length cB, .int .i64 rC, .slice LB lsC.length clB, .slice BB esC.length dB] 28) = w5 at *
  replace hvS := hvS.to hcN
  replace kl := kl.to hcN
  replace hvP := hvP.to hcN
  replace hvC := hvC.to hcN
  replace ks := ks.to hcN
  replace kA := kA.to hcN
  replace kB := kB.to hcN
  replace hL := hL.below hcN
  replace hB0 := bnext hB0 hcN
  clear hcN
  clear kA kB
  have hl5 := kl.lt
  refine (HC2.out _ _ _ (sps_twoA kl2 hvP hvC) hL).mono ?_
  rintro e w6 ⟨vm, rfl, _, hlQ, hb6⟩
  replace hvS := hvS.to hb6
  replace kl := kl.to hb6
  replace hvP := hvP.to hb6
  replace hvC := hvC.to hb6
  replace ks := ks.to hb6
  replace kl2 := kl2.to hb6
  replace hL := hL.below hb6
  replace hB0 := bnext hB0 hb6
  clear hb6
  clear kl2 hvP hvC
  obtain ⟨PC, rfl, hPQ, km⟩ := hlQ rfl
  clear hlQ HC1 HC2
  have hlB := kl.lt
  have hneC : PC ≠ PB := by omega
  have hsB2 : w.heap.size ≤ PB := by omega
  obtain ⟨c_ks, f_ks, l_ks⟩ := ks.facts
  go_wp2_with fail
  clear c_ks f_ks l_ks
  refine (HSh.out _ _ hvS hL).mono ?_
  rintro e w7 ⟨vn, vm2, rfl, hvn, _, hln, hb7⟩
  replace hvS := hvS.to hb7
  replace kl := kl.to hb7
  replace km := km.to hb7
  replace ks := ks.to hb7
  replace hL := hL.below hb7
  replace hB0 := bnext hB0 hb7
  clear hb7
  clear hvS ks
  clear hsB hl5 hPK hPQ hneAB hgA hgB hB hu hw_d
  clear HSh
  obtain ⟨AN, cN, rfl, hrN⟩ := hvn
  have HlN := Lib.hid (fun b off h0 e => hln _ _ _ rfl b off h0 e)
  clear hln
  obtain ⟨M, hM⟩ : ∃ M, M = nl.length := ⟨_, rfl⟩
  have HMM := Lib.hid hM
  have HrN := Lib.hid hrN
  have HL := Lib.hid hL
  rw [← hM] at ⊢
  clear hrN hM hL
  go_wp2_with fail
  go_loopw [14] (fun i wr => AddI nl c1 c2 PB PC AN w i wr) (fun i _ => M - (intOf i).toNat)
  case atStart => exact ⟨0, by omega, rfl, kl, km, HrN.out, hB0⟩
  case round =>
    clear kl km hB0
    obtain ⟨k, hk, rfl, kp, kq, hrN, hB0⟩ := hrel
    by_cases hlp : k < M
    · have hpI : (k : Int) < M := by omega
      have hpL : k < nl.length := by have := HMM.out; omega
      have hm64 : M ≤ 64 := by have := HMM.out; have := HNl.out; omega
      obtain ⟨bX, oX, hAX, hbX, hcX⟩ := hrN.2 (by omega)
      subst hAX
      have hneX : bX ≠ PB := by have := HlN.out bX oX (by omega) rfl; omega
      have hcell : wr.cell? ⟨bX, oX + k, none⟩ = some (.int .i64 (nl.getD k 0)) := hcX k _ (by simp [iw, List.getD_eq_getElem?_getD, hpL])
      have hrg := HNr.out (nl.getD k 0) (getD_mem hpL)
      have HTk := Lib.hid (take_bumpS (cs := c1) hpL)
      have hb2 := bumps_bd (nl.take k) c1 64 HCb.out
      have hln2 := bumps_len (nl.take k) c1
      have hlt2 : (nl.take k).length ≤ k := by rw [List.length_take]; omega
      have h256 := HC1l.out
      generalize nl.getD k 0 = b1 at *
      obtain ⟨bn, rfl⟩ : ∃ bn : Nat, b1 = bn := ⟨b1.toNat, by omega⟩
      have hbn : bn < 256 := by omega
      have hbnI : (bn : Int) < 256 := by omega
      have HHs := Lib.hid (has_twenty hrg)
      have hz := hb2 bn
      have kT := Bk.new wr #[.int .i64 20, .int .i64 21, .int .i64 22, .int .i64 23, .int .i64 24, .int .i64 25, .int .i64 26, .int .i64 27, .int .i64 28, .int .i64 29, .int .i64 30, .int .i64 31, .int .i64 32, .int .i64 33, .int .i64 34, .int .i64 35, .int .i64 36, .int .i64 37, .int .i64 38, .int .i64 39] 3
      have hcN := balloc (Below.refl _ wr) (.cells #[.int .i64 20, .int .i64 21, .int .i64 22, .int .i64 23, .int .i64 24, .int .i64 25, .int .i64 26, .int .i64 27, .int .i64 28, .int .i64 29, .int .i64 30, .int .i64 31, .int .i64 32, .int .i64 33, .int .i64 34, .int .i64 35, .int .i64 36, .int .i64 37, .int .i64 38, .int .i64 39] 3)
      have hlp2 := kp.lt
      generalize hwx : wr.alloc (.cells #[.int .i64 20, .int .i64 21, .int .i64 22, .int .i64 23, .int .i64 24, .int .i64 25, .int .i64 26, .int .i64 27, .int .i64 28, .int .i64 29, .int .i64 30, .int .i64 31, .int .i64 32, .int .i64 33, .int .i64 34, .int .i64 35, .int .i64 36, .int .i64 37, .int .i64 38, .int .i64 39] 3) = wx at *
      have hcellx := (hcN.cell (p := ⟨bX, oX + k, none⟩) hbX).trans hcell
      have kp2 := kp.to hcN
      have kq2 := kq.to hcN
      have hrN2 := hrN.below hcN (Nat.le_refl _)
      have hB2 := bnext hB0 hcN
      have cU := ct_cell kp2 (x := bn) (by omega)
      have fU := kp2.frozen
      have lU := kp2.lt
      have HPt := Lib.hid (fun z => ct_put kp2 bn z)
      have HBm := Lib.hid (bump_nat ((nl.take k).foldl bump c1) bn)
      generalize hgz : ((nl.take k).foldl bump c1).getD bn 0 = z at *
      have hz1 : 0 ≤ z ∧ z ≤ 1000 := by omega
      obtain ⟨hz2, hz3⟩ := hz1
      have HIs := Lib.hid (ct_is (cs := [20, 21, 22, 23, 24, 25, 26, 27, 28, 29, 30, 31, 32, 33, 34, 35, 36, 37, 38, 39]) kT rfl)
      have Hkq := Lib.hid kq2
      have HrN2 := Lib.hid hrN2
      clear hz hgz hrg hb2 h256 hln2 hlt2 hcN kp kq hrN hB0 kp2 kq2 hrN2 kT hcX
      go_wp2_with fail
      refine (kHas_any [20, 21, 22, 23, 24, 25, 26, 27, 28, 29, 30, 31, 32, 33, 34, 35, 36, 37, 38, 39] _ bn _ HIs.out (by decide)).mono ?_
      rintro e w' ⟨rfl, rfl⟩
      rw [HHs.out]
      clear HIs HHs hcell hwx
      go_wp2_with fail
      go_roundw
      case rel => exact ⟨k + 1, by omega, by go_num, by rw [HTk.out, HBm.out]; exact HPt.out _, Hkq.out.far (p := ⟨PB, bn, none⟩) hneC _, HrN2.out.far (p := ⟨PB, bn, none⟩) (fun b off h0 e => by have := HlN.out b off (by omega) e; show b ≠ PB; omega) _, hB2.setCell (p := ⟨PB, bn, none⟩) hsB2 _⟩
      case measure => simp [intOf]; omega
    · have hpM : k = nl.length := by have := HMM.out; omega
      have hpI : ¬ (k : Int) < M := by omega
      have HTa : Hid (Bk wr PB (iw c2).toArray 3) := Lib.hid (by rw [hpM, List.take_length, HPl.out] at kp; exact kp)
      have Hkq := Lib.hid kq
      clear kp kq hrN hpM
      go_wp2_with fail
      refine (SameInts_v c2 _ _ _ (ct_is HTa.out HC2l.out) (ct_is Hkq.out HC2l.out) (by rw [HC2l.out]; omega)).mono ?_
      rintro e w8 ⟨rfl, hb8⟩
      replace hB0 := bnext hB0 hb8
      clear hb8 HTa Hkq
      go_wp2_with fail
      refine (awake28_any _ (HL0.out.below hB0)).mono ?_
      rintro e w9 ⟨rfl, hb9⟩
      go_wp2_with fail
      go_ret
      exact ⟨rfl, bnext hB0 hb9⟩
end Go.Proofs.YtmjahjdnfijpkaaDoor
