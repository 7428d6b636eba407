/- ForkOwns returns true. -/
import Derived.Test.YtmjahjdnfijpkaaDoorHT
import Derived.Test.YtmjahjdnfijpkaaDoorHG
import Derived.Test.YtmjahjdnfijpkaaDoorHF
import Derived.Test.YtmjahjdnfijpkaaDoorHQ
import Derived.Test.YtmjahjdnfijpkaaDoorFkE
import Derived.Test.YtmjahjdnfijpkaaDoorSpK
import Derived.Test.YtmjahjdnfijpkaaDoorHS
import Derived.Deep.RegionHeld3
namespace Go.Proofs.YtmjahjdnfijpkaaDoor
open Go Go.Proofs Go.RowKit
set_option linter.unusedSimpArgs false
set_option linter.unusedVariables false
set_option maxRecDepth 100000

/-- Between two pages. -/
def OwnJ (w9 : World) (i : Value) (wr : World) : Prop := ∃ k : Nat, k ≤ 64 ∧ i = .int .i64 k ∧ Below w9.heap.size w9 wr
/-- What the walk of ForkOwns needs of the address space, its fork and what is given back. -/
theorem owns_facts {rs : List (Int × Int)} {ls : List Int} {es : List Nat} (hM : MdS (rs, 10, ls, es) 10) (hD : NumD es) (hl8 : ls.length = 8) (hrl : rs.length ≤ 64) :
    ∃ (sP sC sB : Sp) (c1 c2 nl : List Int), wsmall es ∧ wsmall sP.2.2.2 ∧ wsmall sC.2.2.2 ∧ wsmall sB.2.2.2 ∧ es.length = 64 ∧ sP.2.2.2.length = 64 ∧ sB.2.2.2.length = 64 ∧ sP.2.2.1.length = 8 ∧ sB.2.2.1.length = 8 ∧ sP.1.length ≤ 64 ∧ sC.1.length ≤ 64 ∧ sB.1.length ≤ 64 ∧
      forR (rs, 10, ls, es) (frsL 100 ls 8) = (sP, sC, 0) ∧ couR [sP] = (c1, 0) ∧ couR [sP, sC] = (c2, 0) ∧ shaR (rs, 10, ls, es) = (nl, numL es 2 64, 0) ∧ c1.length = 256 ∧ c2.length = 256 ∧ nl.length ≤ 64 ∧
      fowR sP c2 = (sP, 0, 0) ∧ fowR sP c1 = (sB, (nl.length : Int), 0) ∧ fowR sB c1 = (sB, 0, 0) ∧ tabE 10 ls es = 0 ∧
      ∀ p, p < 64 → ∀ (k n : Int) (a b c : Bool), entP es p = (k, n, a, b, c) → packR k n (if k = 1 then true else a) (if k = 1 then false else b) c = (((sB.2.2.2.getD p 0 : Nat) : Int), 0) := by
  have hfo := hM.frames (y := 100) (by omega) (by omega) (by omega) (by omega)
  simp only at hfo
  have hok := hM.ok
  obtain ⟨hpv, hpA⟩ := par_valid hok
  obtain ⟨_, hfk, _⟩ := for_zero hfo
  obtain ⟨hcv, hcA⟩ := chi_valid hok hfk
  have hT0 := (spc_zero hok).2.1
  have h64 := (tab_zero hT0).2.1
  obtain ⟨back, b1, b2, b3, b4, b5, b6, b7, b8, b9⟩ := own_one hok hD
  refine ⟨parS (rs, 10, ls, es), chiS (rs, 10, ls, es) (frsL 100 ls 8), back, couL [parS (rs, 10, ls, es)] 1, couL [parS (rs, 10, ls, es), chiS (rs, 10, ls, es) (frsL 100 ls 8)] 2, numL es 1 64, hM.sm, wsmall_map parW_kp hT0 hM.sm, wsmall_map chiW_kp hT0 hM.sm, b6 hM.sm, h64, ?_, b8, hl8, by rw [b4]; exact hl8, hrl, hrl, by rw [b2]; exact hrl, ?_, couR_one hpv, couR_two hpv hcv, ?_, cou_len _ _, cou_len _ _, nums_len _ _ _, own_both hok hcA, b1, b7, hT0, b9⟩
  · show (es.map parW).length = 64
    rw [List.length_map]
    exact h64
  · unfold forR; rw [if_neg (by rw [hfo]; decide)]
  · unfold shaR; rw [if_neg (by simpa using hok)]

set_option maxHeartbeats 16000000 in
theorem ForkOwns_true (F : Option Addr) (cf : Nat) (zs : List Int) (w : World) (hF : Rd w 1 F zs.length (iw zs)) (hn : zs.length ≤ maxLen) (hL : LayOK w) :
    Calls Tryd.prog 8 #[.slice F zs.length cf] w fun e w' => e = .returned (.bool true) ∧ Below w.heap.size w w' := by
  have hB0 := Below.refl w.heap.size w
  have HMd := Lib.hid (made28_any F cf zs w hF hn)
  generalize zs.length = nz at *
  clear hF hn
  go_enter Tryd.func8, Tryd.ntmps8
  go_wp2_with fail
  refine (HMd.out).mono ?_
  rintro e w1 ⟨rs, ls, es, vS, rfl, hvS, hM, hD, hl8, hrl, hb1⟩
  replace hL := hL.below hb1
  replace hB0 := bnext hB0 hb1
  clear hb1
  obtain ⟨AS, cS, LS, clS, BS, dS, rfl, -, -, -, -⟩ := id hvS
  simp only [spcV] at hvS ⊢
  clear HMd
  obtain ⟨⟨rsP, rP, lsP, esP⟩, ⟨rsC, rC, lsC, esC⟩, ⟨rsB, rB, lsB, esB⟩, c1, c2, nl, hsm, hsP, hsC, hsB, h64, h64P, h64B, h8P, h8B, hrP, hrC, hrB, hfR, hcS, hcT, hsh, hc1, hc2, hnl, ho1, ho2, ho3, hT0, hback⟩ := owns_facts hM hD hl8 hrl
  simp only at hsP hsC hsB h64P h64B h8P h8B hrP hrC hrB hback
  have hfl := frs_len9 100 ls 8
  have HOS := Lib.hid (fun v W h => OwnSpace_any rs 10 ls es v W h (by omega) (by omega) (by omega))
  have HOP := Lib.hid (fun v W h => OwnSpace_any rsP rP lsP esP v W h (by omega) (by omega) (by omega))
  have HOB := Lib.hid (fun v W h => OwnSpace_any rsB rB lsB esB v W h (by omega) (by omega) (by omega))
  have HFr := Lib.hid (fun v W h => frames28_any rs 10 ls es v 100 W h hl8 (by omega))
  have HFk := Lib.hid (fun v F cf W h hl hF hcf => fFork_any rs 10 ls es v (frsL 100 ls 8) F cf W h (by omega) hsm hl hF hcf (by omega))
  have HSh := Lib.hid (fun v W h hl => fShared_any rs 10 ls es v W h (by omega) hsm hl)
  have HC1 := Lib.hid (fun A c W h hl => fCounts_any [(rsP, rP, lsP, esP)] A c W h (fun k hk => by rcases k with _ | k; exact ⟨by show rsP.length ≤ _; omega, hsP⟩; simp at hk) hl)
  have HC2 := Lib.hid (fun A c W h hl => fCounts_any [(rsP, rP, lsP, esP), (rsC, rC, lsC, esC)] A c W h (fun k hk => by rcases k with _ | _ | k; exact ⟨by show rsP.length ≤ _; omega, hsP⟩; exact ⟨by show rsC.length ≤ _; omega, hsC⟩; simp at hk; omega) hl)
  have HO1 := Lib.hid (fun v F cf W h hl hF => fOwn_any rsP rP lsP esP v c2 F cf W h (by omega) hsP hl hF (by omega))
  have HO2 := Lib.hid (fun v F cf W h hl hF => fOwn_any rsP rP lsP esP v c1 F cf W h (by omega) hsP hl hF (by omega))
  have HO3 := Lib.hid (fun v F cf W h hl hF => fOwn_any rsB rB lsB esB v c1 F cf W h (by omega) hsB hl hF (by omega))
  have HSP := Lib.hid (fun v v2 W h h2 => SameSpace_eq rsP rP lsP esP v v2 W h h2 hsP (by omega) (by omega) (by omega))
  have HSB := Lib.hid (fun v v2 W h h2 => SameSpace_eq rsB rB lsB esB v v2 W h h2 hsB (by omega) (by omega) (by omega))
  rw [hcS] at HC1
  rw [hcT] at HC2
  rw [hfR] at HFk
  rw [hsh] at HSh
  rw [ho1, hc2] at HO1
  rw [ho2, hc1] at HO2
  rw [ho3, hc1] at HO3
  have HC1l := Lib.hid hc1
  have HC2l := Lib.hid hc2
  have HNl := Lib.hid hnl
  have HBk := Lib.hid hback
  have HT0 := Lib.hid hT0
  have Hsm := Lib.hid hsm
  have H64 := Lib.hid h64
  have H64B := Lib.hid h64B
  generalize frsL 100 ls 8 = fr at *
  generalize numL es 2 64 = sl at *
  clear hM hD hfR hcS hcT hsh hc1 hc2 hnl ho1 ho2 ho3 hT0 hback hsm hsP hsC hsB h64 h64P h64B h8P h8B hrP hrC hrB hfl hl8 hrl
  go_upto_region 2 with fail
  have ks := Bk.new w1 #[.slice AS rs.length cS, .int .i64 10, .slice LS ls.length clS, .slice BS es.length dS] 28
  have hcN := balloc (Below.refl _ w1) (.cells #[.slice AS rs.length cS, .int .i64 10, .slice LS ls.length clS, .slice BS es.length dS] 28)
  generalize w1.alloc (.cells #[.slice AS rs.length cS, .int .i64 10, .slice LS ls.length clS, .slice BS es.length dS] 28) = w2 at *
  replace hvS := hvS.to hcN
  replace hL := hL.below hcN
  replace hB0 := bnext hB0 hcN
  clear hcN
  have hB := below_drew (Below.refl w2.heap.size w2)
  have hu : (Tryd.prog.underlying 28).map (·.isRow) = some true := by kernel_rfl
  obtain ⟨dd, hu, hd⟩ := Option.map_eq_some_iff.1 hu
  have hal : ∀ (W : World) (ev : Operand → Value) (o : Oper), o.op = Op.alloc 28 → (execOp ev o).run Tryd.prog W = .ok (.value (.pointer (some ⟨W.heap.size, 0, none⟩))) (W.alloc (.cells #[.slice none 0 0, .int .i64 0, .slice none 0 0, .slice none 0 0] 28)) := fun W ev o ho => by unfold execOp; simp [ho, go_sem]
  have hcf1 : ∀ (x : Value) (W : World), (callFunc 12 #[x]).run Tryd.prog W = .ok (.enter 12 #[x]) W := fun x W => by go_simp
  have hcf2 : ∀ (x y : Value) (W : World), (callFunc 27 #[x, y]).run Tryd.prog W = .ok (.enter 27 #[x, y]) W := fun x y W => by go_simp
  have hcf3 : ∀ (x y : Value) (W : World), (callFunc 16 #[x, y]).run Tryd.prog W = .ok (.enter 16 #[x, y]) W := fun x y W => by go_simp
  have l9_ks := ks.lt
  refine wp_region_held_drew (S := fun w' => Bk w' w1.heap.size #[.slice AS rs.length cS, .int .i64 10, .slice LS ls.length clS, .slice BS es.length dS] 28) (by kernel_rfl) (ks.drew) (fun _ => ?_)
  refine takeD 0 (some 26) (.agg #[.slice AS rs.length cS, .int .i64 10, .slice LS ls.length clS, .slice BS es.length dS]) rfl rfl (by kernel_rfl) (by kernel_rfl) (by kernel_rfl) (fun _ _ _ h => h) (yieldsIf_load_mid (by rfl) 28 _ rfl w1.heap.size 0 rfl [.slice AS rs.length cS, .int .i64 10, .slice LS ls.length clS, .slice BS es.length dS] dd (fun w' e => e.range) hu hd (by kernel_rfl)) (ks.drew) ?_
  try simp only [Act.put, List.setIfInBounds_toArray, List.set_cons_zero, List.set_cons_succ]
  refine takeD 2 (some 28) (.agg #[.slice AS rs.length cS, .int .i64 10, .slice LS ls.length clS, .slice BS es.length dS]) rfl rfl (by kernel_rfl) (by kernel_rfl) (by kernel_rfl) (fun _ _ _ h => h) (yieldsIf_load_mid (by rfl) 28 _ rfl w1.heap.size 0 rfl [.slice AS rs.length cS, .int .i64 10, .slice LS ls.length clS, .slice BS es.length dS] dd (fun w' e => e.range) hu hd (by kernel_rfl)) (ks.drew) ?_
  try simp only [Act.put, List.setIfInBounds_toArray, List.set_cons_zero, List.set_cons_succ]
  generalize hw_d : w2.drew = wd at *
  refine shareD (X := Nat × Nat × Value × Option Addr × Nat × Value × Value) (fun x W => Bk W x.1 #[.slice none 0 0, .int .i64 0, .slice none 0 0, .slice none 0 0] 28 ∧ Bk W x.2.1 #[.slice none 0 0, .int .i64 0, .slice none 0 0, .slice none 0 0] 28 ∧ x.1 ≠ x.2.1 ∧ w2.heap.size ≤ x.1 ∧ w2.heap.size ≤ x.2.1 ∧ SpV W x.2.2.2.2.2.1 (rsP, rP, lsP, esP) ∧ SpV W x.2.2.2.2.2.2 (rsC, rC, lsC, esC) ∧ SNo x.1 x.2.2.2.2.2.1 ∧ SNo x.2.1 x.2.2.2.2.2.1 ∧ SNo x.1 x.2.2.2.2.2.2 ∧ SNo x.2.1 x.2.2.2.2.2.2 ∧ Below w2.heap.size w2 W) 3 #[true, true, true, true, true, true, true, true, true, true, true, false, false, false] (fun a x => (((((((((a.put (some 27) x.2.2.1).put (some 29) (.slice x.2.2.2.1 fr.length x.2.2.2.2.1)).put (some 30) (.tuple #[x.2.2.2.2.2.1, x.2.2.2.2.2.2, .int .i64 0])).put (some 25) (.tuple #[x.2.2.2.2.2.1, x.2.2.2.2.2.2, .int .i64 0])).put (some 31) x.2.2.2.2.2.1).put (some 32) x.2.2.2.2.2.2).put (some 33) (.int .i64 0)).put (some 4) (.pointer (some ⟨x.1, 0, none⟩))).put (some 5) (.pointer (some ⟨x.2.1, 0, none⟩)))) ?_ ?_
  · intro HK
    simp only [Act.put, List.setIfInBounds_toArray, List.set_cons_zero, List.set_cons_succ] at HK
    refine wpAnyH_all (rs := [1, 9, 10]) (by kernel_rfl) (by simp) (fun i hiR => ?_)
    simp only [List.mem_cons, List.not_mem_nil, or_false] at hiR
    rcases hiR with rfl | rfl | rfl
    · skip
      refine callD 1 (some 27) rfl rfl rfl (f := 12) (args := #[.agg #[.slice AS rs.length cS, .int .i64 10, .slice LS ls.length clS, .slice BS es.length dS]]) (run_call1 (vx := .agg #[.slice AS rs.length cS, .int .i64 10, .slice LS ls.length clS, .slice BS es.length dS]) (x := .tmp 26) rfl rfl rfl (hcf1 _) _) (HOS.out _ _ (SpV.to hvS (show Below w2.heap.size w2 wd from hB))) ?_
      rintro e wc1 ⟨vX, rfl, hvX, hb_wc1⟩
      refine ⟨_, rfl, ((ks.to hB).to hb_wc1), ?_⟩
      replace hB := hB.trans (hb_wc1.mono hB.size)
      clear hb_wc1
      try simp only [Act.put, List.setIfInBounds_toArray, List.set_cons_zero, List.set_cons_succ]
      refine wpAnyH_all (rs := [3, 9, 10]) (by kernel_rfl) (by simp) (fun i hiR => ?_)
      simp only [List.mem_cons, List.not_mem_nil, or_false] at hiR
      rcases hiR with rfl | rfl | rfl
      · skip
        refine callD 3 (some 29) rfl rfl rfl (f := 27) (args := #[.agg #[.slice AS rs.length cS, .int .i64 10, .slice LS ls.length clS, .slice BS es.length dS], .int .i64 100]) (run_call2 (vx := .agg #[.slice AS rs.length cS, .int .i64 10, .slice LS ls.length clS, .slice BS es.length dS]) (vy := .int .i64 100) (x := .tmp 28) (y := _) rfl rfl rfl rfl (hcf2 _ _) _) (HFr.out _ _ (SpV.to hvS (show Below w2.heap.size w2 wc1 from hB))) ?_
        rintro e wc2 ⟨AF, cF, rfl, hcF, hF, hb_wc2⟩
        refine ⟨_, rfl, ((ks.to hB).to hb_wc2), ?_⟩
        replace hvX := hvX.to hb_wc2
        replace hB := hB.trans (hb_wc2.mono hB.size)
        clear hb_wc2
        try simp only [Act.put, List.setIfInBounds_toArray, List.set_cons_zero, List.set_cons_succ]
        refine wpAnyH_all (rs := [4, 9, 10]) (by kernel_rfl) (by simp) (fun i hiR => ?_)
        simp only [List.mem_cons, List.not_mem_nil, or_false] at hiR
        rcases hiR with rfl | rfl | rfl
        · skip
          refine callD 4 (some 30) rfl rfl rfl (f := 16) (args := #[vX, .slice AF fr.length cF]) (run_call2 (vx := vX) (vy := .slice AF fr.length cF) (x := .tmp 27) (y := .tmp 29) rfl rfl rfl rfl (hcf3 _ _) _) (HFk.out _ _ _ _ hvX (hL.below (show Below w2.heap.size w2 wc2 from hB)) hF hcF) ?_
          rintro e wc3 ⟨vP, vC, rfl, hvP, hvC, hlP, hlC, hb_wc3⟩
          refine ⟨_, rfl, ((ks.to hB).to hb_wc3), ?_⟩
          clear hlP hlC
          replace hvX := hvX.to hb_wc3
          replace hF := hF.below hb_wc3 (Nat.le_refl _)
          replace hB := hB.trans (hb_wc3.mono hB.size)
          clear hb_wc3
          try simp only [Act.put, List.setIfInBounds_toArray, List.set_cons_zero, List.set_cons_succ]
          refine takeD 5 (some 25) (.tuple #[vP, vC, .int .i64 0]) rfl rfl (by kernel_rfl) (by kernel_rfl) (by kernel_rfl) (fun _ _ _ h => h) (.inl ⟨rfl, fun w' hS => by go_simp⟩) (ks.to hB) ?_
          try simp only [Act.put, List.setIfInBounds_toArray, List.set_cons_zero, List.set_cons_succ]
          refine takeD 6 (some 31) (vP) rfl rfl (by kernel_rfl) (by kernel_rfl) (by kernel_rfl) (fun _ _ _ h => h) (.inl ⟨rfl, fun w' hS => by go_simp⟩) (ks.to hB) ?_
          try simp only [Act.put, List.setIfInBounds_toArray, List.set_cons_zero, List.set_cons_succ]
          refine takeD 7 (some 32) (vC) rfl rfl (by kernel_rfl) (by kernel_rfl) (by kernel_rfl) (fun _ _ _ h => h) (.inl ⟨rfl, fun w' hS => by go_simp⟩) (ks.to hB) ?_
          try simp only [Act.put, List.setIfInBounds_toArray, List.set_cons_zero, List.set_cons_succ]
          refine takeD 8 (some 33) (.int .i64 0) rfl rfl (by kernel_rfl) (by kernel_rfl) (by kernel_rfl) (fun _ _ _ h => h) (.inl ⟨rfl, fun w' hS => by go_simp⟩) (ks.to hB) ?_
          try simp only [Act.put, List.setIfInBounds_toArray, List.set_cons_zero, List.set_cons_succ]
          refine wpAnyH_all (rs := [9, 10]) (by kernel_rfl) (by simp) (fun i hiR => ?_)
          simp only [List.mem_cons, List.not_mem_nil, or_false] at hiR
          rcases hiR with rfl | rfl
          · skip
            refine valD 9 (some 4) rfl rfl rfl (hal _ _ _ rfl) ⟨((ks.to hB).alloc _), ?_⟩
            have kA := Bk.new wc3 #[.slice none 0 0, .int .i64 0, .slice none 0 0, .slice none 0 0] 28
            have hcN := balloc (Below.refl _ wc3) (.cells #[.slice none 0 0, .int .i64 0, .slice none 0 0, .slice none 0 0] 28)
            have hgA : w2.heap.size ≤ wc3.heap.size := hB.size
            have hnAP := SNo.new hvP (Nat.le_refl _)
            have hnAC := SNo.new hvC (Nat.le_refl _)
            generalize hw_wn4 : wc3.alloc (.cells #[.slice none 0 0, .int .i64 0, .slice none 0 0, .slice none 0 0] 28) = wn4 at *
            replace hvX := hvX.to hcN
            replace hF := hF.below hcN (Nat.le_refl _)
            replace hvP := hvP.to hcN
            replace hvC := hvC.to hcN
            replace hB := hB.trans (hcN.mono hB.size)
            clear hcN
            try simp only [Act.put, List.setIfInBounds_toArray, List.set_cons_zero, List.set_cons_succ]
            refine wpAnyH_all (rs := [10]) (by kernel_rfl) (by simp) (fun i hiR => ?_)
            obtain rfl : i = 10 := by simpa using hiR
            refine valD 10 (some 5) rfl rfl rfl (hal _ _ _ rfl) ⟨((ks.to hB).alloc _), ?_⟩
            have kB := Bk.new wn4 #[.slice none 0 0, .int .i64 0, .slice none 0 0, .slice none 0 0] 28
            have hcN := balloc (Below.refl _ wn4) (.cells #[.slice none 0 0, .int .i64 0, .slice none 0 0, .slice none 0 0] 28)
            have hgB : w2.heap.size ≤ wn4.heap.size := hB.size
            have hneAB : wc3.heap.size ≠ wn4.heap.size := Nat.ne_of_lt kA.lt
            have hnBP := SNo.new hvP (Nat.le_refl _)
            have hnBC := SNo.new hvC (Nat.le_refl _)
            generalize hw_wn5 : wn4.alloc (.cells #[.slice none 0 0, .int .i64 0, .slice none 0 0, .slice none 0 0] 28) = wn5 at *
            replace kA := kA.to hcN
            replace hvX := hvX.to hcN
            replace hF := hF.below hcN (Nat.le_refl _)
            replace hvP := hvP.to hcN
            replace hvC := hvC.to hcN
            replace hB := hB.trans (hcN.mono hB.size)
            clear hcN
            try simp only [Act.put, List.setIfInBounds_toArray, List.set_cons_zero, List.set_cons_succ]
            exact HK (wc3.heap.size, wn4.heap.size, vX, AF, cF, vP, vC) _ ⟨kA, kB, hneAB, hgA, hgB, hvP, hvC, hnAP, hnBP, hnAC, hnBC, hB⟩
          · skip
            refine valD 10 (some 5) rfl rfl rfl (hal _ _ _ rfl) ⟨((ks.to hB).alloc _), ?_⟩
            have kB := Bk.new wc3 #[.slice none 0 0, .int .i64 0, .slice none 0 0, .slice none 0 0] 28
            have hcN := balloc (Below.refl _ wc3) (.cells #[.slice none 0 0, .int .i64 0, .slice none 0 0, .slice none 0 0] 28)
            have hgB : w2.heap.size ≤ wc3.heap.size := hB.size
            have hnBP := SNo.new hvP (Nat.le_refl _)
            have hnBC := SNo.new hvC (Nat.le_refl _)
            generalize hw_wn6 : wc3.alloc (.cells #[.slice none 0 0, .int .i64 0, .slice none 0 0, .slice none 0 0] 28) = wn6 at *
            replace hvX := hvX.to hcN
            replace hF := hF.below hcN (Nat.le_refl _)
            replace hvP := hvP.to hcN
            replace hvC := hvC.to hcN
            replace hB := hB.trans (hcN.mono hB.size)
            clear hcN
            try simp only [Act.put, List.setIfInBounds_toArray, List.set_cons_zero, List.set_cons_succ]
            refine wpAnyH_all (rs := [9]) (by kernel_rfl) (by simp) (fun i hiR => ?_)
            obtain rfl : i = 9 := by simpa using hiR
            refine valD 9 (some 4) rfl rfl rfl (hal _ _ _ rfl) ⟨((ks.to hB).alloc _), ?_⟩
            have kA := Bk.new wn6 #[.slice none 0 0, .int .i64 0, .slice none 0 0, .slice none 0 0] 28
            have hcN := balloc (Below.refl _ wn6) (.cells #[.slice none 0 0, .int .i64 0, .slice none 0 0, .slice none 0 0] 28)
            have hgA : w2.heap.size ≤ wn6.heap.size := hB.size
            have hneAB : wn6.heap.size ≠ wc3.heap.size := (Nat.ne_of_lt kB.lt).symm
            have hnAP := SNo.new hvP (Nat.le_refl _)
            have hnAC := SNo.new hvC (Nat.le_refl _)
            generalize hw_wn7 : wn6.alloc (.cells #[.slice none 0 0, .int .i64 0, .slice none 0 0, .slice none 0 0] 28) = wn7 at *
            replace kB := kB.to hcN
            replace hvX := hvX.to hcN
            replace hF := hF.below hcN (Nat.le_refl _)
            replace hvP := hvP.to hcN
            replace hvC := hvC.to hcN
            replace hB := hB.trans (hcN.mono hB.size)
            clear hcN
            try simp only [Act.put, List.setIfInBounds_toArray, List.set_cons_zero, List.set_cons_succ]
            exact HK (wn6.heap.size, wc3.heap.size, vX, AF, cF, vP, vC) _ ⟨kA, kB, hneAB, hgA, hgB, hvP, hvC, hnAP, hnBP, hnAC, hnBC, hB⟩
        · skip
          refine valD 9 (some 4) rfl rfl rfl (hal _ _ _ rfl) ⟨((ks.to hB).alloc _), ?_⟩
          have kA := Bk.new wc2 #[.slice none 0 0, .int .i64 0, .slice none 0 0, .slice none 0 0] 28
          have hcN := balloc (Below.refl _ wc2) (.cells #[.slice none 0 0, .int .i64 0, .slice none 0 0, .slice none 0 0] 28)
          have hgA : w2.heap.size ≤ wc2.heap.size := hB.size
          generalize hw_wn8 : wc2.alloc (.cells #[.slice none 0 0, .int .i64 0, .slice none 0 0, .slice none 0 0] 28) = wn8 at *
          replace hvX := hvX.to hcN
          replace hF := hF.below hcN (Nat.le_refl _)
          replace hB := hB.trans (hcN.mono hB.size)
          clear hcN
          try simp only [Act.put, List.setIfInBounds_toArray, List.set_cons_zero, List.set_cons_succ]
          refine wpAnyH_all (rs := [4, 10]) (by kernel_rfl) (by simp) (fun i hiR => ?_)
          simp only [List.mem_cons, List.not_mem_nil, or_false] at hiR
          rcases hiR with rfl | rfl
          · skip
            refine callD 4 (some 30) rfl rfl rfl (f := 16) (args := #[vX, .slice AF fr.length cF]) (run_call2 (vx := vX) (vy := .slice AF fr.length cF) (x := .tmp 27) (y := .tmp 29) rfl rfl rfl rfl (hcf3 _ _) _) (HFk.out _ _ _ _ hvX (hL.below (show Below w2.heap.size w2 wn8 from hB)) hF hcF) ?_
            rintro e wc9 ⟨vP, vC, rfl, hvP, hvC, hlP, hlC, hb_wc9⟩
            refine ⟨_, rfl, ((ks.to hB).to hb_wc9), ?_⟩
            have hnAP := SNo.loc hlP kA.lt
            have hnAC := SNo.loc hlC kA.lt
            clear hlP hlC
            replace kA := kA.to hb_wc9
            replace hvX := hvX.to hb_wc9
            replace hF := hF.below hb_wc9 (Nat.le_refl _)
            replace hB := hB.trans (hb_wc9.mono hB.size)
            clear hb_wc9
            try simp only [Act.put, List.setIfInBounds_toArray, List.set_cons_zero, List.set_cons_succ]
            refine takeD 5 (some 25) (.tuple #[vP, vC, .int .i64 0]) rfl rfl (by kernel_rfl) (by kernel_rfl) (by kernel_rfl) (fun _ _ _ h => h) (.inl ⟨rfl, fun w' hS => by go_simp⟩) (ks.to hB) ?_
            try simp only [Act.put, List.setIfInBounds_toArray, List.set_cons_zero, List.set_cons_succ]
            refine takeD 6 (some 31) (vP) rfl rfl (by kernel_rfl) (by kernel_rfl) (by kernel_rfl) (fun _ _ _ h => h) (.inl ⟨rfl, fun w' hS => by go_simp⟩) (ks.to hB) ?_
            try simp only [Act.put, List.setIfInBounds_toArray, List.set_cons_zero, List.set_cons_succ]
            refine takeD 7 (some 32) (vC) rfl rfl (by kernel_rfl) (by kernel_rfl) (by kernel_rfl) (fun _ _ _ h => h) (.inl ⟨rfl, fun w' hS => by go_simp⟩) (ks.to hB) ?_
            try simp only [Act.put, List.setIfInBounds_toArray, List.set_cons_zero, List.set_cons_succ]
            refine takeD 8 (some 33) (.int .i64 0) rfl rfl (by kernel_rfl) (by kernel_rfl) (by kernel_rfl) (fun _ _ _ h => h) (.inl ⟨rfl, fun w' hS => by go_simp⟩) (ks.to hB) ?_
            try simp only [Act.put, List.setIfInBounds_toArray, List.set_cons_zero, List.set_cons_succ]
            refine wpAnyH_all (rs := [10]) (by kernel_rfl) (by simp) (fun i hiR => ?_)
            obtain rfl : i = 10 := by simpa using hiR
            refine valD 10 (some 5) rfl rfl rfl (hal _ _ _ rfl) ⟨((ks.to hB).alloc _), ?_⟩
            have kB := Bk.new wc9 #[.slice none 0 0, .int .i64 0, .slice none 0 0, .slice none 0 0] 28
            have hcN := balloc (Below.refl _ wc9) (.cells #[.slice none 0 0, .int .i64 0, .slice none 0 0, .slice none 0 0] 28)
            have hgB : w2.heap.size ≤ wc9.heap.size := hB.size
            have hneAB : wc2.heap.size ≠ wc9.heap.size := Nat.ne_of_lt kA.lt
            have hnBP := SNo.new hvP (Nat.le_refl _)
            have hnBC := SNo.new hvC (Nat.le_refl _)
            generalize hw_wn10 : wc9.alloc (.cells #[.slice none 0 0, .int .i64 0, .slice none 0 0, .slice none 0 0] 28) = wn10 at *
            replace kA := kA.to hcN
            replace hvX := hvX.to hcN
            replace hF := hF.below hcN (Nat.le_refl _)
            replace hvP := hvP.to hcN
            replace hvC := hvC.to hcN
            replace hB := hB.trans (hcN.mono hB.size)
            clear hcN
            try simp only [Act.put, List.setIfInBounds_toArray, List.set_cons_zero, List.set_cons_succ]
            exact HK (wc2.heap.size, wc9.heap.size, vX, AF, cF, vP, vC) _ ⟨kA, kB, hneAB, hgA, hgB, hvP, hvC, hnAP, hnBP, hnAC, hnBC, hB⟩
          · skip
            refine valD 10 (some 5) rfl rfl rfl (hal _ _ _ rfl) ⟨((ks.to hB).alloc _), ?_⟩
            have kB := Bk.new wn8 #[.slice none 0 0, .int .i64 0, .slice none 0 0, .slice none 0 0] 28
            have hcN := balloc (Below.refl _ wn8) (.cells #[.slice none 0 0, .int .i64 0, .slice none 0 0, .slice none 0 0] 28)
            have hgB : w2.heap.size ≤ wn8.heap.size := hB.size
            have hneAB : wc2.heap.size ≠ wn8.heap.size := Nat.ne_of_lt kA.lt
            generalize hw_wn11 : wn8.alloc (.cells #[.slice none 0 0, .int .i64 0, .slice none 0 0, .slice none 0 0] 28) = wn11 at *
            replace kA := kA.to hcN
            replace hvX := hvX.to hcN
            replace hF := hF.below hcN (Nat.le_refl _)
            replace hB := hB.trans (hcN.mono hB.size)
            clear hcN
            try simp only [Act.put, List.setIfInBounds_toArray, List.set_cons_zero, List.set_cons_succ]
            refine wpAnyH_all (rs := [4]) (by kernel_rfl) (by simp) (fun i hiR => ?_)
            obtain rfl : i = 4 := by simpa using hiR
            refine callD 4 (some 30) rfl rfl rfl (f := 16) (args := #[vX, .slice AF fr.length cF]) (run_call2 (vx := vX) (vy := .slice AF fr.length cF) (x := .tmp 27) (y := .tmp 29) rfl rfl rfl rfl (hcf3 _ _) _) (HFk.out _ _ _ _ hvX (hL.below (show Below w2.heap.size w2 wn11 from hB)) hF hcF) ?_
            rintro e wc12 ⟨vP, vC, rfl, hvP, hvC, hlP, hlC, hb_wc12⟩
            refine ⟨_, rfl, ((ks.to hB).to hb_wc12), ?_⟩
            have hnAP := SNo.loc hlP kA.lt
            have hnAC := SNo.loc hlC kA.lt
            have hnBP := SNo.loc hlP kB.lt
            have hnBC := SNo.loc hlC kB.lt
            clear hlP hlC
            replace kA := kA.to hb_wc12
            replace kB := kB.to hb_wc12
            replace hvX := hvX.to hb_wc12
            replace hF := hF.below hb_wc12 (Nat.le_refl _)
            replace hB := hB.trans (hb_wc12.mono hB.size)
            clear hb_wc12
            try simp only [Act.put, List.setIfInBounds_toArray, List.set_cons_zero, List.set_cons_succ]
            refine takeD 5 (some 25) (.tuple #[vP, vC, .int .i64 0]) rfl rfl (by kernel_rfl) (by kernel_rfl) (by kernel_rfl) (fun _ _ _ h => h) (.inl ⟨rfl, fun w' hS => by go_simp⟩) (ks.to hB) ?_
            try simp only [Act.put, List.setIfInBounds_toArray, List.set_cons_zero, List.set_cons_succ]
            refine takeD 6 (some 31) (vP) rfl rfl (by kernel_rfl) (by kernel_rfl) (by kernel_rfl) (fun _ _ _ h => h) (.inl ⟨rfl, fun w' hS => by go_simp⟩) (ks.to hB) ?_
            try simp only [Act.put, List.setIfInBounds_toArray, List.set_cons_zero, List.set_cons_succ]
            refine takeD 7 (some 32) (vC) rfl rfl (by kernel_rfl) (by kernel_rfl) (by kernel_rfl) (fun _ _ _ h => h) (.inl ⟨rfl, fun w' hS => by go_simp⟩) (ks.to hB) ?_
            try simp only [Act.put, List.setIfInBounds_toArray, List.set_cons_zero, List.set_cons_succ]
            refine takeD 8 (some 33) (.int .i64 0) rfl rfl (by kernel_rfl) (by kernel_rfl) (by kernel_rfl) (fun _ _ _ h => h) (.inl ⟨rfl, fun w' hS => by go_simp⟩) (ks.to hB) ?_
            try simp only [Act.put, List.setIfInBounds_toArray, List.set_cons_zero, List.set_cons_succ]
            exact HK (wc2.heap.size, wn8.heap.size, vX, AF, cF, vP, vC) _ ⟨kA, kB, hneAB, hgA, hgB, hvP, hvC, hnAP, hnBP, hnAC, hnBC, hB⟩
        · skip
          refine valD 10 (some 5) rfl rfl rfl (hal _ _ _ rfl) ⟨((ks.to hB).alloc _), ?_⟩
          have kB := Bk.new wc2 #[.slice none 0 0, .int .i64 0, .slice none 0 0, .slice none 0 0] 28
          have hcN := balloc (Below.refl _ wc2) (.cells #[.slice none 0 0, .int .i64 0, .slice none 0 0, .slice none 0 0] 28)
          have hgB : w2.heap.size ≤ wc2.heap.size := hB.size
          generalize hw_wn13 : wc2.alloc (.cells #[.slice none 0 0, .int .i64 0, .slice none 0 0, .slice none 0 0] 28) = wn13 at *
          replace hvX := hvX.to hcN
          replace hF := hF.below hcN (Nat.le_refl _)
          replace hB := hB.trans (hcN.mono hB.size)
          clear hcN
          try simp only [Act.put, List.setIfInBounds_toArray, List.set_cons_zero, List.set_cons_succ]
          refine wpAnyH_all (rs := [4, 9]) (by kernel_rfl) (by simp) (fun i hiR => ?_)
          simp only [List.mem_cons, List.not_mem_nil, or_false] at hiR
          rcases hiR with rfl | rfl
          · skip
            refine callD 4 (some 30) rfl rfl rfl (f := 16) (args := #[vX, .slice AF fr.length cF]) (run_call2 (vx := vX) (vy := .slice AF fr.length cF) (x := .tmp 27) (y := .tmp 29) rfl rfl rfl rfl (hcf3 _ _) _) (HFk.out _ _ _ _ hvX (hL.below (show Below w2.heap.size w2 wn13 from hB)) hF hcF) ?_
            rintro e wc14 ⟨vP, vC, rfl, hvP, hvC, hlP, hlC, hb_wc14⟩
            refine ⟨_, rfl, ((ks.to hB).to hb_wc14), ?_⟩
            have hnBP := SNo.loc hlP kB.lt
            have hnBC := SNo.loc hlC kB.lt
            clear hlP hlC
            replace kB := kB.to hb_wc14
            replace hvX := hvX.to hb_wc14
            replace hF := hF.below hb_wc14 (Nat.le_refl _)
            replace hB := hB.trans (hb_wc14.mono hB.size)
            clear hb_wc14
            try simp only [Act.put, List.setIfInBounds_toArray, List.set_cons_zero, List.set_cons_succ]
            refine takeD 5 (some 25) (.tuple #[vP, vC, .int .i64 0]) rfl rfl (by kernel_rfl) (by kernel_rfl) (by kernel_rfl) (fun _ _ _ h => h) (.inl ⟨rfl, fun w' hS => by go_simp⟩) (ks.to hB) ?_
            try simp only [Act.put, List.setIfInBounds_toArray, List.set_cons_zero, List.set_cons_succ]
            refine takeD 6 (some 31) (vP) rfl rfl (by kernel_rfl) (by kernel_rfl) (by kernel_rfl) (fun _ _ _ h => h) (.inl ⟨rfl, fun w' hS => by go_simp⟩) (ks.to hB) ?_
            try simp only [Act.put, List.setIfInBounds_toArray, List.set_cons_zero, List.set_cons_succ]
            refine takeD 7 (some 32) (vC) rfl rfl (by kernel_rfl) (by kernel_rfl) (by kernel_rfl) (fun _ _ _ h => h) (.inl ⟨rfl, fun w' hS => by go_simp⟩) (ks.to hB) ?_
            try simp only [Act.put, List.setIfInBounds_toArray, List.set_cons_zero, List.set_cons_succ]
            refine takeD 8 (some 33) (.int .i64 0) rfl rfl (by kernel_rfl) (by kernel_rfl) (by kernel_rfl) (fun _ _ _ h => h) (.inl ⟨rfl, fun w' hS => by go_simp⟩) (ks.to hB) ?_
            try simp only [Act.put, List.setIfInBounds_toArray, List.set_cons_zero, List.set_cons_succ]
            refine wpAnyH_all (rs := [9]) (by kernel_rfl) (by simp) (fun i hiR => ?_)
            obtain rfl : i = 9 := by simpa using hiR
            refine valD 9 (some 4) rfl rfl rfl (hal _ _ _ rfl) ⟨((ks.to hB).alloc _), ?_⟩
            have kA := Bk.new wc14 #[.slice none 0 0, .int .i64 0, .slice none 0 0, .slice none 0 0] 28
            have hcN := balloc (Below.refl _ wc14) (.cells #[.slice none 0 0, .int .i64 0, .slice none 0 0, .slice none 0 0] 28)
            have hgA : w2.heap.size ≤ wc14.heap.size := hB.size
            have hneAB : wc14.heap.size ≠ wc2.heap.size := (Nat.ne_of_lt kB.lt).symm
            have hnAP := SNo.new hvP (Nat.le_refl _)
            have hnAC := SNo.new hvC (Nat.le_refl _)
            generalize hw_wn15 : wc14.alloc (.cells #[.slice none 0 0, .int .i64 0, .slice none 0 0, .slice none 0 0] 28) = wn15 at *
            replace kB := kB.to hcN
            replace hvX := hvX.to hcN
            replace hF := hF.below hcN (Nat.le_refl _)
            replace hvP := hvP.to hcN
            replace hvC := hvC.to hcN
            replace hB := hB.trans (hcN.mono hB.size)
            clear hcN
            try simp only [Act.put, List.setIfInBounds_toArray, List.set_cons_zero, List.set_cons_succ]
            exact HK (wc14.heap.size, wc2.heap.size, vX, AF, cF, vP, vC) _ ⟨kA, kB, hneAB, hgA, hgB, hvP, hvC, hnAP, hnBP, hnAC, hnBC, hB⟩
          · skip
            refine valD 9 (some 4) rfl rfl rfl (hal _ _ _ rfl) ⟨((ks.to hB).alloc _), ?_⟩
            have kA := Bk.new wn13 #[.slice none 0 0, .int .i64 0, .slice none 0 0, .slice none 0 0] 28
            have hcN := balloc (Below.refl _ wn13) (.cells #[.slice none 0 0, .int .i64 0, .slice none 0 0, .slice none 0 0] 28)
            have hgA : w2.heap.size ≤ wn13.heap.size := hB.size
            have hneAB : wn13.heap.size ≠ wc2.heap.size := (Nat.ne_of_lt kB.lt).symm
            generalize hw_wn16 : wn13.alloc (.cells #[.slice none 0 0, .int .i64 0, .slice none 0 0, .slice none 0 0] 28) = wn16 at *
            replace kB := kB.to hcN
            replace hvX := hvX.to hcN
            replace hF := hF.below hcN (Nat.le_refl _)
            replace hB := hB.trans (hcN.mono hB.size)
            clear hcN
            try simp only [Act.put, List.setIfInBounds_toArray, List.set_cons_zero, List.set_cons_succ]
            refine wpAnyH_all (rs := [4]) (by kernel_rfl) (by simp) (fun i hiR => ?_)
            obtain rfl : i = 4 := by simpa using hiR
            refine callD 4 (some 30) rfl rfl rfl (f := 16) (args := #[vX, .slice AF fr.length cF]) (run_call2 (vx := vX) (vy := .slice AF fr.length cF) (x := .tmp 27) (y := .tmp 29) rfl rfl rfl rfl (hcf3 _ _) _) (HFk.out _ _ _ _ hvX (hL.below (show Below w2.heap.size w2 wn16 from hB)) hF hcF) ?_
            rintro e wc17 ⟨vP, vC, rfl, hvP, hvC, hlP, hlC, hb_wc17⟩
            refine ⟨_, rfl, ((ks.to hB).to hb_wc17), ?_⟩
            have hnBP := SNo.loc hlP kB.lt
            have hnBC := SNo.loc hlC kB.lt
            have hnAP := SNo.loc hlP kA.lt
            have hnAC := SNo.loc hlC kA.lt
            clear hlP hlC
            replace kB := kB.to hb_wc17
            replace kA := kA.to hb_wc17
            replace hvX := hvX.to hb_wc17
            replace hF := hF.below hb_wc17 (Nat.le_refl _)
            replace hB := hB.trans (hb_wc17.mono hB.size)
            clear hb_wc17
            try simp only [Act.put, List.setIfInBounds_toArray, List.set_cons_zero, List.set_cons_succ]
            refine takeD 5 (some 25) (.tuple #[vP, vC, .int .i64 0]) rfl rfl (by kernel_rfl) (by kernel_rfl) (by kernel_rfl) (fun _ _ _ h => h) (.inl ⟨rfl, fun w' hS => by go_simp⟩) (ks.to hB) ?_
            try simp only [Act.put, List.setIfInBounds_toArray, List.set_cons_zero, List.set_cons_succ]
            refine takeD 6 (some 31) (vP) rfl rfl (by kernel_rfl) (by kernel_rfl) (by kernel_rfl) (fun _ _ _ h => h) (.inl ⟨rfl, fun w' hS => by go_simp⟩) (ks.to hB) ?_
            try simp only [Act.put, List.setIfInBounds_toArray, List.set_cons_zero, List.set_cons_succ]
            refine takeD 7 (some 32) (vC) rfl rfl (by kernel_rfl) (by kernel_rfl) (by kernel_rfl) (fun _ _ _ h => h) (.inl ⟨rfl, fun w' hS => by go_simp⟩) (ks.to hB) ?_
            try simp only [Act.put, List.setIfInBounds_toArray, List.set_cons_zero, List.set_cons_succ]
            refine takeD 8 (some 33) (.int .i64 0) rfl rfl (by kernel_rfl) (by kernel_rfl) (by kernel_rfl) (fun _ _ _ h => h) (.inl ⟨rfl, fun w' hS => by go_simp⟩) (ks.to hB) ?_
            try simp only [Act.put, List.setIfInBounds_toArray, List.set_cons_zero, List.set_cons_succ]
            exact HK (wn13.heap.size, wc2.heap.size, vX, AF, cF, vP, vC) _ ⟨kA, kB, hneAB, hgA, hgB, hvP, hvC, hnAP, hnBP, hnAC, hnBC, hB⟩
      · skip
        refine valD 9 (some 4) rfl rfl rfl (hal _ _ _ rfl) ⟨((ks.to hB).alloc _), ?_⟩
        have kA := Bk.new wc1 #[.slice none 0 0, .int .i64 0, .slice none 0 0, .slice none 0 0] 28
        have hcN := balloc (Below.refl _ wc1) (.cells #[.slice none 0 0, .int .i64 0, .slice none 0 0, .slice none 0 0] 28)
        have hgA : w2.heap.size ≤ wc1.heap.size := hB.size
        generalize hw_wn18 : wc1.alloc (.cells #[.slice none 0 0, .int .i64 0, .slice none 0 0, .slice none 0 0] 28) = wn18 at *
        replace hvX := hvX.to hcN
        replace hB := hB.trans (hcN.mono hB.size)
        clear hcN
        try simp only [Act.put, List.setIfInBounds_toArray, List.set_cons_zero, List.set_cons_succ]
        refine wpAnyH_all (rs := [3, 10]) (by kernel_rfl) (by simp) (fun i hiR => ?_)
        simp only [List.mem_cons, List.not_mem_nil, or_false] at hiR
        rcases hiR with rfl | rfl
        · skip
          refine callD 3 (some 29) rfl rfl rfl (f := 27) (args := #[.agg #[.slice AS rs.length cS, .int .i64 10, .slice LS ls.length clS, .slice BS es.length dS], .int .i64 100]) (run_call2 (vx := .agg #[.slice AS rs.length cS, .int .i64 10, .slice LS ls.length clS, .slice BS es.length dS]) (vy := .int .i64 100) (x := .tmp 28) (y := _) rfl rfl rfl rfl (hcf2 _ _) _) (HFr.out _ _ (SpV.to hvS (show Below w2.heap.size w2 wn18 from hB))) ?_
          rintro e wc19 ⟨AF, cF, rfl, hcF, hF, hb_wc19⟩
          refine ⟨_, rfl, ((ks.to hB).to hb_wc19), ?_⟩
          replace kA := kA.to hb_wc19
          replace hvX := hvX.to hb_wc19
          replace hB := hB.trans (hb_wc19.mono hB.size)
          clear hb_wc19
          try simp only [Act.put, List.setIfInBounds_toArray, List.set_cons_zero, List.set_cons_succ]
          refine wpAnyH_all (rs := [4, 10]) (by kernel_rfl) (by simp) (fun i hiR => ?_)
          simp only [List.mem_cons, List.not_mem_nil, or_false] at hiR
          rcases hiR with rfl | rfl
          · skip
            refine callD 4 (some 30) rfl rfl rfl (f := 16) (args := #[vX, .slice AF fr.length cF]) (run_call2 (vx := vX) (vy := .slice AF fr.length cF) (x := .tmp 27) (y := .tmp 29) rfl rfl rfl rfl (hcf3 _ _) _) (HFk.out _ _ _ _ hvX (hL.below (show Below w2.heap.size w2 wc19 from hB)) hF hcF) ?_
            rintro e wc20 ⟨vP, vC, rfl, hvP, hvC, hlP, hlC, hb_wc20⟩
            refine ⟨_, rfl, ((ks.to hB).to hb_wc20), ?_⟩
            have hnAP := SNo.loc hlP kA.lt
            have hnAC := SNo.loc hlC kA.lt
            clear hlP hlC
            replace kA := kA.to hb_wc20
            replace hvX := hvX.to hb_wc20
            replace hF := hF.below hb_wc20 (Nat.le_refl _)
            replace hB := hB.trans (hb_wc20.mono hB.size)
            clear hb_wc20
            try simp only [Act.put, List.setIfInBounds_toArray, List.set_cons_zero, List.set_cons_succ]
            refine takeD 5 (some 25) (.tuple #[vP, vC, .int .i64 0]) rfl rfl (by kernel_rfl) (by kernel_rfl) (by kernel_rfl) (fun _ _ _ h => h) (.inl ⟨rfl, fun w' hS => by go_simp⟩) (ks.to hB) ?_
            try simp only [Act.put, List.setIfInBounds_toArray, List.set_cons_zero, List.set_cons_succ]
            refine takeD 6 (some 31) (vP) rfl rfl (by kernel_rfl) (by kernel_rfl) (by kernel_rfl) (fun _ _ _ h => h) (.inl ⟨rfl, fun w' hS => by go_simp⟩) (ks.to hB) ?_
            try simp only [Act.put, List.setIfInBounds_toArray, List.set_cons_zero, List.set_cons_succ]
            refine takeD 7 (some 32) (vC) rfl rfl (by kernel_rfl) (by kernel_rfl) (by kernel_rfl) (fun _ _ _ h => h) (.inl ⟨rfl, fun w' hS => by go_simp⟩) (ks.to hB) ?_
            try simp only [Act.put, List.setIfInBounds_toArray, List.set_cons_zero, List.set_cons_succ]
            refine takeD 8 (some 33) (.int .i64 0) rfl rfl (by kernel_rfl) (by kernel_rfl) (by kernel_rfl) (fun _ _ _ h => h) (.inl ⟨rfl, fun w' hS => by go_simp⟩) (ks.to hB) ?_
            try simp only [Act.put, List.setIfInBounds_toArray, List.set_cons_zero, List.set_cons_succ]
            refine wpAnyH_all (rs := [10]) (by kernel_rfl) (by simp) (fun i hiR => ?_)
            obtain rfl : i = 10 := by simpa using hiR
            refine valD 10 (some 5) rfl rfl rfl (hal _ _ _ rfl) ⟨((ks.to hB).alloc _), ?_⟩
            have kB := Bk.new wc20 #[.slice none 0 0, .int .i64 0, .slice none 0 0, .slice none 0 0] 28
            have hcN := balloc (Below.refl _ wc20) (.cells #[.slice none 0 0, .int .i64 0, .slice none 0 0, .slice none 0 0] 28)
            have hgB : w2.heap.size ≤ wc20.heap.size := hB.size
            have hneAB : wc1.heap.size ≠ wc20.heap.size := Nat.ne_of_lt kA.lt
            have hnBP := SNo.new hvP (Nat.le_refl _)
            have hnBC := SNo.new hvC (Nat.le_refl _)
            generalize hw_wn21 : wc20.alloc (.cells #[.slice none 0 0, .int .i64 0, .slice none 0 0, .slice none 0 0] 28) = wn21 at *
            replace kA := kA.to hcN
            replace hvX := hvX.to hcN
            replace hF := hF.below hcN (Nat.le_refl _)
            replace hvP := hvP.to hcN
            replace hvC := hvC.to hcN
            replace hB := hB.trans (hcN.mono hB.size)
            clear hcN
            try simp only [Act.put, List.setIfInBounds_toArray, List.set_cons_zero, List.set_cons_succ]
            exact HK (wc1.heap.size, wc20.heap.size, vX, AF, cF, vP, vC) _ ⟨kA, kB, hneAB, hgA, hgB, hvP, hvC, hnAP, hnBP, hnAC, hnBC, hB⟩
          · skip
            refine valD 10 (some 5) rfl rfl rfl (hal _ _ _ rfl) ⟨((ks.to hB).alloc _), ?_⟩
            have kB := Bk.new wc19 #[.slice none 0 0, .int .i64 0, .slice none 0 0, .slice none 0 0] 28
            have hcN := balloc (Below.refl _ wc19) (.cells #[.slice none 0 0, .int .i64 0, .slice none 0 0, .slice none 0 0] 28)
            have hgB : w2.heap.size ≤ wc19.heap.size := hB.size
            have hneAB : wc1.heap.size ≠ wc19.heap.size := Nat.ne_of_lt kA.lt
            generalize hw_wn22 : wc19.alloc (.cells #[.slice none 0 0, .int .i64 0, .slice none 0 0, .slice none 0 0] 28) = wn22 at *
            replace kA := kA.to hcN
            replace hvX := hvX.to hcN
            replace hF := hF.below hcN (Nat.le_refl _)
            replace hB := hB.trans (hcN.mono hB.size)
            clear hcN
            try simp only [Act.put, List.setIfInBounds_toArray, List.set_cons_zero, List.set_cons_succ]
            refine wpAnyH_all (rs := [4]) (by kernel_rfl) (by simp) (fun i hiR => ?_)
            obtain rfl : i = 4 := by simpa using hiR
            refine callD 4 (some 30) rfl rfl rfl (f := 16) (args := #[vX, .slice AF fr.length cF]) (run_call2 (vx := vX) (vy := .slice AF fr.length cF) (x := .tmp 27) (y := .tmp 29) rfl rfl rfl rfl (hcf3 _ _) _) (HFk.out _ _ _ _ hvX (hL.below (show Below w2.heap.size w2 wn22 from hB)) hF hcF) ?_
            rintro e wc23 ⟨vP, vC, rfl, hvP, hvC, hlP, hlC, hb_wc23⟩
            refine ⟨_, rfl, ((ks.to hB).to hb_wc23), ?_⟩
            have hnAP := SNo.loc hlP kA.lt
            have hnAC := SNo.loc hlC kA.lt
            have hnBP := SNo.loc hlP kB.lt
            have hnBC := SNo.loc hlC kB.lt
            clear hlP hlC
            replace kA := kA.to hb_wc23
            replace kB := kB.to hb_wc23
            replace hvX := hvX.to hb_wc23
            replace hF := hF.below hb_wc23 (Nat.le_refl _)
            replace hB := hB.trans (hb_wc23.mono hB.size)
            clear hb_wc23
            try simp only [Act.put, List.setIfInBounds_toArray, List.set_cons_zero, List.set_cons_succ]
            refine takeD 5 (some 25) (.tuple #[vP, vC, .int .i64 0]) rfl rfl (by kernel_rfl) (by kernel_rfl) (by kernel_rfl) (fun _ _ _ h => h) (.inl ⟨rfl, fun w' hS => by go_simp⟩) (ks.to hB) ?_
            try simp only [Act.put, List.setIfInBounds_toArray, List.set_cons_zero, List.set_cons_succ]
            refine takeD 6 (some 31) (vP) rfl rfl (by kernel_rfl) (by kernel_rfl) (by kernel_rfl) (fun _ _ _ h => h) (.inl ⟨rfl, fun w' hS => by go_simp⟩) (ks.to hB) ?_
            try simp only [Act.put, List.setIfInBounds_toArray, List.set_cons_zero, List.set_cons_succ]
            refine takeD 7 (some 32) (vC) rfl rfl (by kernel_rfl) (by kernel_rfl) (by kernel_rfl) (fun _ _ _ h => h) (.inl ⟨rfl, fun w' hS => by go_simp⟩) (ks.to hB) ?_
            try simp only [Act.put, List.setIfInBounds_toArray, List.set_cons_zero, List.set_cons_succ]
            refine takeD 8 (some 33) (.int .i64 0) rfl rfl (by kernel_rfl) (by kernel_rfl) (by kernel_rfl) (fun _ _ _ h => h) (.inl ⟨rfl, fun w' hS => by go_simp⟩) (ks.to hB) ?_
            try simp only [Act.put, List.setIfInBounds_toArray, List.set_cons_zero, List.set_cons_succ]
            exact HK (wc1.heap.size, wc19.heap.size, vX, AF, cF, vP, vC) _ ⟨kA, kB, hneAB, hgA, hgB, hvP, hvC, hnAP, hnBP, hnAC, hnBC, hB⟩
        · skip
          refine valD 10 (some 5) rfl rfl rfl (hal _ _ _ rfl) ⟨((ks.to hB).alloc _), ?_⟩
          have kB := Bk.new wn18 #[.slice none 0 0, .int .i64 0, .slice none 0 0, .slice none 0 0] 28
          have hcN := balloc (Below.refl _ wn18) (.cells #[.slice none 0 0, .int .i64 0, .slice none 0 0, .slice none 0 0] 28)
          have hgB : w2.heap.size ≤ wn18.heap.size := hB.size
          have hneAB : wc1.heap.size ≠ wn18.heap.size := Nat.ne_of_lt kA.lt
          generalize hw_wn24 : wn18.alloc (.cells #[.slice none 0 0, .int .i64 0, .slice none 0 0, .slice none 0 0] 28) = wn24 at *
          replace kA := kA.to hcN
          replace hvX := hvX.to hcN
          replace hB := hB.trans (hcN.mono hB.size)
          clear hcN
          try simp only [Act.put, List.setIfInBounds_toArray, List.set_cons_zero, List.set_cons_succ]
          refine wpAnyH_all (rs := [3]) (by kernel_rfl) (by simp) (fun i hiR => ?_)
          obtain rfl : i = 3 := by simpa using hiR
          refine callD 3 (some 29) rfl rfl rfl (f := 27) (args := #[.agg #[.slice AS rs.length cS, .int .i64 10, .slice LS ls.length clS, .slice BS es.length dS], .int .i64 100]) (run_call2 (vx := .agg #[.slice AS rs.length cS, .int .i64 10, .slice LS ls.length clS, .slice BS es.length dS]) (vy := .int .i64 100) (x := .tmp 28) (y := _) rfl rfl rfl rfl (hcf2 _ _) _) (HFr.out _ _ (SpV.to hvS (show Below w2.heap.size w2 wn24 from hB))) ?_
          rintro e wc25 ⟨AF, cF, rfl, hcF, hF, hb_wc25⟩
          refine ⟨_, rfl, ((ks.to hB).to hb_wc25), ?_⟩
          replace kA := kA.to hb_wc25
          replace kB := kB.to hb_wc25
          replace hvX := hvX.to hb_wc25
          replace hB := hB.trans (hb_wc25.mono hB.size)
          clear hb_wc25
          try simp only [Act.put, List.setIfInBounds_toArray, List.set_cons_zero, List.set_cons_succ]
          refine wpAnyH_all (rs := [4]) (by kernel_rfl) (by simp) (fun i hiR => ?_)
          obtain rfl : i = 4 := by simpa using hiR
          refine callD 4 (some 30) rfl rfl rfl (f := 16) (args := #[vX, .slice AF fr.length cF]) (run_call2 (vx := vX) (vy := .slice AF fr.length cF) (x := .tmp 27) (y := .tmp 29) rfl rfl rfl rfl (hcf3 _ _) _) (HFk.out _ _ _ _ hvX (hL.below (show Below w2.heap.size w2 wc25 from hB)) hF hcF) ?_
          rintro e wc26 ⟨vP, vC, rfl, hvP, hvC, hlP, hlC, hb_wc26⟩
          refine ⟨_, rfl, ((ks.to hB).to hb_wc26), ?_⟩
          have hnAP := SNo.loc hlP kA.lt
          have hnAC := SNo.loc hlC kA.lt
          have hnBP := SNo.loc hlP kB.lt
          have hnBC := SNo.loc hlC kB.lt
          clear hlP hlC
          replace kA := kA.to hb_wc26
          replace kB := kB.to hb_wc26
          replace hvX := hvX.to hb_wc26
          replace hF := hF.below hb_wc26 (Nat.le_refl _)
          replace hB := hB.trans (hb_wc26.mono hB.size)
          clear hb_wc26
          try simp only [Act.put, List.setIfInBounds_toArray, List.set_cons_zero, List.set_cons_succ]
          refine takeD 5 (some 25) (.tuple #[vP, vC, .int .i64 0]) rfl rfl (by kernel_rfl) (by kernel_rfl) (by kernel_rfl) (fun _ _ _ h => h) (.inl ⟨rfl, fun w' hS => by go_simp⟩) (ks.to hB) ?_
          try simp only [Act.put, List.setIfInBounds_toArray, List.set_cons_zero, List.set_cons_succ]
          refine takeD 6 (some 31) (vP) rfl rfl (by kernel_rfl) (by kernel_rfl) (by kernel_rfl) (fun _ _ _ h => h) (.inl ⟨rfl, fun w' hS => by go_simp⟩) (ks.to hB) ?_
          try simp only [Act.put, List.setIfInBounds_toArray, List.set_cons_zero, List.set_cons_succ]
          refine takeD 7 (some 32) (vC) rfl rfl (by kernel_rfl) (by kernel_rfl) (by kernel_rfl) (fun _ _ _ h => h) (.inl ⟨rfl, fun w' hS => by go_simp⟩) (ks.to hB) ?_
          try simp only [Act.put, List.setIfInBounds_toArray, List.set_cons_zero, List.set_cons_succ]
          refine takeD 8 (some 33) (.int .i64 0) rfl rfl (by kernel_rfl) (by kernel_rfl) (by kernel_rfl) (fun _ _ _ h => h) (.inl ⟨rfl, fun w' hS => by go_simp⟩) (ks.to hB) ?_
          try simp only [Act.put, List.setIfInBounds_toArray, List.set_cons_zero, List.set_cons_succ]
          exact HK (wc1.heap.size, wn18.heap.size, vX, AF, cF, vP, vC) _ ⟨kA, kB, hneAB, hgA, hgB, hvP, hvC, hnAP, hnBP, hnAC, hnBC, hB⟩
      · skip
        refine valD 10 (some 5) rfl rfl rfl (hal _ _ _ rfl) ⟨((ks.to hB).alloc _), ?_⟩
        have kB := Bk.new wc1 #[.slice none 0 0, .int .i64 0, .slice none 0 0, .slice none 0 0] 28
        have hcN := balloc (Below.refl _ wc1) (.cells #[.slice none 0 0, .int .i64 0, .slice none 0 0, .slice none 0 0] 28)
        have hgB : w2.heap.size ≤ wc1.heap.size := hB.size
        generalize hw_wn27 : wc1.alloc (.cells #[.slice none 0 0, .int .i64 0, .slice none 0 0, .slice none 0 0] 28) = wn27 at *
        replace hvX := hvX.to hcN
        replace hB := hB.trans (hcN.mono hB.size)
        clear hcN
        try simp only [Act.put, List.setIfInBounds_toArray, List.set_cons_zero, List.set_cons_succ]
        refine wpAnyH_all (rs := [3, 9]) (by kernel_rfl) (by simp) (fun i hiR => ?_)
        simp only [List.mem_cons, List.not_mem_nil, or_false] at hiR
        rcases hiR with rfl | rfl
        · skip
          refine callD 3 (some 29) rfl rfl rfl (f := 27) (args := #[.agg #[.slice AS rs.length cS, .int .i64 10, .slice LS ls.length clS, .slice BS es.length dS], .int .i64 100]) (run_call2 (vx := .agg #[.slice AS rs.length cS, .int .i64 10, .slice LS ls.length clS, .slice BS es.length dS]) (vy := .int .i64 100) (x := .tmp 28) (y := _) rfl rfl rfl rfl (hcf2 _ _) _) (HFr.out _ _ (SpV.to hvS (show Below w2.heap.size w2 wn27 from hB))) ?_
          rintro e wc28 ⟨AF, cF, rfl, hcF, hF, hb_wc28⟩
          refine ⟨_, rfl, ((ks.to hB).to hb_wc28), ?_⟩
          replace kB := kB.to hb_wc28
          replace hvX := hvX.to hb_wc28
          replace hB := hB.trans (hb_wc28.mono hB.size)
          clear hb_wc28
          try simp only [Act.put, List.setIfInBounds_toArray, List.set_cons_zero, List.set_cons_succ]
          refine wpAnyH_all (rs := [4, 9]) (by kernel_rfl) (by simp) (fun i hiR => ?_)
          simp only [List.mem_cons, List.not_mem_nil, or_false] at hiR
          rcases hiR with rfl | rfl
          · skip
            refine callD 4 (some 30) rfl rfl rfl (f := 16) (args := #[vX, .slice AF fr.length cF]) (run_call2 (vx := vX) (vy := .slice AF fr.length cF) (x := .tmp 27) (y := .tmp 29) rfl rfl rfl rfl (hcf3 _ _) _) (HFk.out _ _ _ _ hvX (hL.below (show Below w2.heap.size w2 wc28 from hB)) hF hcF) ?_
            rintro e wc29 ⟨vP, vC, rfl, hvP, hvC, hlP, hlC, hb_wc29⟩
            refine ⟨_, rfl, ((ks.to hB).to hb_wc29), ?_⟩
            have hnBP := SNo.loc hlP kB.lt
            have hnBC := SNo.loc hlC kB.lt
            clear hlP hlC
            replace kB := kB.to hb_wc29
            replace hvX := hvX.to hb_wc29
            replace hF := hF.below hb_wc29 (Nat.le_refl _)
            replace hB := hB.trans (hb_wc29.mono hB.size)
            clear hb_wc29
            try simp only [Act.put, List.setIfInBounds_toArray, List.set_cons_zero, List.set_cons_succ]
            refine takeD 5 (some 25) (.tuple #[vP, vC, .int .i64 0]) rfl rfl (by kernel_rfl) (by kernel_rfl) (by kernel_rfl) (fun _ _ _ h => h) (.inl ⟨rfl, fun w' hS => by go_simp⟩) (ks.to hB) ?_
            try simp only [Act.put, List.setIfInBounds_toArray, List.set_cons_zero, List.set_cons_succ]
            refine takeD 6 (some 31) (vP) rfl rfl (by kernel_rfl) (by kernel_rfl) (by kernel_rfl) (fun _ _ _ h => h) (.inl ⟨rfl, fun w' hS => by go_simp⟩) (ks.to hB) ?_
            try simp only [Act.put, List.setIfInBounds_toArray, List.set_cons_zero, List.set_cons_succ]
            refine takeD 7 (some 32) (vC) rfl rfl (by kernel_rfl) (by kernel_rfl) (by kernel_rfl) (fun _ _ _ h => h) (.inl ⟨rfl, fun w' hS => by go_simp⟩) (ks.to hB) ?_
            try simp only [Act.put, List.setIfInBounds_toArray, List.set_cons_zero, List.set_cons_succ]
            refine takeD 8 (some 33) (.int .i64 0) rfl rfl (by kernel_rfl) (by kernel_rfl) (by kernel_rfl) (fun _ _ _ h => h) (.inl ⟨rfl, fun w' hS => by go_simp⟩) (ks.to hB) ?_
            try simp only [Act.put, List.setIfInBounds_toArray, List.set_cons_zero, List.set_cons_succ]
            refine wpAnyH_all (rs := [9]) (by kernel_rfl) (by simp) (fun i hiR => ?_)
            obtain rfl : i = 9 := by simpa using hiR
            refine valD 9 (some 4) rfl rfl rfl (hal _ _ _ rfl) ⟨((ks.to hB).alloc _), ?_⟩
            have kA := Bk.new wc29 #[.slice none 0 0, .int .i64 0, .slice none 0 0, .slice none 0 0] 28
            have hcN := balloc (Below.refl _ wc29) (.cells #[.slice none 0 0, .int .i64 0, .slice none 0 0, .slice none 0 0] 28)
            have hgA : w2.heap.size ≤ wc29.heap.size := hB.size
            have hneAB : wc29.heap.size ≠ wc1.heap.size := (Nat.ne_of_lt kB.lt).symm
            have hnAP := SNo.new hvP (Nat.le_refl _)
            have hnAC := SNo.new hvC (Nat.le_refl _)
            generalize hw_wn30 : wc29.alloc (.cells #[.slice none 0 0, .int .i64 0, .slice none 0 0, .slice none 0 0] 28) = wn30 at *
            replace kB := kB.to hcN
            replace hvX := hvX.to hcN
            replace hF := hF.below hcN (Nat.le_refl _)
            replace hvP := hvP.to hcN
            replace hvC := hvC.to hcN
            replace hB := hB.trans (hcN.mono hB.size)
            clear hcN
            try simp only [Act.put, List.setIfInBounds_toArray, List.set_cons_zero, List.set_cons_succ]
            exact HK (wc29.heap.size, wc1.heap.size, vX, AF, cF, vP, vC) _ ⟨kA, kB, hneAB, hgA, hgB, hvP, hvC, hnAP, hnBP, hnAC, hnBC, hB⟩
          · skip
            refine valD 9 (some 4) rfl rfl rfl (hal _ _ _ rfl) ⟨((ks.to hB).alloc _), ?_⟩
            have kA := Bk.new wc28 #[.slice none 0 0, .int .i64 0, .slice none 0 0, .slice none 0 0] 28
            have hcN := balloc (Below.refl _ wc28) (.cells #[.slice none 0 0, .int .i64 0, .slice none 0 0, .slice none 0 0] 28)
            have hgA : w2.heap.size ≤ wc28.heap.size := hB.size
            have hneAB : wc28.heap.size ≠ wc1.heap.size := (Nat.ne_of_lt kB.lt).symm
            generalize hw_wn31 : wc28.alloc (.cells #[.slice none 0 0, .int .i64 0, .slice none 0 0, .slice none 0 0] 28) = wn31 at *
            replace kB := kB.to hcN
            replace hvX := hvX.to hcN
            replace hF := hF.below hcN (Nat.le_refl _)
            replace hB := hB.trans (hcN.mono hB.size)
            clear hcN
            try simp only [Act.put, List.setIfInBounds_toArray, List.set_cons_zero, List.set_cons_succ]
            refine wpAnyH_all (rs := [4]) (by kernel_rfl) (by simp) (fun i hiR => ?_)
            obtain rfl : i = 4 := by simpa using hiR
            refine callD 4 (some 30) rfl rfl rfl (f := 16) (args := #[vX, .slice AF fr.length cF]) (run_call2 (vx := vX) (vy := .slice AF fr.length cF) (x := .tmp 27) (y := .tmp 29) rfl rfl rfl rfl (hcf3 _ _) _) (HFk.out _ _ _ _ hvX (hL.below (show Below w2.heap.size w2 wn31 from hB)) hF hcF) ?_
            rintro e wc32 ⟨vP, vC, rfl, hvP, hvC, hlP, hlC, hb_wc32⟩
            refine ⟨_, rfl, ((ks.to hB).to hb_wc32), ?_⟩
            have hnBP := SNo.loc hlP kB.lt
            have hnBC := SNo.loc hlC kB.lt
            have hnAP := SNo.loc hlP kA.lt
            have hnAC := SNo.loc hlC kA.lt
            clear hlP hlC
            replace kB := kB.to hb_wc32
            replace kA := kA.to hb_wc32
            replace hvX := hvX.to hb_wc32
            replace hF := hF.below hb_wc32 (Nat.le_refl _)
            replace hB := hB.trans (hb_wc32.mono hB.size)
            clear hb_wc32
            try simp only [Act.put, List.setIfInBounds_toArray, List.set_cons_zero, List.set_cons_succ]
            refine takeD 5 (some 25) (.tuple #[vP, vC, .int .i64 0]) rfl rfl (by kernel_rfl) (by kernel_rfl) (by kernel_rfl) (fun _ _ _ h => h) (.inl ⟨rfl, fun w' hS => by go_simp⟩) (ks.to hB) ?_
            try simp only [Act.put, List.setIfInBounds_toArray, List.set_cons_zero, List.set_cons_succ]
            refine takeD 6 (some 31) (vP) rfl rfl (by kernel_rfl) (by kernel_rfl) (by kernel_rfl) (fun _ _ _ h => h) (.inl ⟨rfl, fun w' hS => by go_simp⟩) (ks.to hB) ?_
            try simp only [Act.put, List.setIfInBounds_toArray, List.set_cons_zero, List.set_cons_succ]
            refine takeD 7 (some 32) (vC) rfl rfl (by kernel_rfl) (by kernel_rfl) (by kernel_rfl) (fun _ _ _ h => h) (.inl ⟨rfl, fun w' hS => by go_simp⟩) (ks.to hB) ?_
            try simp only [Act.put, List.setIfInBounds_toArray, List.set_cons_zero, List.set_cons_succ]
            refine takeD 8 (some 33) (.int .i64 0) rfl rfl (by kernel_rfl) (by kernel_rfl) (by kernel_rfl) (fun _ _ _ h => h) (.inl ⟨rfl, fun w' hS => by go_simp⟩) (ks.to hB) ?_
            try simp only [Act.put, List.setIfInBounds_toArray, List.set_cons_zero, List.set_cons_succ]
            exact HK (wc28.heap.size, wc1.heap.size, vX, AF, cF, vP, vC) _ ⟨kA, kB, hneAB, hgA, hgB, hvP, hvC, hnAP, hnBP, hnAC, hnBC, hB⟩
        · skip
          refine valD 9 (some 4) rfl rfl rfl (hal _ _ _ rfl) ⟨((ks.to hB).alloc _), ?_⟩
          have kA := Bk.new wn27 #[.slice none 0 0, .int .i64 0, .slice none 0 0, .slice none 0 0] 28
          have hcN := balloc (Below.refl _ wn27) (.cells #[.slice none 0 0, .int .i64 0, .slice none 0 0, .slice none 0 0] 28)
          have hgA : w2.heap.size ≤ wn27.heap.size := hB.size
          have hneAB : wn27.heap.size ≠ wc1.heap.size := (Nat.ne_of_lt kB.lt).symm
          generalize hw_wn33 : wn27.alloc (.cells #[.slice none 0 0, .int .i64 0, .slice none 0 0, .slice none 0 0] 28) = wn33 at *
          replace kB := kB.to hcN
          replace hvX := hvX.to hcN
          replace hB := hB.trans (hcN.mono hB.size)
          clear hcN
          try simp only [Act.put, List.setIfInBounds_toArray, List.set_cons_zero, List.set_cons_succ]
          refine wpAnyH_all (rs := [3]) (by kernel_rfl) (by simp) (fun i hiR => ?_)
          obtain rfl : i = 3 := by simpa using hiR
          refine callD 3 (some 29) rfl rfl rfl (f := 27) (args := #[.agg #[.slice AS rs.length cS, .int .i64 10, .slice LS ls.length clS, .slice BS es.length dS], .int .i64 100]) (run_call2 (vx := .agg #[.slice AS rs.length cS, .int .i64 10, .slice LS ls.length clS, .slice BS es.length dS]) (vy := .int .i64 100) (x := .tmp 28) (y := _) rfl rfl rfl rfl (hcf2 _ _) _) (HFr.out _ _ (SpV.to hvS (show Below w2.heap.size w2 wn33 from hB))) ?_
          rintro e wc34 ⟨AF, cF, rfl, hcF, hF, hb_wc34⟩
          refine ⟨_, rfl, ((ks.to hB).to hb_wc34), ?_⟩
          replace kB := kB.to hb_wc34
          replace kA := kA.to hb_wc34
          replace hvX := hvX.to hb_wc34
          replace hB := hB.trans (hb_wc34.mono hB.size)
          clear hb_wc34
          try simp only [Act.put, List.setIfInBounds_toArray, List.set_cons_zero, List.set_cons_succ]
          refine wpAnyH_all (rs := [4]) (by kernel_rfl) (by simp) (fun i hiR => ?_)
          obtain rfl : i = 4 := by simpa using hiR
          refine callD 4 (some 30) rfl rfl rfl (f := 16) (args := #[vX, .slice AF fr.length cF]) (run_call2 (vx := vX) (vy := .slice AF fr.length cF) (x := .tmp 27) (y := .tmp 29) rfl rfl rfl rfl (hcf3 _ _) _) (HFk.out _ _ _ _ hvX (hL.below (show Below w2.heap.size w2 wc34 from hB)) hF hcF) ?_
          rintro e wc35 ⟨vP, vC, rfl, hvP, hvC, hlP, hlC, hb_wc35⟩
          refine ⟨_, rfl, ((ks.to hB).to hb_wc35), ?_⟩
          have hnBP := SNo.loc hlP kB.lt
          have hnBC := SNo.loc hlC kB.lt
          have hnAP := SNo.loc hlP kA.lt
          have hnAC := SNo.loc hlC kA.lt
          clear hlP hlC
          replace kB := kB.to hb_wc35
          replace kA := kA.to hb_wc35
          replace hvX := hvX.to hb_wc35
          replace hF := hF.below hb_wc35 (Nat.le_refl _)
          replace hB := hB.trans (hb_wc35.mono hB.size)
          clear hb_wc35
          try simp only [Act.put, List.setIfInBounds_toArray, List.set_cons_zero, List.set_cons_succ]
          refine takeD 5 (some 25) (.tuple #[vP, vC, .int .i64 0]) rfl rfl (by kernel_rfl) (by kernel_rfl) (by kernel_rfl) (fun _ _ _ h => h) (.inl ⟨rfl, fun w' hS => by go_simp⟩) (ks.to hB) ?_
          try simp only [Act.put, List.setIfInBounds_toArray, List.set_cons_zero, List.set_cons_succ]
          refine takeD 6 (some 31) (vP) rfl rfl (by kernel_rfl) (by kernel_rfl) (by kernel_rfl) (fun _ _ _ h => h) (.inl ⟨rfl, fun w' hS => by go_simp⟩) (ks.to hB) ?_
          try simp only [Act.put, List.setIfInBounds_toArray, List.set_cons_zero, List.set_cons_succ]
          refine takeD 7 (some 32) (vC) rfl rfl (by kernel_rfl) (by kernel_rfl) (by kernel_rfl) (fun _ _ _ h => h) (.inl ⟨rfl, fun w' hS => by go_simp⟩) (ks.to hB) ?_
          try simp only [Act.put, List.setIfInBounds_toArray, List.set_cons_zero, List.set_cons_succ]
          refine takeD 8 (some 33) (.int .i64 0) rfl rfl (by kernel_rfl) (by kernel_rfl) (by kernel_rfl) (fun _ _ _ h => h) (.inl ⟨rfl, fun w' hS => by go_simp⟩) (ks.to hB) ?_
          try simp only [Act.put, List.setIfInBounds_toArray, List.set_cons_zero, List.set_cons_succ]
          exact HK (wn27.heap.size, wc1.heap.size, vX, AF, cF, vP, vC) _ ⟨kA, kB, hneAB, hgA, hgB, hvP, hvC, hnAP, hnBP, hnAC, hnBC, hB⟩
    · skip
      refine valD 9 (some 4) rfl rfl rfl (hal _ _ _ rfl) ⟨((ks.to hB).alloc _), ?_⟩
      have kA := Bk.new wd #[.slice none 0 0, .int .i64 0, .slice none 0 0, .slice none 0 0] 28
      have hcN := balloc (Below.refl _ wd) (.cells #[.slice none 0 0, .int .i64 0, .slice none 0 0, .slice none 0 0] 28)
      have hgA : w2.heap.size ≤ wd.heap.size := hB.size
      generalize hw_wn36 : wd.alloc (.cells #[.slice none 0 0, .int .i64 0, .slice none 0 0, .slice none 0 0] 28) = wn36 at *
      replace hB := hB.trans (hcN.mono hB.size)
      clear hcN
      try simp only [Act.put, List.setIfInBounds_toArray, List.set_cons_zero, List.set_cons_succ]
      refine wpAnyH_all (rs := [1, 10]) (by kernel_rfl) (by simp) (fun i hiR => ?_)
      simp only [List.mem_cons, List.not_mem_nil, or_false] at hiR
      rcases hiR with rfl | rfl
      · skip
        refine callD 1 (some 27) rfl rfl rfl (f := 12) (args := #[.agg #[.slice AS rs.length cS, .int .i64 10, .slice LS ls.length clS, .slice BS es.length dS]]) (run_call1 (vx := .agg #[.slice AS rs.length cS, .int .i64 10, .slice LS ls.length clS, .slice BS es.length dS]) (x := .tmp 26) rfl rfl rfl (hcf1 _) _) (HOS.out _ _ (SpV.to hvS (show Below w2.heap.size w2 wn36 from hB))) ?_
        rintro e wc37 ⟨vX, rfl, hvX, hb_wc37⟩
        refine ⟨_, rfl, ((ks.to hB).to hb_wc37), ?_⟩
        replace kA := kA.to hb_wc37
        replace hB := hB.trans (hb_wc37.mono hB.size)
        clear hb_wc37
        try simp only [Act.put, List.setIfInBounds_toArray, List.set_cons_zero, List.set_cons_succ]
        refine wpAnyH_all (rs := [3, 10]) (by kernel_rfl) (by simp) (fun i hiR => ?_)
        simp only [List.mem_cons, List.not_mem_nil, or_false] at hiR
        rcases hiR with rfl | rfl
        · skip
          refine callD 3 (some 29) rfl rfl rfl (f := 27) (args := #[.agg #[.slice AS rs.length cS, .int .i64 10, .slice LS ls.length clS, .slice BS es.length dS], .int .i64 100]) (run_call2 (vx := .agg #[.slice AS rs.length cS, .int .i64 10, .slice LS ls.length clS, .slice BS es.length dS]) (vy := .int .i64 100) (x := .tmp 28) (y := _) rfl rfl rfl rfl (hcf2 _ _) _) (HFr.out _ _ (SpV.to hvS (show Below w2.heap.size w2 wc37 from hB))) ?_
          rintro e wc38 ⟨AF, cF, rfl, hcF, hF, hb_wc38⟩
          refine ⟨_, rfl, ((ks.to hB).to hb_wc38), ?_⟩
          replace kA := kA.to hb_wc38
          replace hvX := hvX.to hb_wc38
          replace hB := hB.trans (hb_wc38.mono hB.size)
          clear hb_wc38
          try simp only [Act.put, List.setIfInBounds_toArray, List.set_cons_zero, List.set_cons_succ]
          refine wpAnyH_all (rs := [4, 10]) (by kernel_rfl) (by simp) (fun i hiR => ?_)
          simp only [List.mem_cons, List.not_mem_nil, or_false] at hiR
          rcases hiR with rfl | rfl
          · skip
            refine callD 4 (some 30) rfl rfl rfl (f := 16) (args := #[vX, .slice AF fr.length cF]) (run_call2 (vx := vX) (vy := .slice AF fr.length cF) (x := .tmp 27) (y := .tmp 29) rfl rfl rfl rfl (hcf3 _ _) _) (HFk.out _ _ _ _ hvX (hL.below (show Below w2.heap.size w2 wc38 from hB)) hF hcF) ?_
            rintro e wc39 ⟨vP, vC, rfl, hvP, hvC, hlP, hlC, hb_wc39⟩
            refine ⟨_, rfl, ((ks.to hB).to hb_wc39), ?_⟩
            have hnAP := SNo.loc hlP kA.lt
            have hnAC := SNo.loc hlC kA.lt
            clear hlP hlC
            replace kA := kA.to hb_wc39
            replace hvX := hvX.to hb_wc39
            replace hF := hF.below hb_wc39 (Nat.le_refl _)
            replace hB := hB.trans (hb_wc39.mono hB.size)
            clear hb_wc39
            try simp only [Act.put, List.setIfInBounds_toArray, List.set_cons_zero, List.set_cons_succ]
            refine takeD 5 (some 25) (.tuple #[vP, vC, .int .i64 0]) rfl rfl (by kernel_rfl) (by kernel_rfl) (by kernel_rfl) (fun _ _ _ h => h) (.inl ⟨rfl, fun w' hS => by go_simp⟩) (ks.to hB) ?_
            try simp only [Act.put, List.setIfInBounds_toArray, List.set_cons_zero, List.set_cons_succ]
            refine takeD 6 (some 31) (vP) rfl rfl (by kernel_rfl) (by kernel_rfl) (by kernel_rfl) (fun _ _ _ h => h) (.inl ⟨rfl, fun w' hS => by go_simp⟩) (ks.to hB) ?_
            try simp only [Act.put, List.setIfInBounds_toArray, List.set_cons_zero, List.set_cons_succ]
            refine takeD 7 (some 32) (vC) rfl rfl (by kernel_rfl) (by kernel_rfl) (by kernel_rfl) (fun _ _ _ h => h) (.inl ⟨rfl, fun w' hS => by go_simp⟩) (ks.to hB) ?_
            try simp only [Act.put, List.setIfInBounds_toArray, List.set_cons_zero, List.set_cons_succ]
            refine takeD 8 (some 33) (.int .i64 0) rfl rfl (by kernel_rfl) (by kernel_rfl) (by kernel_rfl) (fun _ _ _ h => h) (.inl ⟨rfl, fun w' hS => by go_simp⟩) (ks.to hB) ?_
            try simp only [Act.put, List.setIfInBounds_toArray, List.set_cons_zero, List.set_cons_succ]
            refine wpAnyH_all (rs := [10]) (by kernel_rfl) (by simp) (fun i hiR => ?_)
            obtain rfl : i = 10 := by simpa using hiR
            refine valD 10 (some 5) rfl rfl rfl (hal _ _ _ rfl) ⟨((ks.to hB).alloc _), ?_⟩
            have kB := Bk.new wc39 #[.slice none 0 0, .int .i64 0, .slice none 0 0, .slice none 0 0] 28
            have hcN := balloc (Below.refl _ wc39) (.cells #[.slice none 0 0, .int .i64 0, .slice none 0 0, .slice none 0 0] 28)
            have hgB : w2.heap.size ≤ wc39.heap.size := hB.size
            have hneAB : wd.heap.size ≠ wc39.heap.size := Nat.ne_of_lt kA.lt
            have hnBP := SNo.new hvP (Nat.le_refl _)
            have hnBC := SNo.new hvC (Nat.le_refl _)
            generalize hw_wn40 : wc39.alloc (.cells #[.slice none 0 0, .int .i64 0, .slice none 0 0, .slice none 0 0] 28) = wn40 at *
            replace kA := kA.to hcN
            replace hvX := hvX.to hcN
            replace hF := hF.below hcN (Nat.le_refl _)
            replace hvP := hvP.to hcN
            replace hvC := hvC.to hcN
            replace hB := hB.trans (hcN.mono hB.size)
            clear hcN
            try simp only [Act.put, List.setIfInBounds_toArray, List.set_cons_zero, List.set_cons_succ]
            exact HK (wd.heap.size, wc39.heap.size, vX, AF, cF, vP, vC) _ ⟨kA, kB, hneAB, hgA, hgB, hvP, hvC, hnAP, hnBP, hnAC, hnBC, hB⟩
          · skip
            refine valD 10 (some 5) rfl rfl rfl (hal _ _ _ rfl) ⟨((ks.to hB).alloc _), ?_⟩
            have kB := Bk.new wc38 #[.slice none 0 0, .int .i64 0, .slice none 0 0, .slice none 0 0] 28
            have hcN := balloc (Below.refl _ wc38) (.cells #[.slice none 0 0, .int .i64 0, .slice none 0 0, .slice none 0 0] 28)
            have hgB : w2.heap.size ≤ wc38.heap.size := hB.size
            have hneAB : wd.heap.size ≠ wc38.heap.size := Nat.ne_of_lt kA.lt
            generalize hw_wn41 : wc38.alloc (.cells #[.slice none 0 0, .int .i64 0, .slice none 0 0, .slice none 0 0] 28) = wn41 at *
            replace kA := kA.to hcN
            replace hvX := hvX.to hcN
            replace hF := hF.below hcN (Nat.le_refl _)
            replace hB := hB.trans (hcN.mono hB.size)
            clear hcN
            try simp only [Act.put, List.setIfInBounds_toArray, List.set_cons_zero, List.set_cons_succ]
            refine wpAnyH_all (rs := [4]) (by kernel_rfl) (by simp) (fun i hiR => ?_)
            obtain rfl : i = 4 := by simpa using hiR
            refine callD 4 (some 30) rfl rfl rfl (f := 16) (args := #[vX, .slice AF fr.length cF]) (run_call2 (vx := vX) (vy := .slice AF fr.length cF) (x := .tmp 27) (y := .tmp 29) rfl rfl rfl rfl (hcf3 _ _) _) (HFk.out _ _ _ _ hvX (hL.below (show Below w2.heap.size w2 wn41 from hB)) hF hcF) ?_
            rintro e wc42 ⟨vP, vC, rfl, hvP, hvC, hlP, hlC, hb_wc42⟩
            refine ⟨_, rfl, ((ks.to hB).to hb_wc42), ?_⟩
            have hnAP := SNo.loc hlP kA.lt
            have hnAC := SNo.loc hlC kA.lt
            have hnBP := SNo.loc hlP kB.lt
            have hnBC := SNo.loc hlC kB.lt
            clear hlP hlC
            replace kA := kA.to hb_wc42
            replace kB := kB.to hb_wc42
            replace hvX := hvX.to hb_wc42
            replace hF := hF.below hb_wc42 (Nat.le_refl _)
            replace hB := hB.trans (hb_wc42.mono hB.size)
            clear hb_wc42
            try simp only [Act.put, List.setIfInBounds_toArray, List.set_cons_zero, List.set_cons_succ]
            refine takeD 5 (some 25) (.tuple #[vP, vC, .int .i64 0]) rfl rfl (by kernel_rfl) (by kernel_rfl) (by kernel_rfl) (fun _ _ _ h => h) (.inl ⟨rfl, fun w' hS => by go_simp⟩) (ks.to hB) ?_
            try simp only [Act.put, List.setIfInBounds_toArray, List.set_cons_zero, List.set_cons_succ]
            refine takeD 6 (some 31) (vP) rfl rfl (by kernel_rfl) (by kernel_rfl) (by kernel_rfl) (fun _ _ _ h => h) (.inl ⟨rfl, fun w' hS => by go_simp⟩) (ks.to hB) ?_
            try simp only [Act.put, List.setIfInBounds_toArray, List.set_cons_zero, List.set_cons_succ]
            refine takeD 7 (some 32) (vC) rfl rfl (by kernel_rfl) (by kernel_rfl) (by kernel_rfl) (fun _ _ _ h => h) (.inl ⟨rfl, fun w' hS => by go_simp⟩) (ks.to hB) ?_
            try simp only [Act.put, List.setIfInBounds_toArray, List.set_cons_zero, List.set_cons_succ]
            refine takeD 8 (some 33) (.int .i64 0) rfl rfl (by kernel_rfl) (by kernel_rfl) (by kernel_rfl) (fun _ _ _ h => h) (.inl ⟨rfl, fun w' hS => by go_simp⟩) (ks.to hB) ?_
            try simp only [Act.put, List.setIfInBounds_toArray, List.set_cons_zero, List.set_cons_succ]
            exact HK (wd.heap.size, wc38.heap.size, vX, AF, cF, vP, vC) _ ⟨kA, kB, hneAB, hgA, hgB, hvP, hvC, hnAP, hnBP, hnAC, hnBC, hB⟩
        · skip
          refine valD 10 (some 5) rfl rfl rfl (hal _ _ _ rfl) ⟨((ks.to hB).alloc _), ?_⟩
          have kB := Bk.new wc37 #[.slice none 0 0, .int .i64 0, .slice none 0 0, .slice none 0 0] 28
          have hcN := balloc (Below.refl _ wc37) (.cells #[.slice none 0 0, .int .i64 0, .slice none 0 0, .slice none 0 0] 28)
          have hgB : w2.heap.size ≤ wc37.heap.size := hB.size
          have hneAB : wd.heap.size ≠ wc37.heap.size := Nat.ne_of_lt kA.lt
          generalize hw_wn43 : wc37.alloc (.cells #[.slice none 0 0, .int .i64 0, .slice none 0 0, .slice none 0 0] 28) = wn43 at *
          replace kA := kA.to hcN
          replace hvX := hvX.to hcN
          replace hB := hB.trans (hcN.mono hB.size)
          clear hcN
          try simp only [Act.put, List.setIfInBounds_toArray, List.set_cons_zero, List.set_cons_succ]
          refine wpAnyH_all (rs := [3]) (by kernel_rfl) (by simp) (fun i hiR => ?_)
          obtain rfl : i = 3 := by simpa using hiR
          refine callD 3 (some 29) rfl rfl rfl (f := 27) (args := #[.agg #[.slice AS rs.length cS, .int .i64 10, .slice LS ls.length clS, .slice BS es.length dS], .int .i64 100]) (run_call2 (vx := .agg #[.slice AS rs.length cS, .int .i64 10, .slice LS ls.length clS, .slice BS es.length dS]) (vy := .int .i64 100) (x := .tmp 28) (y := _) rfl rfl rfl rfl (hcf2 _ _) _) (HFr.out _ _ (SpV.to hvS (show Below w2.heap.size w2 wn43 from hB))) ?_
          rintro e wc44 ⟨AF, cF, rfl, hcF, hF, hb_wc44⟩
          refine ⟨_, rfl, ((ks.to hB).to hb_wc44), ?_⟩
          replace kA := kA.to hb_wc44
          replace kB := kB.to hb_wc44
          replace hvX := hvX.to hb_wc44
          replace hB := hB.trans (hb_wc44.mono hB.size)
          clear hb_wc44
          try simp only [Act.put, List.setIfInBounds_toArray, List.set_cons_zero, List.set_cons_succ]
          refine wpAnyH_all (rs := [4]) (by kernel_rfl) (by simp) (fun i hiR => ?_)
          obtain rfl : i = 4 := by simpa using hiR
          refine callD 4 (some 30) rfl rfl rfl (f := 16) (args := #[vX, .slice AF fr.length cF]) (run_call2 (vx := vX) (vy := .slice AF fr.length cF) (x := .tmp 27) (y := .tmp 29) rfl rfl rfl rfl (hcf3 _ _) _) (HFk.out _ _ _ _ hvX (hL.below (show Below w2.heap.size w2 wc44 from hB)) hF hcF) ?_
          rintro e wc45 ⟨vP, vC, rfl, hvP, hvC, hlP, hlC, hb_wc45⟩
          refine ⟨_, rfl, ((ks.to hB).to hb_wc45), ?_⟩
          have hnAP := SNo.loc hlP kA.lt
          have hnAC := SNo.loc hlC kA.lt
          have hnBP := SNo.loc hlP kB.lt
          have hnBC := SNo.loc hlC kB.lt
          clear hlP hlC
          replace kA := kA.to hb_wc45
          replace kB := kB.to hb_wc45
          replace hvX := hvX.to hb_wc45
          replace hF := hF.below hb_wc45 (Nat.le_refl _)
          replace hB := hB.trans (hb_wc45.mono hB.size)
          clear hb_wc45
          try simp only [Act.put, List.setIfInBounds_toArray, List.set_cons_zero, List.set_cons_succ]
          refine takeD 5 (some 25) (.tuple #[vP, vC, .int .i64 0]) rfl rfl (by kernel_rfl) (by kernel_rfl) (by kernel_rfl) (fun _ _ _ h => h) (.inl ⟨rfl, fun w' hS => by go_simp⟩) (ks.to hB) ?_
          try simp only [Act.put, List.setIfInBounds_toArray, List.set_cons_zero, List.set_cons_succ]
          refine takeD 6 (some 31) (vP) rfl rfl (by kernel_rfl) (by kernel_rfl) (by kernel_rfl) (fun _ _ _ h => h) (.inl ⟨rfl, fun w' hS => by go_simp⟩) (ks.to hB) ?_
          try simp only [Act.put, List.setIfInBounds_toArray, List.set_cons_zero, List.set_cons_succ]
          refine takeD 7 (some 32) (vC) rfl rfl (by kernel_rfl) (by kernel_rfl) (by kernel_rfl) (fun _ _ _ h => h) (.inl ⟨rfl, fun w' hS => by go_simp⟩) (ks.to hB) ?_
          try simp only [Act.put, List.setIfInBounds_toArray, List.set_cons_zero, List.set_cons_succ]
          refine takeD 8 (some 33) (.int .i64 0) rfl rfl (by kernel_rfl) (by kernel_rfl) (by kernel_rfl) (fun _ _ _ h => h) (.inl ⟨rfl, fun w' hS => by go_simp⟩) (ks.to hB) ?_
          try simp only [Act.put, List.setIfInBounds_toArray, List.set_cons_zero, List.set_cons_succ]
          exact HK (wd.heap.size, wc37.heap.size, vX, AF, cF, vP, vC) _ ⟨kA, kB, hneAB, hgA, hgB, hvP, hvC, hnAP, hnBP, hnAC, hnBC, hB⟩
      · skip
        refine valD 10 (some 5) rfl rfl rfl (hal _ _ _ rfl) ⟨((ks.to hB).alloc _), ?_⟩
        have kB := Bk.new wn36 #[.slice none 0 0, .int .i64 0, .slice none 0 0, .slice none 0 0] 28
        have hcN := balloc (Below.refl _ wn36) (.cells #[.slice none 0 0, .int .i64 0, .slice none 0 0, .slice none 0 0] 28)
        have hgB : w2.heap.size ≤ wn36.heap.size := hB.size
        have hneAB : wd.heap.size ≠ wn36.heap.size := Nat.ne_of_lt kA.lt
        generalize hw_wn46 : wn36.alloc (.cells #[.slice none 0 0, .int .i64 0, .slice none 0 0, .slice none 0 0] 28) = wn46 at *
        replace kA := kA.to hcN
        replace hB := hB.trans (hcN.mono hB.size)
        clear hcN
        try simp only [Act.put, List.setIfInBounds_toArray, List.set_cons_zero, List.set_cons_succ]
        refine wpAnyH_all (rs := [1]) (by kernel_rfl) (by simp) (fun i hiR => ?_)
        obtain rfl : i = 1 := by simpa using hiR
        refine callD 1 (some 27) rfl rfl rfl (f := 12) (args := #[.agg #[.slice AS rs.length cS, .int .i64 10, .slice LS ls.length clS, .slice BS es.length dS]]) (run_call1 (vx := .agg #[.slice AS rs.length cS, .int .i64 10, .slice LS ls.length clS, .slice BS es.length dS]) (x := .tmp 26) rfl rfl rfl (hcf1 _) _) (HOS.out _ _ (SpV.to hvS (show Below w2.heap.size w2 wn46 from hB))) ?_
        rintro e wc47 ⟨vX, rfl, hvX, hb_wc47⟩
        refine ⟨_, rfl, ((ks.to hB).to hb_wc47), ?_⟩
        replace kA := kA.to hb_wc47
        replace kB := kB.to hb_wc47
        replace hB := hB.trans (hb_wc47.mono hB.size)
        clear hb_wc47
        try simp only [Act.put, List.setIfInBounds_toArray, List.set_cons_zero, List.set_cons_succ]
        refine wpAnyH_all (rs := [3]) (by kernel_rfl) (by simp) (fun i hiR => ?_)
        obtain rfl : i = 3 := by simpa using hiR
        refine callD 3 (some 29) rfl rfl rfl (f := 27) (args := #[.agg #[.slice AS rs.length cS, .int .i64 10, .slice LS ls.length clS, .slice BS es.length dS], .int .i64 100]) (run_call2 (vx := .agg #[.slice AS rs.length cS, .int .i64 10, .slice LS ls.length clS, .slice BS es.length dS]) (vy := .int .i64 100) (x := .tmp 28) (y := _) rfl rfl rfl rfl (hcf2 _ _) _) (HFr.out _ _ (SpV.to hvS (show Below w2.heap.size w2 wc47 from hB))) ?_
        rintro e wc48 ⟨AF, cF, rfl, hcF, hF, hb_wc48⟩
        refine ⟨_, rfl, ((ks.to hB).to hb_wc48), ?_⟩
        replace kA := kA.to hb_wc48
        replace kB := kB.to hb_wc48
        replace hvX := hvX.to hb_wc48
        replace hB := hB.trans (hb_wc48.mono hB.size)
        clear hb_wc48
        try simp only [Act.put, List.setIfInBounds_toArray, List.set_cons_zero, List.set_cons_succ]
        refine wpAnyH_all (rs := [4]) (by kernel_rfl) (by simp) (fun i hiR => ?_)
        obtain rfl : i = 4 := by simpa using hiR
        refine callD 4 (some 30) rfl rfl rfl (f := 16) (args := #[vX, .slice AF fr.length cF]) (run_call2 (vx := vX) (vy := .slice AF fr.length cF) (x := .tmp 27) (y := .tmp 29) rfl rfl rfl rfl (hcf3 _ _) _) (HFk.out _ _ _ _ hvX (hL.below (show Below w2.heap.size w2 wc48 from hB)) hF hcF) ?_
        rintro e wc49 ⟨vP, vC, rfl, hvP, hvC, hlP, hlC, hb_wc49⟩
        refine ⟨_, rfl, ((ks.to hB).to hb_wc49), ?_⟩
        have hnAP := SNo.loc hlP kA.lt
        have hnAC := SNo.loc hlC kA.lt
        have hnBP := SNo.loc hlP kB.lt
        have hnBC := SNo.loc hlC kB.lt
        clear hlP hlC
        replace kA := kA.to hb_wc49
        replace kB := kB.to hb_wc49
        replace hvX := hvX.to hb_wc49
        replace hF := hF.below hb_wc49 (Nat.le_refl _)
        replace hB := hB.trans (hb_wc49.mono hB.size)
        clear hb_wc49
        try simp only [Act.put, List.setIfInBounds_toArray, List.set_cons_zero, List.set_cons_succ]
        refine takeD 5 (some 25) (.tuple #[vP, vC, .int .i64 0]) rfl rfl (by kernel_rfl) (by kernel_rfl) (by kernel_rfl) (fun _ _ _ h => h) (.inl ⟨rfl, fun w' hS => by go_simp⟩) (ks.to hB) ?_
        try simp only [Act.put, List.setIfInBounds_toArray, List.set_cons_zero, List.set_cons_succ]
        refine takeD 6 (some 31) (vP) rfl rfl (by kernel_rfl) (by kernel_rfl) (by kernel_rfl) (fun _ _ _ h => h) (.inl ⟨rfl, fun w' hS => by go_simp⟩) (ks.to hB) ?_
        try simp only [Act.put, List.setIfInBounds_toArray, List.set_cons_zero, List.set_cons_succ]
        refine takeD 7 (some 32) (vC) rfl rfl (by kernel_rfl) (by kernel_rfl) (by kernel_rfl) (fun _ _ _ h => h) (.inl ⟨rfl, fun w' hS => by go_simp⟩) (ks.to hB) ?_
        try simp only [Act.put, List.setIfInBounds_toArray, List.set_cons_zero, List.set_cons_succ]
        refine takeD 8 (some 33) (.int .i64 0) rfl rfl (by kernel_rfl) (by kernel_rfl) (by kernel_rfl) (fun _ _ _ h => h) (.inl ⟨rfl, fun w' hS => by go_simp⟩) (ks.to hB) ?_
        try simp only [Act.put, List.setIfInBounds_toArray, List.set_cons_zero, List.set_cons_succ]
        exact HK (wd.heap.size, wn36.heap.size, vX, AF, cF, vP, vC) _ ⟨kA, kB, hneAB, hgA, hgB, hvP, hvC, hnAP, hnBP, hnAC, hnBC, hB⟩
    · skip
      refine valD 10 (some 5) rfl rfl rfl (hal _ _ _ rfl) ⟨((ks.to hB).alloc _), ?_⟩
      have kB := Bk.new wd #[.slice none 0 0, .int .i64 0, .slice none 0 0, .slice none 0 0] 28
      have hcN := balloc (Below.refl _ wd) (.cells #[.slice none 0 0, .int .i64 0, .slice none 0 0, .slice none 0 0] 28)
      have hgB : w2.heap.size ≤ wd.heap.size := hB.size
      generalize hw_wn50 : wd.alloc (.cells #[.slice none 0 0, .int .i64 0, .slice none 0 0, .slice none 0 0] 28) = wn50 at *
      replace hB := hB.trans (hcN.mono hB.size)
      clear hcN
      try simp only [Act.put, List.setIfInBounds_toArray, List.set_cons_zero, List.set_cons_succ]
      refine wpAnyH_all (rs := [1, 9]) (by kernel_rfl) (by simp) (fun i hiR => ?_)
      simp only [List.mem_cons, List.not_mem_nil, or_false] at hiR
      rcases hiR with rfl | rfl
      · skip
        refine callD 1 (some 27) rfl rfl rfl (f := 12) (args := #[.agg #[.slice AS rs.length cS, .int .i64 10, .slice LS ls.length clS, .slice BS es.length dS]]) (run_call1 (vx := .agg #[.slice AS rs.length cS, .int .i64 10, .slice LS ls.length clS, .slice BS es.length dS]) (x := .tmp 26) rfl rfl rfl (hcf1 _) _) (HOS.out _ _ (SpV.to hvS (show Below w2.heap.size w2 wn50 from hB))) ?_
        rintro e wc51 ⟨vX, rfl, hvX, hb_wc51⟩
        refine ⟨_, rfl, ((ks.to hB).to hb_wc51), ?_⟩
        replace kB := kB.to hb_wc51
        replace hB := hB.trans (hb_wc51.mono hB.size)
        clear hb_wc51
        try simp only [Act.put, List.setIfInBounds_toArray, List.set_cons_zero, List.set_cons_succ]
        refine wpAnyH_all (rs := [3, 9]) (by kernel_rfl) (by simp) (fun i hiR => ?_)
        simp only [List.mem_cons, List.not_mem_nil, or_false] at hiR
        rcases hiR with rfl | rfl
        · skip
          refine callD 3 (some 29) rfl rfl rfl (f := 27) (args := #[.agg #[.slice AS rs.length cS, .int .i64 10, .slice LS ls.length clS, .slice BS es.length dS], .int .i64 100]) (run_call2 (vx := .agg #[.slice AS rs.length cS, .int .i64 10, .slice LS ls.length clS, .slice BS es.length dS]) (vy := .int .i64 100) (x := .tmp 28) (y := _) rfl rfl rfl rfl (hcf2 _ _) _) (HFr.out _ _ (SpV.to hvS (show Below w2.heap.size w2 wc51 from hB))) ?_
          rintro e wc52 ⟨AF, cF, rfl, hcF, hF, hb_wc52⟩
          refine ⟨_, rfl, ((ks.to hB).to hb_wc52), ?_⟩
          replace kB := kB.to hb_wc52
          replace hvX := hvX.to hb_wc52
          replace hB := hB.trans (hb_wc52.mono hB.size)
          clear hb_wc52
          try simp only [Act.put, List.setIfInBounds_toArray, List.set_cons_zero, List.set_cons_succ]
          refine wpAnyH_all (rs := [4, 9]) (by kernel_rfl) (by simp) (fun i hiR => ?_)
          simp only [List.mem_cons, List.not_mem_nil, or_false] at hiR
          rcases hiR with rfl | rfl
          · skip
            refine callD 4 (some 30) rfl rfl rfl (f := 16) (args := #[vX, .slice AF fr.length cF]) (run_call2 (vx := vX) (vy := .slice AF fr.length cF) (x := .tmp 27) (y := .tmp 29) rfl rfl rfl rfl (hcf3 _ _) _) (HFk.out _ _ _ _ hvX (hL.below (show Below w2.heap.size w2 wc52 from hB)) hF hcF) ?_
            rintro e wc53 ⟨vP, vC, rfl, hvP, hvC, hlP, hlC, hb_wc53⟩
            refine ⟨_, rfl, ((ks.to hB).to hb_wc53), ?_⟩
            have hnBP := SNo.loc hlP kB.lt
            have hnBC := SNo.loc hlC kB.lt
            clear hlP hlC
            replace kB := kB.to hb_wc53
            replace hvX := hvX.to hb_wc53
            replace hF := hF.below hb_wc53 (Nat.le_refl _)
            replace hB := hB.trans (hb_wc53.mono hB.size)
            clear hb_wc53
            try simp only [Act.put, List.setIfInBounds_toArray, List.set_cons_zero, List.set_cons_succ]
            refine takeD 5 (some 25) (.tuple #[vP, vC, .int .i64 0]) rfl rfl (by kernel_rfl) (by kernel_rfl) (by kernel_rfl) (fun _ _ _ h => h) (.inl ⟨rfl, fun w' hS => by go_simp⟩) (ks.to hB) ?_
            try simp only [Act.put, List.setIfInBounds_toArray, List.set_cons_zero, List.set_cons_succ]
            refine takeD 6 (some 31) (vP) rfl rfl (by kernel_rfl) (by kernel_rfl) (by kernel_rfl) (fun _ _ _ h => h) (.inl ⟨rfl, fun w' hS => by go_simp⟩) (ks.to hB) ?_
            try simp only [Act.put, List.setIfInBounds_toArray, List.set_cons_zero, List.set_cons_succ]
            refine takeD 7 (some 32) (vC) rfl rfl (by kernel_rfl) (by kernel_rfl) (by kernel_rfl) (fun _ _ _ h => h) (.inl ⟨rfl, fun w' hS => by go_simp⟩) (ks.to hB) ?_
            try simp only [Act.put, List.setIfInBounds_toArray, List.set_cons_zero, List.set_cons_succ]
            refine takeD 8 (some 33) (.int .i64 0) rfl rfl (by kernel_rfl) (by kernel_rfl) (by kernel_rfl) (fun _ _ _ h => h) (.inl ⟨rfl, fun w' hS => by go_simp⟩) (ks.to hB) ?_
            try simp only [Act.put, List.setIfInBounds_toArray, List.set_cons_zero, List.set_cons_succ]
            refine wpAnyH_all (rs := [9]) (by kernel_rfl) (by simp) (fun i hiR => ?_)
            obtain rfl : i = 9 := by simpa using hiR
            refine valD 9 (some 4) rfl rfl rfl (hal _ _ _ rfl) ⟨((ks.to hB).alloc _), ?_⟩
            have kA := Bk.new wc53 #[.slice none 0 0, .int .i64 0, .slice none 0 0, .slice none 0 0] 28
            have hcN := balloc (Below.refl _ wc53) (.cells #[.slice none 0 0, .int .i64 0, .slice none 0 0, .slice none 0 0] 28)
            have hgA : w2.heap.size ≤ wc53.heap.size := hB.size
            have hneAB : wc53.heap.size ≠ wd.heap.size := (Nat.ne_of_lt kB.lt).symm
            have hnAP := SNo.new hvP (Nat.le_refl _)
            have hnAC := SNo.new hvC (Nat.le_refl _)
            generalize hw_wn54 : wc53.alloc (.cells #[.slice none 0 0, .int .i64 0, .slice none 0 0, .slice none 0 0] 28) = wn54 at *
            replace kB := kB.to hcN
            replace hvX := hvX.to hcN
            replace hF := hF.below hcN (Nat.le_refl _)
            replace hvP := hvP.to hcN
            replace hvC := hvC.to hcN
            replace hB := hB.trans (hcN.mono hB.size)
            clear hcN
            try simp only [Act.put, List.setIfInBounds_toArray, List.set_cons_zero, List.set_cons_succ]
            exact HK (wc53.heap.size, wd.heap.size, vX, AF, cF, vP, vC) _ ⟨kA, kB, hneAB, hgA, hgB, hvP, hvC, hnAP, hnBP, hnAC, hnBC, hB⟩
          · skip
            refine valD 9 (some 4) rfl rfl rfl (hal _ _ _ rfl) ⟨((ks.to hB).alloc _), ?_⟩
            have kA := Bk.new wc52 #[.slice none 0 0, .int .i64 0, .slice none 0 0, .slice none 0 0] 28
            have hcN := balloc (Below.refl _ wc52) (.cells #[.slice none 0 0, .int .i64 0, .slice none 0 0, .slice none 0 0] 28)
            have hgA : w2.heap.size ≤ wc52.heap.size := hB.size
            have hneAB : wc52.heap.size ≠ wd.heap.size := (Nat.ne_of_lt kB.lt).symm
            generalize hw_wn55 : wc52.alloc (.cells #[.slice none 0 0, .int .i64 0, .slice none 0 0, .slice none 0 0] 28) = wn55 at *
            replace kB := kB.to hcN
            replace hvX := hvX.to hcN
            replace hF := hF.below hcN (Nat.le_refl _)
            replace hB := hB.trans (hcN.mono hB.size)
            clear hcN
            try simp only [Act.put, List.setIfInBounds_toArray, List.set_cons_zero, List.set_cons_succ]
            refine wpAnyH_all (rs := [4]) (by kernel_rfl) (by simp) (fun i hiR => ?_)
            obtain rfl : i = 4 := by simpa using hiR
            refine callD 4 (some 30) rfl rfl rfl (f := 16) (args := #[vX, .slice AF fr.length cF]) (run_call2 (vx := vX) (vy := .slice AF fr.length cF) (x := .tmp 27) (y := .tmp 29) rfl rfl rfl rfl (hcf3 _ _) _) (HFk.out _ _ _ _ hvX (hL.below (show Below w2.heap.size w2 wn55 from hB)) hF hcF) ?_
            rintro e wc56 ⟨vP, vC, rfl, hvP, hvC, hlP, hlC, hb_wc56⟩
            refine ⟨_, rfl, ((ks.to hB).to hb_wc56), ?_⟩
            have hnBP := SNo.loc hlP kB.lt
            have hnBC := SNo.loc hlC kB.lt
            have hnAP := SNo.loc hlP kA.lt
            have hnAC := SNo.loc hlC kA.lt
            clear hlP hlC
            replace kB := kB.to hb_wc56
            replace kA := kA.to hb_wc56
            replace hvX := hvX.to hb_wc56
            replace hF := hF.below hb_wc56 (Nat.le_refl _)
            replace hB := hB.trans (hb_wc56.mono hB.size)
            clear hb_wc56
            try simp only [Act.put, List.setIfInBounds_toArray, List.set_cons_zero, List.set_cons_succ]
            refine takeD 5 (some 25) (.tuple #[vP, vC, .int .i64 0]) rfl rfl (by kernel_rfl) (by kernel_rfl) (by kernel_rfl) (fun _ _ _ h => h) (.inl ⟨rfl, fun w' hS => by go_simp⟩) (ks.to hB) ?_
            try simp only [Act.put, List.setIfInBounds_toArray, List.set_cons_zero, List.set_cons_succ]
            refine takeD 6 (some 31) (vP) rfl rfl (by kernel_rfl) (by kernel_rfl) (by kernel_rfl) (fun _ _ _ h => h) (.inl ⟨rfl, fun w' hS => by go_simp⟩) (ks.to hB) ?_
            try simp only [Act.put, List.setIfInBounds_toArray, List.set_cons_zero, List.set_cons_succ]
            refine takeD 7 (some 32) (vC) rfl rfl (by kernel_rfl) (by kernel_rfl) (by kernel_rfl) (fun _ _ _ h => h) (.inl ⟨rfl, fun w' hS => by go_simp⟩) (ks.to hB) ?_
            try simp only [Act.put, List.setIfInBounds_toArray, List.set_cons_zero, List.set_cons_succ]
            refine takeD 8 (some 33) (.int .i64 0) rfl rfl (by kernel_rfl) (by kernel_rfl) (by kernel_rfl) (fun _ _ _ h => h) (.inl ⟨rfl, fun w' hS => by go_simp⟩) (ks.to hB) ?_
            try simp only [Act.put, List.setIfInBounds_toArray, List.set_cons_zero, List.set_cons_succ]
            exact HK (wc52.heap.size, wd.heap.size, vX, AF, cF, vP, vC) _ ⟨kA, kB, hneAB, hgA, hgB, hvP, hvC, hnAP, hnBP, hnAC, hnBC, hB⟩
        · skip
          refine valD 9 (some 4) rfl rfl rfl (hal _ _ _ rfl) ⟨((ks.to hB).alloc _), ?_⟩
          have kA := Bk.new wc51 #[.slice none 0 0, .int .i64 0, .slice none 0 0, .slice none 0 0] 28
          have hcN := balloc (Below.refl _ wc51) (.cells #[.slice none 0 0, .int .i64 0, .slice none 0 0, .slice none 0 0] 28)
          have hgA : w2.heap.size ≤ wc51.heap.size := hB.size
          have hneAB : wc51.heap.size ≠ wd.heap.size := (Nat.ne_of_lt kB.lt).symm
          generalize hw_wn57 : wc51.alloc (.cells #[.slice none 0 0, .int .i64 0, .slice none 0 0, .slice none 0 0] 28) = wn57 at *
          replace kB := kB.to hcN
          replace hvX := hvX.to hcN
          replace hB := hB.trans (hcN.mono hB.size)
          clear hcN
          try simp only [Act.put, List.setIfInBounds_toArray, List.set_cons_zero, List.set_cons_succ]
          refine wpAnyH_all (rs := [3]) (by kernel_rfl) (by simp) (fun i hiR => ?_)
          obtain rfl : i = 3 := by simpa using hiR
          refine callD 3 (some 29) rfl rfl rfl (f := 27) (args := #[.agg #[.slice AS rs.length cS, .int .i64 10, .slice LS ls.length clS, .slice BS es.length dS], .int .i64 100]) (run_call2 (vx := .agg #[.slice AS rs.length cS, .int .i64 10, .slice LS ls.length clS, .slice BS es.length dS]) (vy := .int .i64 100) (x := .tmp 28) (y := _) rfl rfl rfl rfl (hcf2 _ _) _) (HFr.out _ _ (SpV.to hvS (show Below w2.heap.size w2 wn57 from hB))) ?_
          rintro e wc58 ⟨AF, cF, rfl, hcF, hF, hb_wc58⟩
          refine ⟨_, rfl, ((ks.to hB).to hb_wc58), ?_⟩
          replace kB := kB.to hb_wc58
          replace kA := kA.to hb_wc58
          replace hvX := hvX.to hb_wc58
          replace hB := hB.trans (hb_wc58.mono hB.size)
          clear hb_wc58
          try simp only [Act.put, List.setIfInBounds_toArray, List.set_cons_zero, List.set_cons_succ]
          refine wpAnyH_all (rs := [4]) (by kernel_rfl) (by simp) (fun i hiR => ?_)
          obtain rfl : i = 4 := by simpa using hiR
          refine callD 4 (some 30) rfl rfl rfl (f := 16) (args := #[vX, .slice AF fr.length cF]) (run_call2 (vx := vX) (vy := .slice AF fr.length cF) (x := .tmp 27) (y := .tmp 29) rfl rfl rfl rfl (hcf3 _ _) _) (HFk.out _ _ _ _ hvX (hL.below (show Below w2.heap.size w2 wc58 from hB)) hF hcF) ?_
          rintro e wc59 ⟨vP, vC, rfl, hvP, hvC, hlP, hlC, hb_wc59⟩
          refine ⟨_, rfl, ((ks.to hB).to hb_wc59), ?_⟩
          have hnBP := SNo.loc hlP kB.lt
          have hnBC := SNo.loc hlC kB.lt
          have hnAP := SNo.loc hlP kA.lt
          have hnAC := SNo.loc hlC kA.lt
          clear hlP hlC
          replace kB := kB.to hb_wc59
          replace kA := kA.to hb_wc59
          replace hvX := hvX.to hb_wc59
          replace hF := hF.below hb_wc59 (Nat.le_refl _)
          replace hB := hB.trans (hb_wc59.mono hB.size)
          clear hb_wc59
          try simp only [Act.put, List.setIfInBounds_toArray, List.set_cons_zero, List.set_cons_succ]
          refine takeD 5 (some 25) (.tuple #[vP, vC, .int .i64 0]) rfl rfl (by kernel_rfl) (by kernel_rfl) (by kernel_rfl) (fun _ _ _ h => h) (.inl ⟨rfl, fun w' hS => by go_simp⟩) (ks.to hB) ?_
          try simp only [Act.put, List.setIfInBounds_toArray, List.set_cons_zero, List.set_cons_succ]
          refine takeD 6 (some 31) (vP) rfl rfl (by kernel_rfl) (by kernel_rfl) (by kernel_rfl) (fun _ _ _ h => h) (.inl ⟨rfl, fun w' hS => by go_simp⟩) (ks.to hB) ?_
          try simp only [Act.put, List.setIfInBounds_toArray, List.set_cons_zero, List.set_cons_succ]
          refine takeD 7 (some 32) (vC) rfl rfl (by kernel_rfl) (by kernel_rfl) (by kernel_rfl) (fun _ _ _ h => h) (.inl ⟨rfl, fun w' hS => by go_simp⟩) (ks.to hB) ?_
          try simp only [Act.put, List.setIfInBounds_toArray, List.set_cons_zero, List.set_cons_succ]
          refine takeD 8 (some 33) (.int .i64 0) rfl rfl (by kernel_rfl) (by kernel_rfl) (by kernel_rfl) (fun _ _ _ h => h) (.inl ⟨rfl, fun w' hS => by go_simp⟩) (ks.to hB) ?_
          try simp only [Act.put, List.setIfInBounds_toArray, List.set_cons_zero, List.set_cons_succ]
          exact HK (wc51.heap.size, wd.heap.size, vX, AF, cF, vP, vC) _ ⟨kA, kB, hneAB, hgA, hgB, hvP, hvC, hnAP, hnBP, hnAC, hnBC, hB⟩
      · skip
        refine valD 9 (some 4) rfl rfl rfl (hal _ _ _ rfl) ⟨((ks.to hB).alloc _), ?_⟩
        have kA := Bk.new wn50 #[.slice none 0 0, .int .i64 0, .slice none 0 0, .slice none 0 0] 28
        have hcN := balloc (Below.refl _ wn50) (.cells #[.slice none 0 0, .int .i64 0, .slice none 0 0, .slice none 0 0] 28)
        have hgA : w2.heap.size ≤ wn50.heap.size := hB.size
        have hneAB : wn50.heap.size ≠ wd.heap.size := (Nat.ne_of_lt kB.lt).symm
        generalize hw_wn60 : wn50.alloc (.cells #[.slice none 0 0, .int .i64 0, .slice none 0 0, .slice none 0 0] 28) = wn60 at *
        replace kB := kB.to hcN
        replace hB := hB.trans (hcN.mono hB.size)
        clear hcN
        try simp only [Act.put, List.setIfInBounds_toArray, List.set_cons_zero, List.set_cons_succ]
        refine wpAnyH_all (rs := [1]) (by kernel_rfl) (by simp) (fun i hiR => ?_)
        obtain rfl : i = 1 := by simpa using hiR
        refine callD 1 (some 27) rfl rfl rfl (f := 12) (args := #[.agg #[.slice AS rs.length cS, .int .i64 10, .slice LS ls.length clS, .slice BS es.length dS]]) (run_call1 (vx := .agg #[.slice AS rs.length cS, .int .i64 10, .slice LS ls.length clS, .slice BS es.length dS]) (x := .tmp 26) rfl rfl rfl (hcf1 _) _) (HOS.out _ _ (SpV.to hvS (show Below w2.heap.size w2 wn60 from hB))) ?_
        rintro e wc61 ⟨vX, rfl, hvX, hb_wc61⟩
        refine ⟨_, rfl, ((ks.to hB).to hb_wc61), ?_⟩
        replace kB := kB.to hb_wc61
        replace kA := kA.to hb_wc61
        replace hB := hB.trans (hb_wc61.mono hB.size)
        clear hb_wc61
        try simp only [Act.put, List.setIfInBounds_toArray, List.set_cons_zero, List.set_cons_succ]
        refine wpAnyH_all (rs := [3]) (by kernel_rfl) (by simp) (fun i hiR => ?_)
        obtain rfl : i = 3 := by simpa using hiR
        refine callD 3 (some 29) rfl rfl rfl (f := 27) (args := #[.agg #[.slice AS rs.length cS, .int .i64 10, .slice LS ls.length clS, .slice BS es.length dS], .int .i64 100]) (run_call2 (vx := .agg #[.slice AS rs.length cS, .int .i64 10, .slice LS ls.length clS, .slice BS es.length dS]) (vy := .int .i64 100) (x := .tmp 28) (y := _) rfl rfl rfl rfl (hcf2 _ _) _) (HFr.out _ _ (SpV.to hvS (show Below w2.heap.size w2 wc61 from hB))) ?_
        rintro e wc62 ⟨AF, cF, rfl, hcF, hF, hb_wc62⟩
        refine ⟨_, rfl, ((ks.to hB).to hb_wc62), ?_⟩
        replace kB := kB.to hb_wc62
        replace kA := kA.to hb_wc62
        replace hvX := hvX.to hb_wc62
        replace hB := hB.trans (hb_wc62.mono hB.size)
        clear hb_wc62
        try simp only [Act.put, List.setIfInBounds_toArray, List.set_cons_zero, List.set_cons_succ]
        refine wpAnyH_all (rs := [4]) (by kernel_rfl) (by simp) (fun i hiR => ?_)
        obtain rfl : i = 4 := by simpa using hiR
        refine callD 4 (some 30) rfl rfl rfl (f := 16) (args := #[vX, .slice AF fr.length cF]) (run_call2 (vx := vX) (vy := .slice AF fr.length cF) (x := .tmp 27) (y := .tmp 29) rfl rfl rfl rfl (hcf3 _ _) _) (HFk.out _ _ _ _ hvX (hL.below (show Below w2.heap.size w2 wc62 from hB)) hF hcF) ?_
        rintro e wc63 ⟨vP, vC, rfl, hvP, hvC, hlP, hlC, hb_wc63⟩
        refine ⟨_, rfl, ((ks.to hB).to hb_wc63), ?_⟩
        have hnBP := SNo.loc hlP kB.lt
        have hnBC := SNo.loc hlC kB.lt
        have hnAP := SNo.loc hlP kA.lt
        have hnAC := SNo.loc hlC kA.lt
        clear hlP hlC
        replace kB := kB.to hb_wc63
        replace kA := kA.to hb_wc63
        replace hvX := hvX.to hb_wc63
        replace hF := hF.below hb_wc63 (Nat.le_refl _)
        replace hB := hB.trans (hb_wc63.mono hB.size)
        clear hb_wc63
        try simp only [Act.put, List.setIfInBounds_toArray, List.set_cons_zero, List.set_cons_succ]
        refine takeD 5 (some 25) (.tuple #[vP, vC, .int .i64 0]) rfl rfl (by kernel_rfl) (by kernel_rfl) (by kernel_rfl) (fun _ _ _ h => h) (.inl ⟨rfl, fun w' hS => by go_simp⟩) (ks.to hB) ?_
        try simp only [Act.put, List.setIfInBounds_toArray, List.set_cons_zero, List.set_cons_succ]
        refine takeD 6 (some 31) (vP) rfl rfl (by kernel_rfl) (by kernel_rfl) (by kernel_rfl) (fun _ _ _ h => h) (.inl ⟨rfl, fun w' hS => by go_simp⟩) (ks.to hB) ?_
        try simp only [Act.put, List.setIfInBounds_toArray, List.set_cons_zero, List.set_cons_succ]
        refine takeD 7 (some 32) (vC) rfl rfl (by kernel_rfl) (by kernel_rfl) (by kernel_rfl) (fun _ _ _ h => h) (.inl ⟨rfl, fun w' hS => by go_simp⟩) (ks.to hB) ?_
        try simp only [Act.put, List.setIfInBounds_toArray, List.set_cons_zero, List.set_cons_succ]
        refine takeD 8 (some 33) (.int .i64 0) rfl rfl (by kernel_rfl) (by kernel_rfl) (by kernel_rfl) (fun _ _ _ h => h) (.inl ⟨rfl, fun w' hS => by go_simp⟩) (ks.to hB) ?_
        try simp only [Act.put, List.setIfInBounds_toArray, List.set_cons_zero, List.set_cons_succ]
        exact HK (wn50.heap.size, wd.heap.size, vX, AF, cF, vP, vC) _ ⟨kA, kB, hneAB, hgA, hgB, hvP, hvC, hnAP, hnBP, hnAC, hnBC, hB⟩
  clear hcf2 hcf3 hal hcf1
  rintro ⟨gA, gB, vX, AF, cF, vP, vC⟩ W ⟨kA, kB, hneAB, hgA, hgB, hvP, hvC, hnAP, hnBP, hnAC, hnBC, hB⟩
  simp only at kA kB hneAB hgA hgB hvP hvC hnAP hnBP hnAC hnBC
  obtain ⟨AA, cA, LA, clA, BA, dA, rfl⟩ := hvP.cells
  obtain ⟨AB, cB, LB, clB, BB, dB, rfl⟩ := hvC.cells
  simp only at hvP hvC hnAP hnBP hnAC hnBC ⊢
  simp only [Act.put, List.setIfInBounds_toArray, List.set_cons_zero, List.set_cons_succ]
  have k9_ks := ks.to hB
  refine wpAnyH_all (rs := [11]) (by kernel_rfl) (by simp) (fun i hiR => ?_)
  obtain rfl : i = 11 := by simpa using hiR
  have kN := kA.row #[.slice AA rsP.length cA, .int .i64 rP, .slice LA lsP.length clA, .slice BA esP.length dA]
  have kO := kB.rowfar hneAB.symm #[.slice AA rsP.length cA, .int .i64 rP, .slice LA lsP.length clA, .slice BA esP.length dA]
  have hBn := below_row hB hgA #[.slice AA rsP.length cA, .int .i64 rP, .slice LA lsP.length clA, .slice BA esP.length dA]
  have nP := hvP.rowfar hnAP #[.slice AA rsP.length cA, .int .i64 rP, .slice LA lsP.length clA, .slice BA esP.length dA]
  have nC := hvC.rowfar hnAC #[.slice AA rsP.length cA, .int .i64 rP, .slice LA lsP.length clA, .slice BA esP.length dA]
  have n9_ks := k9_ks.rowfar (show w1.heap.size ≠ gA by omega) #[.slice AA rsP.length cA, .int .i64 rP, .slice LA lsP.length clA, .slice BA esP.length dA]
  refine storeD 11 rfl rfl rfl 28 _ _ rfl gA #[.slice AA rsP.length cA, .int .i64 rP, .slice LA lsP.length clA, .slice BA esP.length dA] rfl rfl 28 _ kA (by kernel_rfl) rfl (all_oneCell_toArray (fun v hv => by simp at hv; rcases hv with rfl | rfl | rfl | rfl <;> rfl)) ⟨(n9_ks), ?_⟩
  generalize World.setRow W gA #[.slice AA rsP.length cA, .int .i64 rP, .slice LA lsP.length clA, .slice BA esP.length dA] = wz64 at *
  replace kA := kN
  replace kB := kO
  replace hB := hBn
  replace hvP := nP
  replace hvC := nC
  replace k9_ks := n9_ks
  clear kN kO hBn nP nC n9_ks
  try simp only [Act.put, List.setIfInBounds_toArray, List.set_cons_zero, List.set_cons_succ]
  refine wpAnyH_all (rs := [12]) (by kernel_rfl) (by simp) (fun i hiR => ?_)
  obtain rfl : i = 12 := by simpa using hiR
  have kN := kB.row #[.slice AB rsC.length cB, .int .i64 rC, .slice LB lsC.length clB, .slice BB esC.length dB]
  have kO := kA.rowfar hneAB #[.slice AB rsC.length cB, .int .i64 rC, .slice LB lsC.length clB, .slice BB esC.length dB]
  have hBn := below_row hB hgB #[.slice AB rsC.length cB, .int .i64 rC, .slice LB lsC.length clB, .slice BB esC.length dB]
  have nP := hvP.rowfar hnBP #[.slice AB rsC.length cB, .int .i64 rC, .slice LB lsC.length clB, .slice BB esC.length dB]
  have nC := hvC.rowfar hnBC #[.slice AB rsC.length cB, .int .i64 rC, .slice LB lsC.length clB, .slice BB esC.length dB]
  have n9_ks := k9_ks.rowfar (show w1.heap.size ≠ gB by omega) #[.slice AB rsC.length cB, .int .i64 rC, .slice LB lsC.length clB, .slice BB esC.length dB]
  refine storeD 12 rfl rfl rfl 28 _ _ rfl gB #[.slice AB rsC.length cB, .int .i64 rC, .slice LB lsC.length clB, .slice BB esC.length dB] rfl rfl 28 _ kB (by kernel_rfl) rfl (all_oneCell_toArray (fun v hv => by simp at hv; rcases hv with rfl | rfl | rfl | rfl <;> rfl)) ⟨(n9_ks), ?_⟩
  generalize World.setRow wz64 gB #[.slice AB rsC.length cB, .int .i64 rC, .slice LB lsC.length clB, .slice BB esC.length dB] = wz65 at *
  replace kB := kN
  replace kA := kO
  replace hB := hBn
  replace hvP := nP
  replace hvC := nC
  replace k9_ks := n9_ks
  clear kN kO hBn nP nC n9_ks
  try simp only [Act.put, List.setIfInBounds_toArray, List.set_cons_zero, List.set_cons_succ]
  refine takeD 13 (some 6) (.int .i64 0) rfl rfl (by kernel_rfl) (by kernel_rfl) (by kernel_rfl) (fun _ _ _ h => h) (.inl ⟨rfl, fun w' hS => by go_simp⟩) (k9_ks) ?_
  try simp only [Act.put, List.setIfInBounds_toArray, List.set_cons_zero, List.set_cons_succ]
  clear k9_ks l9_ks hnAP hnBP hnAC hnBC hd hneAB hgA hgB hiR
  refine wpAnyH_done (by kernel_rfl) ?_ _
  replace hvS := hvS.to hB
  replace ks := ks.to hB
  replace hL := hL.below hB
  replace hB0 := bnext hB0 hB
  clear hB
  clear HOS HFr HFk
  try go_frame
  obtain ⟨c_ks, f_ks, l_ks⟩ := ks.facts
  obtain ⟨c_kA, f_kA, l_kA⟩ := kA.facts
  obtain ⟨c_kB, f_kB, l_kB⟩ := kB.facts
  go_wp2_with fail
  clear c_ks f_ks l_ks
  clear c_kA f_kA l_kA
  clear c_kB f_kB l_kB
  have kl2 := Bk.new wz65 #[.slice AA rsP.length cA, .int .i64 rP, .slice LA lsP.length clA, .slice BA esP.length dA, .slice AB rsC.length cB, .int .i64 rC, .slice LB lsC.length clB, .slice BB esC.length dB] 28
  have hcN := balloc (Below.refl _ wz65) (.cells #[.slice AA rsP.length cA, .int .i64 rP, .slice LA lsP.length clA, .slice BA esP.length dA, .slice AB rsC.length cB, .int .i64 rC, .slice LB lsC.length clB, .slice BB esC.length dB] 28)
  generalize wz65.alloc (.cells #[.slice AA rsP.length cA, .int .i64 rP, .slice LA lsP.length clA, .slice BA esP.length dA, .slice AB rsC.length cB, .int .i64 rC, .slice LB lsC.length clB, .slice BB esC.length dB] 28) = w3 at *
  replace hvS := hvS.to hcN
  replace hvP := hvP.to hcN
  replace hvC := hvC.to hcN
  replace ks := ks.to hcN
  replace kA := kA.to hcN
  replace kB := kB.to hcN
  replace hL := hL.below hcN
  replace hB0 := bnext hB0 hcN
  clear hcN
  refine (HC2.out _ _ _ (sps_twoA kl2 hvP hvC) hL).mono ?_
  rintro e w4 ⟨vm, rfl, hvm, hlQ, hb4⟩
  replace hvS := hvS.to hb4
  replace hvP := hvP.to hb4
  replace hvC := hvC.to hb4
  replace ks := ks.to hb4
  replace kA := kA.to hb4
  replace kB := kB.to hb4
  replace kl2 := kl2.to hb4
  replace hL := hL.below hb4
  replace hB0 := bnext hB0 hb4
  clear hb4
  clear kl2 kB hvC
  obtain ⟨PC, rfl, -, km⟩ := hlQ rfl
  clear hlQ hvm HC2
  obtain ⟨c_ks, f_ks, l_ks⟩ := ks.facts
  obtain ⟨c_kA, f_kA, l_kA⟩ := kA.facts
  go_wp2_with fail
  clear c_ks f_ks l_ks
  clear c_kA f_kA l_kA
  have kl1 := Bk.new w4 #[.slice AA rsP.length cA, .int .i64 rP, .slice LA lsP.length clA, .slice BA esP.length dA] 28
  have hcN := balloc (Below.refl _ w4) (.cells #[.slice AA rsP.length cA, .int .i64 rP, .slice LA lsP.length clA, .slice BA esP.length dA] 28)
  generalize w4.alloc (.cells #[.slice AA rsP.length cA, .int .i64 rP, .slice LA lsP.length clA, .slice BA esP.length dA] 28) = w5 at *
  replace hvS := hvS.to hcN
  replace hvP := hvP.to hcN
  replace km := km.to hcN
  replace ks := ks.to hcN
  replace kA := kA.to hcN
  replace hL := hL.below hcN
  replace hB0 := bnext hB0 hcN
  clear hcN
  refine (HC1.out _ _ _ (sps_one kl1 hvP) hL).mono ?_
  rintro e w6 ⟨vn, rfl, hvn, hlQ, hb6⟩
  replace hvS := hvS.to hb6
  replace hvP := hvP.to hb6
  replace km := km.to hb6
  replace ks := ks.to hb6
  replace kA := kA.to hb6
  replace kl1 := kl1.to hb6
  replace hL := hL.below hb6
  replace hB0 := bnext hB0 hb6
  clear hb6
  clear kl1
  obtain ⟨PD, rfl, -, kn⟩ := hlQ rfl
  clear hlQ hvn HC1
  obtain ⟨c_ks, f_ks, l_ks⟩ := ks.facts
  obtain ⟨c_kA, f_kA, l_kA⟩ := kA.facts
  go_wp2_with fail
  clear c_ks f_ks l_ks
  clear c_kA f_kA l_kA
  refine (HOP.out _ _ hvP).mono ?_
  rintro e w7 ⟨vx, rfl, hvx, hb7⟩
  replace hvS := hvS.to hb7
  replace hvP := hvP.to hb7
  replace km := km.to hb7
  replace kn := kn.to hb7
  replace ks := ks.to hb7
  replace kA := kA.to hb7
  replace hL := hL.below hb7
  replace hB0 := bnext hB0 hb7
  clear hb7
  obtain ⟨AX, cX, LX, clX, BX, dX, rfl, -, -, -, -⟩ := id hvx
  simp only [spcV] at hvx ⊢
  obtain ⟨c_ks, f_ks, l_ks⟩ := ks.facts
  obtain ⟨c_kA, f_kA, l_kA⟩ := kA.facts
  go_wp2_with fail
  clear c_ks f_ks l_ks
  clear c_kA f_kA l_kA
  refine (HO1.out _ _ _ _ hvx hL (rd_of_bk km HC2l.out)).mono ?_
  rintro e w8 ⟨vy, rfl, hvy, -, hb8⟩
  replace hvS := hvS.to hb8
  replace hvP := hvP.to hb8
  replace km := km.to hb8
  replace kn := kn.to hb8
  replace hvx := hvx.to hb8
  replace ks := ks.to hb8
  replace kA := kA.to hb8
  replace hL := hL.below hb8
  replace hB0 := bnext hB0 hb8
  clear hb8
  obtain ⟨AY, cY, LY, clY, BY, dY, rfl, -, -, -, -⟩ := id hvy
  simp only [spcV] at hvy ⊢
  clear hvx km
  obtain ⟨c_ks, f_ks, l_ks⟩ := ks.facts
  obtain ⟨c_kA, f_kA, l_kA⟩ := kA.facts
  go_upto_region 8 with fail
  clear c_ks f_ks l_ks
  clear c_kA f_kA l_kA
  have ky := Bk.new w8 #[.slice AY rsP.length cY, .int .i64 rP, .slice LY lsP.length clY, .slice BY esP.length dY] 28
  have hcN := balloc (Below.refl _ w8) (.cells #[.slice AY rsP.length cY, .int .i64 rP, .slice LY lsP.length clY, .slice BY esP.length dY] 28)
  generalize w8.alloc (.cells #[.slice AY rsP.length cY, .int .i64 rP, .slice LY lsP.length clY, .slice BY esP.length dY] 28) = w9 at *
  replace hvS := hvS.to hcN
  replace hvP := hvP.to hcN
  replace kn := kn.to hcN
  replace hvy := hvy.to hcN
  replace ks := ks.to hcN
  replace kA := kA.to hcN
  replace hL := hL.below hcN
  replace hB0 := bnext hB0 hcN
  clear hcN
  obtain ⟨c_ks, f_ks, l_ks⟩ := ks.facts
  obtain ⟨c_kA, f_kA, l_kA⟩ := kA.facts
  obtain ⟨c_ky, f_ky, l_ky⟩ := ky.facts
  go_wp2_with fail
  clear c_ks f_ks l_ks
  clear c_kA f_kA l_kA
  clear c_ky f_ky l_ky
  refine (HOP.out _ _ hvP).mono ?_
  rintro e w10 ⟨vx2, rfl, hvx, hb10⟩
  replace hvS := hvS.to hb10
  replace hvP := hvP.to hb10
  replace kn := kn.to hb10
  replace hvy := hvy.to hb10
  replace ks := ks.to hb10
  replace kA := kA.to hb10
  replace ky := ky.to hb10
  replace hL := hL.below hb10
  replace hB0 := bnext hB0 hb10
  clear hb10
  obtain ⟨AZ, cZ, LZ, clZ, BZ, dZ, rfl, -, -, -, -⟩ := id hvx
  simp only [spcV] at hvx ⊢
  obtain ⟨c_ks, f_ks, l_ks⟩ := ks.facts
  obtain ⟨c_kA, f_kA, l_kA⟩ := kA.facts
  obtain ⟨c_ky, f_ky, l_ky⟩ := ky.facts
  go_wp2_with fail
  clear c_ks f_ks l_ks
  clear c_kA f_kA l_kA
  clear c_ky f_ky l_ky
  refine (HO2.out _ _ _ _ hvx hL (rd_of_bk kn HC1l.out)).mono ?_
  rintro e w11 ⟨vb, rfl, hvb, -, hb11⟩
  replace hvS := hvS.to hb11
  replace hvP := hvP.to hb11
  replace kn := kn.to hb11
  replace hvy := hvy.to hb11
  replace hvx := hvx.to hb11
  replace ks := ks.to hb11
  replace kA := kA.to hb11
  replace ky := ky.to hb11
  replace hL := hL.below hb11
  replace hB0 := bnext hB0 hb11
  clear hb11
  obtain ⟨AB, cB, LB, clB, BB, dB, rfl, -, -, -, -⟩ := id hvb
  simp only [spcV] at hvb ⊢
  clear hvx
  obtain ⟨c_ks, f_ks, l_ks⟩ := ks.facts
  obtain ⟨c_kA, f_kA, l_kA⟩ := kA.facts
  obtain ⟨c_ky, f_ky, l_ky⟩ := ky.facts
  go_upto_region 9 with fail
  clear c_ks f_ks l_ks
  clear c_kA f_kA l_kA
  clear c_ky f_ky l_ky
  have kb := Bk.new w11 #[.slice AB rsB.length cB, .int .i64 rB, .slice LB lsB.length clB, .slice BB esB.length dB] 28
  have hcN := balloc (Below.refl _ w11) (.cells #[.slice AB rsB.length cB, .int .i64 rB, .slice LB lsB.length clB, .slice BB esB.length dB] 28)
  generalize w11.alloc (.cells #[.slice AB rsB.length cB, .int .i64 rB, .slice LB lsB.length clB, .slice BB esB.length dB] 28) = w12 at *
  replace hvS := hvS.to hcN
  replace hvP := hvP.to hcN
  replace kn := kn.to hcN
  replace hvy := hvy.to hcN
  replace hvb := hvb.to hcN
  replace ks := ks.to hcN
  replace kA := kA.to hcN
  replace ky := ky.to hcN
  replace hL := hL.below hcN
  replace hB0 := bnext hB0 hcN
  clear hcN
  obtain ⟨c_ks, f_ks, l_ks⟩ := ks.facts
  obtain ⟨c_kA, f_kA, l_kA⟩ := kA.facts
  obtain ⟨c_ky, f_ky, l_ky⟩ := ky.facts
  obtain ⟨c_kb, f_kb, l_kb⟩ := kb.facts
  go_wp2_with fail
  clear c_ks f_ks l_ks
  clear c_kA f_kA l_kA
  clear c_ky f_ky l_ky
  clear c_kb f_kb l_kb
  refine (HOB.out _ _ hvb).mono ?_
  rintro e w13 ⟨vx3, rfl, hvx, hb13⟩
  replace hvS := hvS.to hb13
  replace hvP := hvP.to hb13
  replace kn := kn.to hb13
  replace hvy := hvy.to hb13
  replace hvb := hvb.to hb13
  replace ks := ks.to hb13
  replace kA := kA.to hb13
  replace ky := ky.to hb13
  replace kb := kb.to hb13
  replace hL := hL.below hb13
  replace hB0 := bnext hB0 hb13
  clear hb13
  obtain ⟨AU, cU, LU, clU, BU, dU, rfl, -, -, -, -⟩ := id hvx
  simp only [spcV] at hvx ⊢
  obtain ⟨c_ks, f_ks, l_ks⟩ := ks.facts
  obtain ⟨c_kA, f_kA, l_kA⟩ := kA.facts
  obtain ⟨c_ky, f_ky, l_ky⟩ := ky.facts
  obtain ⟨c_kb, f_kb, l_kb⟩ := kb.facts
  go_wp2_with fail
  clear c_ks f_ks l_ks
  clear c_kA f_kA l_kA
  clear c_ky f_ky l_ky
  clear c_kb f_kb l_kb
  refine (HO3.out _ _ _ _ hvx hL (rd_of_bk kn HC1l.out)).mono ?_
  rintro e w14 ⟨vc, rfl, hvc, -, hb14⟩
  replace hvS := hvS.to hb14
  replace hvP := hvP.to hb14
  replace kn := kn.to hb14
  replace hvy := hvy.to hb14
  replace hvb := hvb.to hb14
  replace hvx := hvx.to hb14
  replace ks := ks.to hb14
  replace kA := kA.to hb14
  replace ky := ky.to hb14
  replace kb := kb.to hb14
  replace hL := hL.below hb14
  replace hB0 := bnext hB0 hb14
  clear hb14
  obtain ⟨AG, cG, LG, clG, BG, dG, rfl, -, -, -, -⟩ := id hvc
  simp only [spcV] at hvc ⊢
  clear hvx kn
  obtain ⟨c_ks, f_ks, l_ks⟩ := ks.facts
  obtain ⟨c_kA, f_kA, l_kA⟩ := kA.facts
  obtain ⟨c_ky, f_ky, l_ky⟩ := ky.facts
  obtain ⟨c_kb, f_kb, l_kb⟩ := kb.facts
  go_upto_region 10 with fail
  clear c_ks f_ks l_ks
  clear c_kA f_kA l_kA
  clear c_ky f_ky l_ky
  clear c_kb f_kb l_kb
  have kg := Bk.new w14 #[.slice AG rsB.length cG, .int .i64 rB, .slice LG lsB.length clG, .slice BG esB.length dG] 28
  have hcN := balloc (Below.refl _ w14) (.cells #[.slice AG rsB.length cG, .int .i64 rB, .slice LG lsB.length clG, .slice BG esB.length dG] 28)
  generalize w14.alloc (.cells #[.slice AG rsB.length cG, .int .i64 rB, .slice LG lsB.length clG, .slice BG esB.length dG] 28) = w15 at *
  replace hvS := hvS.to hcN
  replace hvP := hvP.to hcN
  replace hvy := hvy.to hcN
  replace hvb := hvb.to hcN
  replace hvc := hvc.to hcN
  replace ks := ks.to hcN
  replace kA := kA.to hcN
  replace ky := ky.to hcN
  replace kb := kb.to hcN
  replace hL := hL.below hcN
  replace hB0 := bnext hB0 hcN
  clear hcN
  obtain ⟨c_ks, f_ks, l_ks⟩ := ks.facts
  obtain ⟨c_kA, f_kA, l_kA⟩ := kA.facts
  obtain ⟨c_ky, f_ky, l_ky⟩ := ky.facts
  obtain ⟨c_kb, f_kb, l_kb⟩ := kb.facts
  obtain ⟨c_kg, f_kg, l_kg⟩ := kg.facts
  go_wp2_with fail
  clear c_ks f_ks l_ks
  clear c_kA f_kA l_kA
  clear c_ky f_ky l_ky
  clear c_kb f_kb l_kb
  clear c_kg f_kg l_kg
  refine (HSh.out _ _ hvS hL).mono ?_
  rintro e w16 ⟨vn, vm2, rfl, hvn, -, hln, hb16⟩
  replace hvS := hvS.to hb16
  replace hvP := hvP.to hb16
  replace hvy := hvy.to hb16
  replace hvb := hvb.to hb16
  replace hvc := hvc.to hb16
  replace ks := ks.to hb16
  replace kA := kA.to hb16
  replace ky := ky.to hb16
  replace kb := kb.to hb16
  replace kg := kg.to hb16
  replace hL := hL.below hb16
  replace hB0 := bnext hB0 hb16
  clear hb16
  obtain ⟨AN, cN, rfl, hrN⟩ := hvn
  clear hln hrN HSh HOP HOB HO1 HO2 HO3
  obtain ⟨c_ks, f_ks, l_ks⟩ := ks.facts
  obtain ⟨c_kA, f_kA, l_kA⟩ := kA.facts
  obtain ⟨c_ky, f_ky, l_ky⟩ := ky.facts
  obtain ⟨c_kb, f_kb, l_kb⟩ := kb.facts
  obtain ⟨c_kg, f_kg, l_kg⟩ := kg.facts
  go_wp2_with fail
  clear c_ks f_ks l_ks
  clear c_kA f_kA l_kA
  clear c_ky f_ky l_ky
  clear c_kb f_kb l_kb
  clear c_kg f_kg l_kg
  refine (HSP.out _ _ _ hvy hvP).mono ?_
  rintro e w17 ⟨rfl, hb17⟩
  replace hvS := hvS.to hb17
  replace hvP := hvP.to hb17
  replace hvy := hvy.to hb17
  replace hvb := hvb.to hb17
  replace hvc := hvc.to hb17
  replace ks := ks.to hb17
  replace kA := kA.to hb17
  replace ky := ky.to hb17
  replace kb := kb.to hb17
  replace kg := kg.to hb17
  replace hL := hL.below hb17
  replace hB0 := bnext hB0 hb17
  clear hb17
  clear hvy ky hvP kA
  obtain ⟨c_ks, f_ks, l_ks⟩ := ks.facts
  obtain ⟨c_kb, f_kb, l_kb⟩ := kb.facts
  obtain ⟨c_kg, f_kg, l_kg⟩ := kg.facts
  go_wp2_with fail
  clear c_ks f_ks l_ks
  clear c_kb f_kb l_kb
  clear c_kg f_kg l_kg
  refine (HSB.out _ _ _ hvc hvb).mono ?_
  rintro e w18 ⟨rfl, hb18⟩
  replace hvS := hvS.to hb18
  replace hvb := hvb.to hb18
  replace hvc := hvc.to hb18
  replace ks := ks.to hb18
  replace kb := kb.to hb18
  replace kg := kg.to hb18
  replace hL := hL.below hb18
  replace hB0 := bnext hB0 hb18
  clear hb18
  clear hvc kg
  clear HSP HSB
  obtain ⟨_, _, _, _, _, _, e', -, -, hrS, -⟩ := id hvS
  simp only [spcV, Value.agg.injEq, Array.mk.injEq, List.cons.injEq, Value.slice.injEq] at e'
  obtain ⟨⟨rfl, -, rfl⟩, -, ⟨rfl, -, rfl⟩, ⟨rfl, -, rfl⟩, -⟩ := e'
  obtain ⟨_, _, _, _, _, _, e', -, -, hrB, -⟩ := id hvb
  simp only [spcV, Value.agg.injEq, Array.mk.injEq, List.cons.injEq, Value.slice.injEq] at e'
  obtain ⟨⟨rfl, -, rfl⟩, -, ⟨rfl, -, rfl⟩, ⟨rfl, -, rfl⟩, -⟩ := e'
  simp only at hrS hrB
  have h64 := H64.out
  have h64B := H64B.out
  rw [h64] at hrS ks
  rw [h64B] at hrB kb
  clear hvS hvb h64 h64B
  obtain ⟨c_ks, f_ks, l_ks⟩ := ks.facts
  obtain ⟨c_kb, f_kb, l_kb⟩ := kb.facts
  go_wp2_with fail
  clear c_ks f_ks l_ks
  clear c_kb f_kb l_kb
  go_loopw [20] (fun i wr => OwnJ w18 i wr) (fun i _ => 64 - (intOf i).toNat)
  case atStart => exact ⟨0, by omega, rfl, Below.refl _ _⟩
  case round =>
    obtain ⟨k, hk, rfl, hBx⟩ := hrel
    have kSr := ks.to hBx
    have kBr := kb.to hBx
    by_cases hlp : k < 64
    · have hpI : (k : Int) < 64 := by omega
      have hpN : (0 : Int) ≤ k := by omega
      obtain ⟨bS, oS, rfl, hcS⟩ := word_at hrS H64.out hlp
      obtain ⟨bB, oB, rfl, hcB⟩ := word_at hrB H64B.out hlp
      replace hcS := cell_later hBx hcS
      replace hcB := cell_later hBx hcB
      rcases hee : entP es k with ⟨k1, n1, a1, b1, d1⟩
      have hpk := HBk.out k hlp _ _ _ _ _ hee
      have hx := getD_small28 Hsm.out H64.out k hlp
      have hu : unpR (es.getD k 0) = ((k1, n1, a1, b1, d1), 0) := Prod.ext hee (unp_in HT0.out k hlp)
      have HU := Lib.hid (fun W => rUnpack_any (es.getD k 0) W hx)
      rw [hu] at HU
      generalize es.getD k 0 = x at *
      generalize esB.getD k 0 = y at *
      have Hpk := Lib.hid hpk
      clear hu hee hx hpk hrS hrB
      obtain ⟨c_s, f_s, l_s⟩ := kSr.facts
      obtain ⟨c_b, f_b, l_b⟩ := kBr.facts
      go_wp2_with fail
      refine (HU.out _).mono ?_
      rintro e w5K ⟨rfl, hb5⟩
      clear c_s f_s l_s c_b f_b l_b kSr hcS HU
      replace kBr := kBr.to hb5
      replace hcB := cell_later hb5 hcB
      replace hBx := bnext hBx hb5
      clear hb5
      go_upto_region 17 with fail
      have kE := Bk.new w5K #[.int .i64 k1, .int .i64 n1, .bool a1, .bool b1, .bool d1] 52
      have hcN := balloc (Below.refl _ w5K) (.cells #[.int .i64 k1, .int .i64 n1, .bool a1, .bool b1, .bool d1] 52)
      have hlB5 := kBr.lt
      have hlC5 := World.block_lt_of_cell? _ _ hcB
      have hsz5 := hBx.size
      generalize w5K.alloc (.cells #[.int .i64 k1, .int .i64 n1, .bool a1, .bool b1, .bool d1] 52) = w6K at *
      replace kBr := kBr.to hcN
      replace hcB := cell_later hcN hcB
      replace hBx := bnext hBx hcN
      clear hcN
      by_cases hk1 : k1 = 1
      · subst hk1
        have HW := Lib.hid (fun W => word28_any 1 n1 true false d1 y W (by have := Hpk.out; simpa using this))
        clear Hpk
        obtain ⟨c_e, f_e, l_e⟩ := kE.facts
        go_upto_region 19 with fail
        clear c_e f_e l_e
        replace kBr := (kBr.far (p := ⟨w5K.heap.size, 2, none⟩) (by show w11.heap.size ≠ w5K.heap.size; omega) (.bool true)).far (p := ⟨w5K.heap.size, 3, none⟩) (by show w11.heap.size ≠ w5K.heap.size; omega) (.bool false)
        replace hcB := cell_far (p := ⟨w5K.heap.size, 3, none⟩) (cell_far (p := ⟨w5K.heap.size, 2, none⟩) hcB (by show bB ≠ w5K.heap.size; simp only at hlC5; omega) (.bool true)) (by show bB ≠ w5K.heap.size; simp only at hlC5; omega) (.bool false)
        replace hBx := (hBx.setCell (p := ⟨w5K.heap.size, 2, none⟩) hsz5 (.bool true)).setCell (p := ⟨w5K.heap.size, 3, none⟩) hsz5 (.bool false)
        replace kE := (kE.put 2 (.bool true)).put 3 (.bool false)
        simp only [List.setIfInBounds_toArray, List.set_cons_zero, List.set_cons_succ] at kE
        generalize (w6K.setCell ⟨w5K.heap.size, 2, none⟩ (.bool true)).setCell ⟨w5K.heap.size, 3, none⟩ (.bool false) = w7K at *
        have hlE := kE.lt
        have t3 := kBr.cell 3
        have e0 := kE.cell 0
        have e1 := kE.cell 1
        have e2 := kE.cell 2
        have e3 := kE.cell 3
        have e4 := kE.cell 4
        simp at t3 e0 e1 e2 e3 e4
        go_region_held3 (fun w' => w'.cell? ⟨w11.heap.size, 3, none⟩ = some (.slice (some ⟨bB, oB, none⟩) 64 dB) ∧ w'.cell? ⟨bB, oB + k, none⟩ = some (.int .u64 (y : Int)) ∧ w'.cell? ⟨w5K.heap.size, 0, none⟩ = some (.int .i64 1) ∧ w'.cell? ⟨w5K.heap.size, 1, none⟩ = some (.int .i64 n1) ∧ w'.cell? ⟨w5K.heap.size, 2, none⟩ = some (.bool true) ∧ w'.cell? ⟨w5K.heap.size, 3, none⟩ = some (.bool false) ∧ w'.cell? ⟨w5K.heap.size, 4, none⟩ = some (.bool d1))
          (refine ⟨?_, ?_, ?_, ?_, ?_, ?_, ?_⟩ <;> (repeat (with_reducible first | exact t3 | exact hcB | exact e0 | exact e1 | exact e2 | exact e3 | exact e4 | refine cell_drew ?_ | refine cell_later hbG ?_)))
          (first
            | (go_at_call 35
               refine (HW.out _).mono ?_
               rintro e wG ⟨rfl, hbG⟩))
        all_goals
          go_wp2_with fail
          go_roundw
          case rel => exact ⟨k + 1, by omega, by go_num, bnext (below_drew hBx) hbG⟩
          case measure => simp [intOf]; omega
      · have HW := Lib.hid (fun W => word28_any k1 n1 a1 b1 d1 y W (by have := Hpk.out; rw [if_neg hk1, if_neg hk1] at this; exact this))
        have hd1 : (k1 == 1) = false := by simpa using hk1
        clear Hpk
        obtain ⟨c_e, f_e, l_e⟩ := kE.facts
        go_upto_region 19 with fail
        clear c_e f_e l_e hk1
        have hlE := kE.lt
        have t3 := kBr.cell 3
        have e0 := kE.cell 0
        have e1 := kE.cell 1
        have e2 := kE.cell 2
        have e3 := kE.cell 3
        have e4 := kE.cell 4
        simp at t3 e0 e1 e2 e3 e4
        go_region_held3 (fun w' => w'.cell? ⟨w11.heap.size, 3, none⟩ = some (.slice (some ⟨bB, oB, none⟩) 64 dB) ∧ w'.cell? ⟨bB, oB + k, none⟩ = some (.int .u64 (y : Int)) ∧ w'.cell? ⟨w5K.heap.size, 0, none⟩ = some (.int .i64 k1) ∧ w'.cell? ⟨w5K.heap.size, 1, none⟩ = some (.int .i64 n1) ∧ w'.cell? ⟨w5K.heap.size, 2, none⟩ = some (.bool a1) ∧ w'.cell? ⟨w5K.heap.size, 3, none⟩ = some (.bool b1) ∧ w'.cell? ⟨w5K.heap.size, 4, none⟩ = some (.bool d1))
          (refine ⟨?_, ?_, ?_, ?_, ?_, ?_, ?_⟩ <;> (repeat (with_reducible first | exact t3 | exact hcB | exact e0 | exact e1 | exact e2 | exact e3 | exact e4 | refine cell_drew ?_ | refine cell_later hbG ?_)))
          (first
            | (go_at_call 35
               refine (HW.out _).mono ?_
               rintro e wG ⟨rfl, hbG⟩))
        all_goals
          go_wp2_with fail
          go_roundw
          case rel => exact ⟨k + 1, by omega, by go_num, bnext (below_drew hBx) hbG⟩
          case measure => simp [intOf]; omega
    · obtain rfl : k = 64 := by omega
      replace hL := hL.below hBx
      obtain ⟨c_b, f_b, l_b⟩ := kBr.facts
      go_wp2_with fail
      refine (awake28_any _ hL).mono ?_
      rintro e w8K ⟨rfl, hb8⟩
      go_wp2_with fail
      go_ret
      exact ⟨rfl, bnext (bnext hB0 hBx) hb8⟩
end Go.Proofs.YtmjahjdnfijpkaaDoor
