/- Several texts in one. -/
import Derived.Test.YtmjahjdnfijpkaaDoorFkL
import Derived.Test.YtmjahjdnfijpkaaDoorHF
import Derived.Test.YtmjahjdnfijpkaaDoorHO
import Derived.Test.YtmjahjdnfijpkaaDoorHK
import Derived.Test.YtmjahjdnfijpkaaDoorDrw
import Derived.Deep.RegionHeld3
import Derived.Deep.DeepCutAuto
/- The reference of chapter 28: Differ, Same, Counts. -/
namespace Go.Proofs.YtmjahjdnfijpkaaDoor
open Go Go.Proofs Go.RowKit
set_option linter.unusedSimpArgs false
set_option linter.unusedVariables false
set_option maxRecDepth 100000

theorem Bk.newa (w : World) (o : Obj) (cs : Array Value) (t : TypeId) : Bk ((w.alloc o).alloc (.cells cs t)) (w.heap.size + 1) cs t := by have := Bk.new (w.alloc o) cs t; rwa [World.size_alloc] at this
theorem Bk.newda (w : World) (o : Obj) (cs : Array Value) (t : TypeId) : Bk ((w.drew.alloc o).alloc (.cells cs t)) (w.heap.size + 1) cs t := Bk.newa w.drew o cs t
theorem Bk.newad (w : World) (o : Obj) (cs : Array Value) (t : TypeId) : Bk ((w.alloc o).drew.alloc (.cells cs t)) (w.heap.size + 1) cs t := by have := Bk.new (w.alloc o).drew cs t; rwa [World.size_drew, World.size_alloc] at this
theorem have_to {W w' : World} {g : Nat} {cs : Array Value} {t : TypeId} {q : Prop} (hb : Below W.heap.size W w') (h : Bk W g cs t) (k : g < W.heap.size → Bk w' g cs t → q) : q := k h.lt (h.to hb)
/-- Between two pages of the reference's Differ. -/
def RdfI (a b : Sp) (w3 : World) (v i : Value) (wr : World) : Prop := ∃ k : Nat, k ≤ 64 ∧ i = .int .i64 k ∧ wr.ownsRow w3.heap.size 3 1 v (difL a b k).length (iw (difL a b k)) ∧ Below w3.heap.size w3 wr

set_option maxHeartbeats 8000000 in
theorem rDiffer28_any (rs : List (Int × Int)) (r : Int) (ls : List Int) (es : List Nat) (v : Value) (rs2 : List (Int × Int)) (r2 : Int) (ls2 : List Int) (es2 : List Nat) (v2 : Value) (w : World) (hv : SpV w v (rs, r, ls, es)) (hv2 : SpV w v2 (rs2, r2, ls2, es2)) (hn : rs.length ≤ 1000000) (hn2 : rs2.length ≤ 1000000) (hs : wsmall es) (hs2 : wsmall es2) :
    Calls Tryd.prog 25 #[v, v2] w fun e w' => IsRes w w' (difR (rs, r, ls, es) (rs2, r2, ls2, es2)).1 (difR (rs, r, ls, es) (rs2, r2, ls2, es2)).2 e := by
  obtain ⟨A, c, L, cl, B, d, hve, hA, hLs, hB, hcc⟩ := id hv
  subst hve
  obtain ⟨A2, c2, L2, cl2, B2, d2, hve2, hA2, hLs2, hB2, hcc2⟩ := id hv2
  subst hve2
  unfold spcV at hv hv2 ⊢
  simp only at hv hv2 ⊢ hA hLs hB hcc hA2 hLs2 hB2 hcc2
  have kS := (Bk.new w #[.slice A rs.length c, .int .i64 r, .slice L ls.length cl, .slice B es.length d] 28).alloc (.cells #[.slice A2 rs2.length c2, .int .i64 r2, .slice L2 ls2.length cl2, .slice B2 es2.length d2] 28)
  have kU := Bk.new (w.alloc (.cells #[.slice A rs.length c, .int .i64 r, .slice L ls.length cl, .slice B es.length d] 28)) #[.slice A2 rs2.length c2, .int .i64 r2, .slice L2 ls2.length cl2, .slice B2 es2.length d2] 28
  simp only [World.size_alloc] at kU
  have hB1 := balloc (balloc (Below.refl _ w) (.cells #[.slice A rs.length c, .int .i64 r, .slice L ls.length cl, .slice B es.length d] 28)) (.cells #[.slice A2 rs2.length c2, .int .i64 r2, .slice L2 ls2.length cl2, .slice B2 es2.length d2] 28)
  generalize hw1 : (w.alloc (.cells #[.slice A rs.length c, .int .i64 r, .slice L ls.length cl, .slice B es.length d] 28)).alloc (.cells #[.slice A2 rs2.length c2, .int .i64 r2, .slice L2 ls2.length cl2, .slice B2 es2.length d2] 28) = w1 at *
  have HC := Lib.hid (rSpCheck_any rs r ls es _ _ (hv.to hB1) hn hs)
  have HC2 := Lib.hid (fun W (hb : Below w.heap.size w W) => rSpCheck_any rs2 r2 ls2 es2 _ W (hv2.to hb) hn2 hs2)
  obtain ⟨cS, fS, lS⟩ := kS.facts
  by_cases hE : spcE (rs, r, ls, es) = 0
  case neg =>
    have hR : difR (rs, r, ls, es) (rs2, r2, ls2, es2) = ([], spcE (rs, r, ls, es)) := by unfold difR; rw [orE_l _ hE, if_pos hE]
    rw [hR]
    have hd : (spcE (rs, r, ls, es) != 0) = true := by simpa using hE
    have hd2 : (spcE (rs, r, ls, es) == 0) = false := by simpa using hE
    generalize spcE (rs, r, ls, es) = z at *
    clear hR HC2
    go_enter Tryd.func25, Tryd.ntmps25
    go_wp2_with (go_at_call 28; refine HC.out.mono ?_; rintro e w2 ⟨rfl, hb2⟩)
    go_ret2
    exact ⟨_, rfl, IsV.nil _, bnext hB1 hb2⟩
  by_cases hE2 : spcE (rs2, r2, ls2, es2) = 0
  case neg =>
    have hR : difR (rs, r, ls, es) (rs2, r2, ls2, es2) = ([], spcE (rs2, r2, ls2, es2)) := by unfold difR; rw [orE_r _ hE, if_pos hE2]
    rw [hR]
    rw [hE] at HC
    have hd : (spcE (rs2, r2, ls2, es2) != 0) = true := by simpa using hE2
    generalize spcE (rs2, r2, ls2, es2) = z at *
    clear hR hE
    go_enter Tryd.func25, Tryd.ntmps25
    go_wp2_with fail
    refine HC.out.mono ?_
    rintro e w2 ⟨rfl, hb2⟩
    clear cS fS lS
    obtain ⟨cU, fU, lU⟩ := (kU.to hb2).facts
    go_wp2_with fail
    refine (HC2.out _ (bnext hB1 hb2)).mono ?_
    rintro e w3 ⟨rfl, hb3⟩
    clear cU fU lU
    go_wp2_with fail
    go_ret2
    exact ⟨_, rfl, IsV.nil _, bnext (bnext hB1 hb2) hb3⟩
  obtain ⟨hg, hT, _⟩ := spc_zero hE
  obtain ⟨hg2, hT2, _⟩ := spc_zero hE2
  simp only at hg hT hg2 hT2
  have hR : difR (rs, r, ls, es) (rs2, r2, ls2, es2) = (difL (rs, r, ls, es) (rs2, r2, ls2, es2) 64, 0) := by
    unfold difR
    rw [orE_r _ hE, if_neg (by simpa using hE2)]
  rw [hR]
  rw [hE] at HC
  rw [hE2] at HC2
  have HdB := Lib.hid (fun (p : Nat) (k1 n1 k2 n2 : Int) (x1 y1 z1 x2 y2 z2 : Bool) (h1 : entP es p = (k1, n1, x1, y1, z1)) (h2 : entP es2 p = (k2, n2, x2, y2, z2)) => difB_of (a := (rs, r, ls, es)) (b := (rs2, r2, ls2, es2)) (p := p) h1 h2)
  simp only at HdB
  have HT := Lib.hid hT
  have HT2 := Lib.hid hT2
  have HG := Lib.hid hg
  have HG2 := Lib.hid hg2
  have HV := Lib.hid hv
  have HV2 := Lib.hid hv2
  have HA := Lib.hid hA
  have HA2 := Lib.hid hA2
  clear hR hE hE2 hv hv2 hT hT2 hg hg2 hA hLs hB hA2 hLs2 hB2
  generalize hSa : ((rs, r, ls, es) : Sp) = sa at *
  generalize hSb : ((rs2, r2, ls2, es2) : Sp) = sb at *
  subst hSa hSb
  obtain ⟨i0, hi, hz0, hz1, hz2⟩ := info_parts infoInt
  go_enter Tryd.func25, Tryd.ntmps25
  go_wp2_with fail
  refine HC.out.mono ?_
  rintro e w2 ⟨rfl, hb2⟩
  clear cS fS lS
  replace kS := kS.to hb2
  replace kU := kU.to hb2
  replace hB1 := bnext hB1 hb2
  clear hb2 hw1
  obtain ⟨cU, fU, lU⟩ := kU.facts
  go_wp2_with fail
  refine (HC2.out _ hB1).mono ?_
  rintro e w3 ⟨rfl, hb3⟩
  clear cU fU lU
  replace kS := kS.to hb3
  replace kU := kU.to hb3
  replace hB1 := bnext hB1 hb3
  clear hb3
  go_wp2_with fail
  go_loopw [7, 8] (fun v i wr => RdfI (rs, r, ls, es) (rs2, r2, ls2, es2) w3 v i wr) (fun _ i _ => 64 - (intOf i).toNat)
  case atStart => exact ⟨0, by omega, rfl, World.ownsRow_nil _ _ _ _, Below.refl _ _⟩
  case round =>
    obtain ⟨p, hp, rfl, hrow, hBx⟩ := hrel
    have hBw := bnext hB1 hBx
    by_cases hlp : p < 64
    · have hpI : (p : Int) < 64 := by omega
      have HY := Lib.hid (fun h => difL_yes (a := (rs, r, ls, es)) (b := (rs2, r2, ls2, es2)) (k := p) h)
      have HN := Lib.hid (fun h => difL_no (a := (rs, r, ls, es)) (b := (rs2, r2, ls2, es2)) (k := p) h)
      have hm := difL_len (rs, r, ls, es) (rs2, r2, ls2, es2) p
      rcases hee : entP es p with ⟨k1, n1, a1, b1, c1⟩
      rcases hff : entP es2 p with ⟨k2, n2, a2, b2, e2⟩
      have hdb := HdB.out p _ _ _ _ _ _ _ _ _ _ hee hff
      rw [hdb] at HY HN
      have HE := Lib.hid (fun W h => rEnt28_any rs r ls es (.agg #[.slice A rs.length c, .int .i64 r, .slice L ls.length cl, .slice B es.length d]) p W h hs HT.out hlp hee)
      have HE2 := Lib.hid (fun W h => rEnt28_any rs2 r2 ls2 es2 (.agg #[.slice A2 rs2.length c2, .int .i64 r2, .slice L2 ls2.length cl2, .slice B2 es2.length d2]) p W h hs2 HT2.out hlp hff)
      have HH := Lib.hid (fun W h => rHas_any A rs.length c rs p W h hn)
      have HH2 := Lib.hid (fun W h => rHas_any A2 rs2.length c2 rs2 p W h hn2)
      rw [hasRg_ok rs p HG.out hlp] at HH
      rw [hasRg_ok rs2 p HG2.out hlp] at HH2
      generalize hasP rs p = ha at *
      generalize hasP rs2 p = hb at *
      clear hdb hee hff HdB
      obtain ⟨cS, fS, lS⟩ := (kS.to hBx).facts
      go_wp2_with fail
      refine (HH.out _ (HA.out.below hBw (Nat.le_refl _))).mono ?_
      rintro e w5 ⟨rfl, hb5⟩
      clear cS fS lS
      replace hBw := bnext hBw hb5
      replace hBx := bnext hBx hb5
      replace hrow := own_below hrow hb5
      clear hb5
      obtain ⟨cU, fU, lU⟩ := (kU.to hBx).facts
      go_wp2_with fail
      refine (HH2.out _ (HA2.out.below hBw (Nat.le_refl _))).mono ?_
      rintro e w6 ⟨rfl, hb6⟩
      clear cU fU lU
      replace hBw := bnext hBw hb6
      replace hBx := bnext hBx hb6
      replace hrow := own_below hrow hb6
      clear hb6 HH HH2
      go_upto_region 12 with fail
      have kSr := kS.to hBx
      have kUr := kU.to hBx
      have s0 := kSr.cell 0
      have s1 := kSr.cell 1
      have s2 := kSr.cell 2
      have s3 := kSr.cell 3
      have t0 := kUr.cell 0
      have t1 := kUr.cell 1
      have t2 := kUr.cell 2
      have t3 := kUr.cell 3
      simp at s0 s1 s2 s3 t0 t1 t2 t3
      have lk1 := kUr.lt
      have hvr := HV.out.to hBw
      have hvr2 := HV2.out.to hBw
      go_cut [13, 14] (fun sa sb wx => ∃ ga gb, sa = .pointer (some ⟨ga, 0, none⟩) ∧ sb = .pointer (some ⟨gb, 0, none⟩) ∧ Bk wx ga #[.int .i64 k1, .int .i64 n1, .bool a1, .bool b1, .bool c1] 52 ∧ Bk wx gb #[.int .i64 k2, .int .i64 n2, .bool a2, .bool b2, .bool e2] 52 ∧ Below w6.heap.size w6 wx)
      case first =>
        clear HC HC2 HY HN HV HV2 HA HA2 hrow
        -- DRAWN
        have hu : (Tryd.prog.underlying 28).map (·.isRow) = some true := by kernel_rfl
        obtain ⟨dd, hu, hd⟩ := Option.map_eq_some_iff.1 hu
        have hal : ∀ (W : World) (ev : Operand → Value) (o : Oper), o.op = Op.alloc 52 → (execOp ev o).run Tryd.prog W = .ok (.value (.pointer (some ⟨W.heap.size, 0, none⟩))) (W.alloc (.cells #[.int .i64 0, .int .i64 0, .bool false, .bool false, .bool false] 52)) := fun W ev o ho => by unfold execOp; simp [ho, go_sem]
        have hcf : ∀ (x y : Value) (W : World), (callFunc 55 #[x, y]).run Tryd.prog W = .ok (.enter 55 #[x, y]) W := fun x y W => by go_simp
        have hB := below_drew (Below.refl w6.heap.size w6)
        have kS9 := kSr.drew
        have kU9 := kUr.drew
        refine wp_region_held_drew (S := fun w' => Bk w' w.heap.size #[.slice A rs.length c, .int .i64 r, .slice L ls.length cl, .slice B es.length d] 28 ∧ Bk w' (w.heap.size + 1) #[.slice A2 rs2.length c2, .int .i64 r2, .slice L2 ls2.length cl2, .slice B2 es2.length d2] 28) (by kernel_rfl) ⟨kS9, kU9⟩ (fun _ => ?_)
        refine takeD 0 (some 42) (.agg #[.slice A rs.length c, .int .i64 r, .slice L ls.length cl, .slice B es.length d]) rfl rfl (by kernel_rfl) (by kernel_rfl) (by kernel_rfl) (fun _ _ _ h => h) (yieldsIf_load_mid (by rfl) 28 _ rfl w.heap.size 0 rfl [.slice A rs.length c, .int .i64 r, .slice L ls.length cl, .slice B es.length d] dd (fun w' e => e.1.range) hu hd (by kernel_rfl)) ⟨kS9, kU9⟩ ?_
        try simp only [Act.put, List.setIfInBounds_toArray, List.set_cons_zero, List.set_cons_succ]
        refine takeD 1 (some 43) (.int .i64 p) rfl rfl (by kernel_rfl) (by kernel_rfl) (by kernel_rfl) (fun _ _ _ h => h) (.inl ⟨rfl, fun w' _ => rfl⟩) ⟨kS9, kU9⟩ ?_
        try simp only [Act.put, List.setIfInBounds_toArray, List.set_cons_zero, List.set_cons_succ]
        refine takeD 3 (some 45) (.agg #[.slice A2 rs2.length c2, .int .i64 r2, .slice L2 ls2.length cl2, .slice B2 es2.length d2]) rfl rfl (by kernel_rfl) (by kernel_rfl) (by kernel_rfl) (fun _ _ _ h => h) (yieldsIf_load_mid (by rfl) 28 _ rfl (w.heap.size + 1) 0 rfl [.slice A2 rs2.length c2, .int .i64 r2, .slice L2 ls2.length cl2, .slice B2 es2.length d2] dd (fun w' e => e.2.range) hu hd (by kernel_rfl)) ⟨kS9, kU9⟩ ?_
        try simp only [Act.put, List.setIfInBounds_toArray, List.set_cons_zero, List.set_cons_succ]
        refine takeD 4 (some 46) (.int .i64 p) rfl rfl (by kernel_rfl) (by kernel_rfl) (by kernel_rfl) (fun _ _ _ h => h) (.inl ⟨rfl, fun w' _ => rfl⟩) ⟨kS9, kU9⟩ ?_
        try simp only [Act.put, List.setIfInBounds_toArray, List.set_cons_zero, List.set_cons_succ]
        have hwlt : w.heap.size + 1 < w6.drew.heap.size := lk1
        generalize hw_d : w6.drew = wd at *
        refine wpAnyH_all (rs := [2, 6, 7]) (by kernel_rfl) (by simp) (fun i hi => ?_)
        simp only [List.mem_cons, List.not_mem_nil, or_false] at hi
        rcases hi with rfl | rfl | rfl
        · skip
          refine callD 2 (some 44) rfl rfl rfl (f := 55) (args := #[.agg #[.slice A rs.length c, .int .i64 r, .slice L ls.length cl, .slice B es.length d], .int .i64 p]) (run_call2 (vx := .agg #[.slice A rs.length c, .int .i64 r, .slice L ls.length cl, .slice B es.length d]) (vy := .int .i64 p) (x := .tmp 42) (y := .tmp 43) rfl rfl rfl rfl (hcf _ _) _) (HE.out _ (SpV.to hvr (show Below w6.heap.size w6 wd from hB))) ?_
          rintro e wc1 ⟨rfl, hb_wc1⟩
          refine ⟨_, rfl, ⟨kS9.to hb_wc1, kU9.to hb_wc1⟩, ?_⟩
          replace kS9 := kS9.to hb_wc1
          replace kU9 := kU9.to hb_wc1
          have hz_wc1 := hB.size
          replace hB := hB.trans (hb_wc1.mono (by omega))
          try simp only [Act.put, List.setIfInBounds_toArray, List.set_cons_zero, List.set_cons_succ]
          refine wpAnyH_all (rs := [5, 6, 7]) (by kernel_rfl) (by simp) (fun i hi => ?_)
          simp only [List.mem_cons, List.not_mem_nil, or_false] at hi
          rcases hi with rfl | rfl | rfl
          · skip
            refine callD 5 (some 47) rfl rfl rfl (f := 55) (args := #[.agg #[.slice A2 rs2.length c2, .int .i64 r2, .slice L2 ls2.length cl2, .slice B2 es2.length d2], .int .i64 p]) (run_call2 (vx := .agg #[.slice A2 rs2.length c2, .int .i64 r2, .slice L2 ls2.length cl2, .slice B2 es2.length d2]) (vy := .int .i64 p) (x := .tmp 45) (y := .tmp 46) rfl rfl rfl rfl (hcf _ _) _) (HE2.out _ (SpV.to hvr2 (show Below w6.heap.size w6 wc1 from hB))) ?_
            rintro e wc2 ⟨rfl, hb_wc2⟩
            refine ⟨_, rfl, ⟨kS9.to hb_wc2, kU9.to hb_wc2⟩, ?_⟩
            replace kS9 := kS9.to hb_wc2
            replace kU9 := kU9.to hb_wc2
            have hz_wc2 := hB.size
            replace hB := hB.trans (hb_wc2.mono (by omega))
            try simp only [Act.put, List.setIfInBounds_toArray, List.set_cons_zero, List.set_cons_succ]
            refine wpAnyH_all (rs := [6, 7]) (by kernel_rfl) (by simp) (fun i hi => ?_)
            simp only [List.mem_cons, List.not_mem_nil, or_false] at hi
            rcases hi with rfl | rfl
            · skip
              refine valD 6 (some 13) rfl rfl rfl (hal _ _ _ rfl) ⟨⟨kS9.alloc _, kU9.alloc _⟩, ?_⟩
              have kA := Bk.new wc2 #[.int .i64 0, .int .i64 0, .bool false, .bool false, .bool false] 52
              replace kS9 := kS9.alloc (.cells #[.int .i64 0, .int .i64 0, .bool false, .bool false, .bool false] 52)
              replace kU9 := kU9.alloc (.cells #[.int .i64 0, .int .i64 0, .bool false, .bool false, .bool false] 52)
              have hz_wn3 := hB.size
              replace hB := hB.alloc (by omega) (.cells #[.int .i64 0, .int .i64 0, .bool false, .bool false, .bool false] 52)
              generalize hw_wn3 : wc2.alloc (.cells #[.int .i64 0, .int .i64 0, .bool false, .bool false, .bool false] 52) = wn3 at *
              try simp only [Act.put, List.setIfInBounds_toArray, List.set_cons_zero, List.set_cons_succ]
              refine wpAnyH_all (rs := [7]) (by kernel_rfl) (by simp) (fun i hi => ?_)
              obtain rfl : i = 7 := by simpa using hi
              refine valD 7 (some 14) rfl rfl rfl (hal _ _ _ rfl) ⟨⟨kS9.alloc _, kU9.alloc _⟩, ?_⟩
              have kB := Bk.new wn3 #[.int .i64 0, .int .i64 0, .bool false, .bool false, .bool false] 52
              replace kS9 := kS9.alloc (.cells #[.int .i64 0, .int .i64 0, .bool false, .bool false, .bool false] 52)
              replace kU9 := kU9.alloc (.cells #[.int .i64 0, .int .i64 0, .bool false, .bool false, .bool false] 52)
              have hne : wc2.heap.size ≠ wn3.heap.size := Nat.ne_of_lt kA.lt
              replace kA := kA.alloc (.cells #[.int .i64 0, .int .i64 0, .bool false, .bool false, .bool false] 52)
              have hz_wn4 := hB.size
              replace hB := hB.alloc (by omega) (.cells #[.int .i64 0, .int .i64 0, .bool false, .bool false, .bool false] 52)
              generalize hw_wn4 : wn3.alloc (.cells #[.int .i64 0, .int .i64 0, .bool false, .bool false, .bool false] 52) = wn4 at *
              try simp only [Act.put, List.setIfInBounds_toArray, List.set_cons_zero, List.set_cons_succ]
              refine wpAnyH_all (rs := [8]) (by kernel_rfl) (by simp) (fun i hi => ?_)
              obtain rfl : i = 8 := by simpa using hi
              have kN := kA.row #[.int .i64 k1, .int .i64 n1, .bool a1, .bool b1, .bool c1]
              have kO := kB.rowfar hne.symm #[.int .i64 k1, .int .i64 n1, .bool a1, .bool b1, .bool c1]
              have hBn := below_row hB (show w6.heap.size ≤ wc2.heap.size by omega) #[.int .i64 k1, .int .i64 n1, .bool a1, .bool b1, .bool c1]
              have n_kS9 := kS9.rowfar (show _ ≠ wc2.heap.size by omega) #[.int .i64 k1, .int .i64 n1, .bool a1, .bool b1, .bool c1]
              have n_kU9 := kU9.rowfar (show _ ≠ wc2.heap.size by omega) #[.int .i64 k1, .int .i64 n1, .bool a1, .bool b1, .bool c1]
              refine storeD 8 rfl rfl rfl 52 _ _ rfl (wc2.heap.size) #[.int .i64 k1, .int .i64 n1, .bool a1, .bool b1, .bool c1] rfl rfl 52 _ kA (by kernel_rfl) rfl (all_oneCell_toArray (fun v hv => by simp at hv; rcases hv with rfl | rfl | rfl | rfl | rfl <;> rfl)) ⟨⟨n_kS9, n_kU9⟩, ?_⟩
              generalize World.setRow wn4 (wc2.heap.size) #[.int .i64 k1, .int .i64 n1, .bool a1, .bool b1, .bool c1] = wz5 at *
              replace kA := kN
              replace kB := kO
              replace hB := hBn
              replace kS9 := n_kS9
              replace kU9 := n_kU9
              clear kN kO hBn n_kS9 n_kU9
              try simp only [Act.put, List.setIfInBounds_toArray, List.set_cons_zero, List.set_cons_succ]
              refine wpAnyH_all (rs := [9]) (by kernel_rfl) (by simp) (fun i hi => ?_)
              obtain rfl : i = 9 := by simpa using hi
              have kN := kB.row #[.int .i64 k2, .int .i64 n2, .bool a2, .bool b2, .bool e2]
              have kO := kA.rowfar hne #[.int .i64 k2, .int .i64 n2, .bool a2, .bool b2, .bool e2]
              have hBn := below_row hB (show w6.heap.size ≤ wn3.heap.size by omega) #[.int .i64 k2, .int .i64 n2, .bool a2, .bool b2, .bool e2]
              have n_kS9 := kS9.rowfar (show _ ≠ wn3.heap.size by omega) #[.int .i64 k2, .int .i64 n2, .bool a2, .bool b2, .bool e2]
              have n_kU9 := kU9.rowfar (show _ ≠ wn3.heap.size by omega) #[.int .i64 k2, .int .i64 n2, .bool a2, .bool b2, .bool e2]
              refine storeD 9 rfl rfl rfl 52 _ _ rfl (wn3.heap.size) #[.int .i64 k2, .int .i64 n2, .bool a2, .bool b2, .bool e2] rfl rfl 52 _ kB (by kernel_rfl) rfl (all_oneCell_toArray (fun v hv => by simp at hv; rcases hv with rfl | rfl | rfl | rfl | rfl <;> rfl)) ⟨⟨n_kS9, n_kU9⟩, ?_⟩
              generalize World.setRow wz5 (wn3.heap.size) #[.int .i64 k2, .int .i64 n2, .bool a2, .bool b2, .bool e2] = wz6 at *
              replace kB := kN
              replace kA := kO
              replace hB := hBn
              replace kS9 := n_kS9
              replace kU9 := n_kU9
              clear kN kO hBn n_kS9 n_kU9
              try simp only [Act.put, List.setIfInBounds_toArray, List.set_cons_zero, List.set_cons_succ]
              refine wpAnyH_done (by kernel_rfl) ?_ _
              try go_frame
              go_wp2_with fail
              go_meet
              exact ⟨_, _, rfl, rfl, kA, kB, hB⟩
            · skip
              refine valD 7 (some 14) rfl rfl rfl (hal _ _ _ rfl) ⟨⟨kS9.alloc _, kU9.alloc _⟩, ?_⟩
              have kB := Bk.new wc2 #[.int .i64 0, .int .i64 0, .bool false, .bool false, .bool false] 52
              replace kS9 := kS9.alloc (.cells #[.int .i64 0, .int .i64 0, .bool false, .bool false, .bool false] 52)
              replace kU9 := kU9.alloc (.cells #[.int .i64 0, .int .i64 0, .bool false, .bool false, .bool false] 52)
              have hz_wn7 := hB.size
              replace hB := hB.alloc (by omega) (.cells #[.int .i64 0, .int .i64 0, .bool false, .bool false, .bool false] 52)
              generalize hw_wn7 : wc2.alloc (.cells #[.int .i64 0, .int .i64 0, .bool false, .bool false, .bool false] 52) = wn7 at *
              try simp only [Act.put, List.setIfInBounds_toArray, List.set_cons_zero, List.set_cons_succ]
              refine wpAnyH_all (rs := [6]) (by kernel_rfl) (by simp) (fun i hi => ?_)
              obtain rfl : i = 6 := by simpa using hi
              refine valD 6 (some 13) rfl rfl rfl (hal _ _ _ rfl) ⟨⟨kS9.alloc _, kU9.alloc _⟩, ?_⟩
              have kA := Bk.new wn7 #[.int .i64 0, .int .i64 0, .bool false, .bool false, .bool false] 52
              replace kS9 := kS9.alloc (.cells #[.int .i64 0, .int .i64 0, .bool false, .bool false, .bool false] 52)
              replace kU9 := kU9.alloc (.cells #[.int .i64 0, .int .i64 0, .bool false, .bool false, .bool false] 52)
              have hne : wn7.heap.size ≠ wc2.heap.size := (Nat.ne_of_lt kB.lt).symm
              replace kB := kB.alloc (.cells #[.int .i64 0, .int .i64 0, .bool false, .bool false, .bool false] 52)
              have hz_wn8 := hB.size
              replace hB := hB.alloc (by omega) (.cells #[.int .i64 0, .int .i64 0, .bool false, .bool false, .bool false] 52)
              generalize hw_wn8 : wn7.alloc (.cells #[.int .i64 0, .int .i64 0, .bool false, .bool false, .bool false] 52) = wn8 at *
              try simp only [Act.put, List.setIfInBounds_toArray, List.set_cons_zero, List.set_cons_succ]
              refine wpAnyH_all (rs := [8]) (by kernel_rfl) (by simp) (fun i hi => ?_)
              obtain rfl : i = 8 := by simpa using hi
              have kN := kA.row #[.int .i64 k1, .int .i64 n1, .bool a1, .bool b1, .bool c1]
              have kO := kB.rowfar hne.symm #[.int .i64 k1, .int .i64 n1, .bool a1, .bool b1, .bool c1]
              have hBn := below_row hB (show w6.heap.size ≤ wn7.heap.size by omega) #[.int .i64 k1, .int .i64 n1, .bool a1, .bool b1, .bool c1]
              have n_kS9 := kS9.rowfar (show _ ≠ wn7.heap.size by omega) #[.int .i64 k1, .int .i64 n1, .bool a1, .bool b1, .bool c1]
              have n_kU9 := kU9.rowfar (show _ ≠ wn7.heap.size by omega) #[.int .i64 k1, .int .i64 n1, .bool a1, .bool b1, .bool c1]
              refine storeD 8 rfl rfl rfl 52 _ _ rfl (wn7.heap.size) #[.int .i64 k1, .int .i64 n1, .bool a1, .bool b1, .bool c1] rfl rfl 52 _ kA (by kernel_rfl) rfl (all_oneCell_toArray (fun v hv => by simp at hv; rcases hv with rfl | rfl | rfl | rfl | rfl <;> rfl)) ⟨⟨n_kS9, n_kU9⟩, ?_⟩
              generalize World.setRow wn8 (wn7.heap.size) #[.int .i64 k1, .int .i64 n1, .bool a1, .bool b1, .bool c1] = wz9 at *
              replace kA := kN
              replace kB := kO
              replace hB := hBn
              replace kS9 := n_kS9
              replace kU9 := n_kU9
              clear kN kO hBn n_kS9 n_kU9
              try simp only [Act.put, List.setIfInBounds_toArray, List.set_cons_zero, List.set_cons_succ]
              refine wpAnyH_all (rs := [9]) (by kernel_rfl) (by simp) (fun i hi => ?_)
              obtain rfl : i = 9 := by simpa using hi
              have kN := kB.row #[.int .i64 k2, .int .i64 n2, .bool a2, .bool b2, .bool e2]
              have kO := kA.rowfar hne #[.int .i64 k2, .int .i64 n2, .bool a2, .bool b2, .bool e2]
              have hBn := below_row hB (show w6.heap.size ≤ wc2.heap.size by omega) #[.int .i64 k2, .int .i64 n2, .bool a2, .bool b2, .bool e2]
              have n_kS9 := kS9.rowfar (show _ ≠ wc2.heap.size by omega) #[.int .i64 k2, .int .i64 n2, .bool a2, .bool b2, .bool e2]
              have n_kU9 := kU9.rowfar (show _ ≠ wc2.heap.size by omega) #[.int .i64 k2, .int .i64 n2, .bool a2, .bool b2, .bool e2]
              refine storeD 9 rfl rfl rfl 52 _ _ rfl (wc2.heap.size) #[.int .i64 k2, .int .i64 n2, .bool a2, .bool b2, .bool e2] rfl rfl 52 _ kB (by kernel_rfl) rfl (all_oneCell_toArray (fun v hv => by simp at hv; rcases hv with rfl | rfl | rfl | rfl | rfl <;> rfl)) ⟨⟨n_kS9, n_kU9⟩, ?_⟩
              generalize World.setRow wz9 (wc2.heap.size) #[.int .i64 k2, .int .i64 n2, .bool a2, .bool b2, .bool e2] = wz10 at *
              replace kB := kN
              replace kA := kO
              replace hB := hBn
              replace kS9 := n_kS9
              replace kU9 := n_kU9
              clear kN kO hBn n_kS9 n_kU9
              try simp only [Act.put, List.setIfInBounds_toArray, List.set_cons_zero, List.set_cons_succ]
              refine wpAnyH_done (by kernel_rfl) ?_ _
              try go_frame
              go_wp2_with fail
              go_meet
              exact ⟨_, _, rfl, rfl, kA, kB, hB⟩
          · skip
            refine valD 6 (some 13) rfl rfl rfl (hal _ _ _ rfl) ⟨⟨kS9.alloc _, kU9.alloc _⟩, ?_⟩
            have kA := Bk.new wc1 #[.int .i64 0, .int .i64 0, .bool false, .bool false, .bool false] 52
            replace kS9 := kS9.alloc (.cells #[.int .i64 0, .int .i64 0, .bool false, .bool false, .bool false] 52)
            replace kU9 := kU9.alloc (.cells #[.int .i64 0, .int .i64 0, .bool false, .bool false, .bool false] 52)
            have hz_wn11 := hB.size
            replace hB := hB.alloc (by omega) (.cells #[.int .i64 0, .int .i64 0, .bool false, .bool false, .bool false] 52)
            generalize hw_wn11 : wc1.alloc (.cells #[.int .i64 0, .int .i64 0, .bool false, .bool false, .bool false] 52) = wn11 at *
            try simp only [Act.put, List.setIfInBounds_toArray, List.set_cons_zero, List.set_cons_succ]
            refine wpAnyH_all (rs := [5, 7]) (by kernel_rfl) (by simp) (fun i hi => ?_)
            simp only [List.mem_cons, List.not_mem_nil, or_false] at hi
            rcases hi with rfl | rfl
            · skip
              refine callD 5 (some 47) rfl rfl rfl (f := 55) (args := #[.agg #[.slice A2 rs2.length c2, .int .i64 r2, .slice L2 ls2.length cl2, .slice B2 es2.length d2], .int .i64 p]) (run_call2 (vx := .agg #[.slice A2 rs2.length c2, .int .i64 r2, .slice L2 ls2.length cl2, .slice B2 es2.length d2]) (vy := .int .i64 p) (x := .tmp 45) (y := .tmp 46) rfl rfl rfl rfl (hcf _ _) _) (HE2.out _ (SpV.to hvr2 (show Below w6.heap.size w6 wn11 from hB))) ?_
              rintro e wc12 ⟨rfl, hb_wc12⟩
              refine ⟨_, rfl, ⟨kS9.to hb_wc12, kU9.to hb_wc12⟩, ?_⟩
              replace kS9 := kS9.to hb_wc12
              replace kU9 := kU9.to hb_wc12
              replace kA := kA.to hb_wc12
              have hz_wc12 := hB.size
              replace hB := hB.trans (hb_wc12.mono (by omega))
              try simp only [Act.put, List.setIfInBounds_toArray, List.set_cons_zero, List.set_cons_succ]
              refine wpAnyH_all (rs := [7]) (by kernel_rfl) (by simp) (fun i hi => ?_)
              obtain rfl : i = 7 := by simpa using hi
              refine valD 7 (some 14) rfl rfl rfl (hal _ _ _ rfl) ⟨⟨kS9.alloc _, kU9.alloc _⟩, ?_⟩
              have kB := Bk.new wc12 #[.int .i64 0, .int .i64 0, .bool false, .bool false, .bool false] 52
              replace kS9 := kS9.alloc (.cells #[.int .i64 0, .int .i64 0, .bool false, .bool false, .bool false] 52)
              replace kU9 := kU9.alloc (.cells #[.int .i64 0, .int .i64 0, .bool false, .bool false, .bool false] 52)
              have hne : wc1.heap.size ≠ wc12.heap.size := Nat.ne_of_lt kA.lt
              replace kA := kA.alloc (.cells #[.int .i64 0, .int .i64 0, .bool false, .bool false, .bool false] 52)
              have hz_wn13 := hB.size
              replace hB := hB.alloc (by omega) (.cells #[.int .i64 0, .int .i64 0, .bool false, .bool false, .bool false] 52)
              generalize hw_wn13 : wc12.alloc (.cells #[.int .i64 0, .int .i64 0, .bool false, .bool false, .bool false] 52) = wn13 at *
              try simp only [Act.put, List.setIfInBounds_toArray, List.set_cons_zero, List.set_cons_succ]
              refine wpAnyH_all (rs := [8]) (by kernel_rfl) (by simp) (fun i hi => ?_)
              obtain rfl : i = 8 := by simpa using hi
              have kN := kA.row #[.int .i64 k1, .int .i64 n1, .bool a1, .bool b1, .bool c1]
              have kO := kB.rowfar hne.symm #[.int .i64 k1, .int .i64 n1, .bool a1, .bool b1, .bool c1]
              have hBn := below_row hB (show w6.heap.size ≤ wc1.heap.size by omega) #[.int .i64 k1, .int .i64 n1, .bool a1, .bool b1, .bool c1]
              have n_kS9 := kS9.rowfar (show _ ≠ wc1.heap.size by omega) #[.int .i64 k1, .int .i64 n1, .bool a1, .bool b1, .bool c1]
              have n_kU9 := kU9.rowfar (show _ ≠ wc1.heap.size by omega) #[.int .i64 k1, .int .i64 n1, .bool a1, .bool b1, .bool c1]
              refine storeD 8 rfl rfl rfl 52 _ _ rfl (wc1.heap.size) #[.int .i64 k1, .int .i64 n1, .bool a1, .bool b1, .bool c1] rfl rfl 52 _ kA (by kernel_rfl) rfl (all_oneCell_toArray (fun v hv => by simp at hv; rcases hv with rfl | rfl | rfl | rfl | rfl <;> rfl)) ⟨⟨n_kS9, n_kU9⟩, ?_⟩
              generalize World.setRow wn13 (wc1.heap.size) #[.int .i64 k1, .int .i64 n1, .bool a1, .bool b1, .bool c1] = wz14 at *
              replace kA := kN
              replace kB := kO
              replace hB := hBn
              replace kS9 := n_kS9
              replace kU9 := n_kU9
              clear kN kO hBn n_kS9 n_kU9
              try simp only [Act.put, List.setIfInBounds_toArray, List.set_cons_zero, List.set_cons_succ]
              refine wpAnyH_all (rs := [9]) (by kernel_rfl) (by simp) (fun i hi => ?_)
              obtain rfl : i = 9 := by simpa using hi
              have kN := kB.row #[.int .i64 k2, .int .i64 n2, .bool a2, .bool b2, .bool e2]
              have kO := kA.rowfar hne #[.int .i64 k2, .int .i64 n2, .bool a2, .bool b2, .bool e2]
              have hBn := below_row hB (show w6.heap.size ≤ wc12.heap.size by omega) #[.int .i64 k2, .int .i64 n2, .bool a2, .bool b2, .bool e2]
              have n_kS9 := kS9.rowfar (show _ ≠ wc12.heap.size by omega) #[.int .i64 k2, .int .i64 n2, .bool a2, .bool b2, .bool e2]
              have n_kU9 := kU9.rowfar (show _ ≠ wc12.heap.size by omega) #[.int .i64 k2, .int .i64 n2, .bool a2, .bool b2, .bool e2]
              refine storeD 9 rfl rfl rfl 52 _ _ rfl (wc12.heap.size) #[.int .i64 k2, .int .i64 n2, .bool a2, .bool b2, .bool e2] rfl rfl 52 _ kB (by kernel_rfl) rfl (all_oneCell_toArray (fun v hv => by simp at hv; rcases hv with rfl | rfl | rfl | rfl | rfl <;> rfl)) ⟨⟨n_kS9, n_kU9⟩, ?_⟩
              generalize World.setRow wz14 (wc12.heap.size) #[.int .i64 k2, .int .i64 n2, .bool a2, .bool b2, .bool e2] = wz15 at *
              replace kB := kN
              replace kA := kO
              replace hB := hBn
              replace kS9 := n_kS9
              replace kU9 := n_kU9
              clear kN kO hBn n_kS9 n_kU9
              try simp only [Act.put, List.setIfInBounds_toArray, List.set_cons_zero, List.set_cons_succ]
              refine wpAnyH_done (by kernel_rfl) ?_ _
              try go_frame
              go_wp2_with fail
              go_meet
              exact ⟨_, _, rfl, rfl, kA, kB, hB⟩
            · skip
              refine valD 7 (some 14) rfl rfl rfl (hal _ _ _ rfl) ⟨⟨kS9.alloc _, kU9.alloc _⟩, ?_⟩
              have kB := Bk.new wn11 #[.int .i64 0, .int .i64 0, .bool false, .bool false, .bool false] 52
              replace kS9 := kS9.alloc (.cells #[.int .i64 0, .int .i64 0, .bool false, .bool false, .bool false] 52)
              replace kU9 := kU9.alloc (.cells #[.int .i64 0, .int .i64 0, .bool false, .bool false, .bool false] 52)
              have hne : wc1.heap.size ≠ wn11.heap.size := Nat.ne_of_lt kA.lt
              replace kA := kA.alloc (.cells #[.int .i64 0, .int .i64 0, .bool false, .bool false, .bool false] 52)
              have hz_wn16 := hB.size
              replace hB := hB.alloc (by omega) (.cells #[.int .i64 0, .int .i64 0, .bool false, .bool false, .bool false] 52)
              generalize hw_wn16 : wn11.alloc (.cells #[.int .i64 0, .int .i64 0, .bool false, .bool false, .bool false] 52) = wn16 at *
              try simp only [Act.put, List.setIfInBounds_toArray, List.set_cons_zero, List.set_cons_succ]
              refine wpAnyH_all (rs := [5]) (by kernel_rfl) (by simp) (fun i hi => ?_)
              obtain rfl : i = 5 := by simpa using hi
              refine callD 5 (some 47) rfl rfl rfl (f := 55) (args := #[.agg #[.slice A2 rs2.length c2, .int .i64 r2, .slice L2 ls2.length cl2, .slice B2 es2.length d2], .int .i64 p]) (run_call2 (vx := .agg #[.slice A2 rs2.length c2, .int .i64 r2, .slice L2 ls2.length cl2, .slice B2 es2.length d2]) (vy := .int .i64 p) (x := .tmp 45) (y := .tmp 46) rfl rfl rfl rfl (hcf _ _) _) (HE2.out _ (SpV.to hvr2 (show Below w6.heap.size w6 wn16 from hB))) ?_
              rintro e wc17 ⟨rfl, hb_wc17⟩
              refine ⟨_, rfl, ⟨kS9.to hb_wc17, kU9.to hb_wc17⟩, ?_⟩
              replace kS9 := kS9.to hb_wc17
              replace kU9 := kU9.to hb_wc17
              replace kA := kA.to hb_wc17
              replace kB := kB.to hb_wc17
              have hz_wc17 := hB.size
              replace hB := hB.trans (hb_wc17.mono (by omega))
              try simp only [Act.put, List.setIfInBounds_toArray, List.set_cons_zero, List.set_cons_succ]
              refine wpAnyH_all (rs := [8]) (by kernel_rfl) (by simp) (fun i hi => ?_)
              obtain rfl : i = 8 := by simpa using hi
              have kN := kA.row #[.int .i64 k1, .int .i64 n1, .bool a1, .bool b1, .bool c1]
              have kO := kB.rowfar hne.symm #[.int .i64 k1, .int .i64 n1, .bool a1, .bool b1, .bool c1]
              have hBn := below_row hB (show w6.heap.size ≤ wc1.heap.size by omega) #[.int .i64 k1, .int .i64 n1, .bool a1, .bool b1, .bool c1]
              have n_kS9 := kS9.rowfar (show _ ≠ wc1.heap.size by omega) #[.int .i64 k1, .int .i64 n1, .bool a1, .bool b1, .bool c1]
              have n_kU9 := kU9.rowfar (show _ ≠ wc1.heap.size by omega) #[.int .i64 k1, .int .i64 n1, .bool a1, .bool b1, .bool c1]
              refine storeD 8 rfl rfl rfl 52 _ _ rfl (wc1.heap.size) #[.int .i64 k1, .int .i64 n1, .bool a1, .bool b1, .bool c1] rfl rfl 52 _ kA (by kernel_rfl) rfl (all_oneCell_toArray (fun v hv => by simp at hv; rcases hv with rfl | rfl | rfl | rfl | rfl <;> rfl)) ⟨⟨n_kS9, n_kU9⟩, ?_⟩
              generalize World.setRow wc17 (wc1.heap.size) #[.int .i64 k1, .int .i64 n1, .bool a1, .bool b1, .bool c1] = wz18 at *
              replace kA := kN
              replace kB := kO
              replace hB := hBn
              replace kS9 := n_kS9
              replace kU9 := n_kU9
              clear kN kO hBn n_kS9 n_kU9
              try simp only [Act.put, List.setIfInBounds_toArray, List.set_cons_zero, List.set_cons_succ]
              refine wpAnyH_all (rs := [9]) (by kernel_rfl) (by simp) (fun i hi => ?_)
              obtain rfl : i = 9 := by simpa using hi
              have kN := kB.row #[.int .i64 k2, .int .i64 n2, .bool a2, .bool b2, .bool e2]
              have kO := kA.rowfar hne #[.int .i64 k2, .int .i64 n2, .bool a2, .bool b2, .bool e2]
              have hBn := below_row hB (show w6.heap.size ≤ wn11.heap.size by omega) #[.int .i64 k2, .int .i64 n2, .bool a2, .bool b2, .bool e2]
              have n_kS9 := kS9.rowfar (show _ ≠ wn11.heap.size by omega) #[.int .i64 k2, .int .i64 n2, .bool a2, .bool b2, .bool e2]
              have n_kU9 := kU9.rowfar (show _ ≠ wn11.heap.size by omega) #[.int .i64 k2, .int .i64 n2, .bool a2, .bool b2, .bool e2]
              refine storeD 9 rfl rfl rfl 52 _ _ rfl (wn11.heap.size) #[.int .i64 k2, .int .i64 n2, .bool a2, .bool b2, .bool e2] rfl rfl 52 _ kB (by kernel_rfl) rfl (all_oneCell_toArray (fun v hv => by simp at hv; rcases hv with rfl | rfl | rfl | rfl | rfl <;> rfl)) ⟨⟨n_kS9, n_kU9⟩, ?_⟩
              generalize World.setRow wz18 (wn11.heap.size) #[.int .i64 k2, .int .i64 n2, .bool a2, .bool b2, .bool e2] = wz19 at *
              replace kB := kN
              replace kA := kO
              replace hB := hBn
              replace kS9 := n_kS9
              replace kU9 := n_kU9
              clear kN kO hBn n_kS9 n_kU9
              try simp only [Act.put, List.setIfInBounds_toArray, List.set_cons_zero, List.set_cons_succ]
              refine wpAnyH_done (by kernel_rfl) ?_ _
              try go_frame
              go_wp2_with fail
              go_meet
              exact ⟨_, _, rfl, rfl, kA, kB, hB⟩
          · skip
            refine valD 7 (some 14) rfl rfl rfl (hal _ _ _ rfl) ⟨⟨kS9.alloc _, kU9.alloc _⟩, ?_⟩
            have kB := Bk.new wc1 #[.int .i64 0, .int .i64 0, .bool false, .bool false, .bool false] 52
            replace kS9 := kS9.alloc (.cells #[.int .i64 0, .int .i64 0, .bool false, .bool false, .bool false] 52)
            replace kU9 := kU9.alloc (.cells #[.int .i64 0, .int .i64 0, .bool false, .bool false, .bool false] 52)
            have hz_wn20 := hB.size
            replace hB := hB.alloc (by omega) (.cells #[.int .i64 0, .int .i64 0, .bool false, .bool false, .bool false] 52)
            generalize hw_wn20 : wc1.alloc (.cells #[.int .i64 0, .int .i64 0, .bool false, .bool false, .bool false] 52) = wn20 at *
            try simp only [Act.put, List.setIfInBounds_toArray, List.set_cons_zero, List.set_cons_succ]
            refine wpAnyH_all (rs := [5, 6]) (by kernel_rfl) (by simp) (fun i hi => ?_)
            simp only [List.mem_cons, List.not_mem_nil, or_false] at hi
            rcases hi with rfl | rfl
            · skip
              refine callD 5 (some 47) rfl rfl rfl (f := 55) (args := #[.agg #[.slice A2 rs2.length c2, .int .i64 r2, .slice L2 ls2.length cl2, .slice B2 es2.length d2], .int .i64 p]) (run_call2 (vx := .agg #[.slice A2 rs2.length c2, .int .i64 r2, .slice L2 ls2.length cl2, .slice B2 es2.length d2]) (vy := .int .i64 p) (x := .tmp 45) (y := .tmp 46) rfl rfl rfl rfl (hcf _ _) _) (HE2.out _ (SpV.to hvr2 (show Below w6.heap.size w6 wn20 from hB))) ?_
              rintro e wc21 ⟨rfl, hb_wc21⟩
              refine ⟨_, rfl, ⟨kS9.to hb_wc21, kU9.to hb_wc21⟩, ?_⟩
              replace kS9 := kS9.to hb_wc21
              replace kU9 := kU9.to hb_wc21
              replace kB := kB.to hb_wc21
              have hz_wc21 := hB.size
              replace hB := hB.trans (hb_wc21.mono (by omega))
              try simp only [Act.put, List.setIfInBounds_toArray, List.set_cons_zero, List.set_cons_succ]
              refine wpAnyH_all (rs := [6]) (by kernel_rfl) (by simp) (fun i hi => ?_)
              obtain rfl : i = 6 := by simpa using hi
              refine valD 6 (some 13) rfl rfl rfl (hal _ _ _ rfl) ⟨⟨kS9.alloc _, kU9.alloc _⟩, ?_⟩
              have kA := Bk.new wc21 #[.int .i64 0, .int .i64 0, .bool false, .bool false, .bool false] 52
              replace kS9 := kS9.alloc (.cells #[.int .i64 0, .int .i64 0, .bool false, .bool false, .bool false] 52)
              replace kU9 := kU9.alloc (.cells #[.int .i64 0, .int .i64 0, .bool false, .bool false, .bool false] 52)
              have hne : wc21.heap.size ≠ wc1.heap.size := (Nat.ne_of_lt kB.lt).symm
              replace kB := kB.alloc (.cells #[.int .i64 0, .int .i64 0, .bool false, .bool false, .bool false] 52)
              have hz_wn22 := hB.size
              replace hB := hB.alloc (by omega) (.cells #[.int .i64 0, .int .i64 0, .bool false, .bool false, .bool false] 52)
              generalize hw_wn22 : wc21.alloc (.cells #[.int .i64 0, .int .i64 0, .bool false, .bool false, .bool false] 52) = wn22 at *
              try simp only [Act.put, List.setIfInBounds_toArray, List.set_cons_zero, List.set_cons_succ]
              refine wpAnyH_all (rs := [8]) (by kernel_rfl) (by simp) (fun i hi => ?_)
              obtain rfl : i = 8 := by simpa using hi
              have kN := kA.row #[.int .i64 k1, .int .i64 n1, .bool a1, .bool b1, .bool c1]
              have kO := kB.rowfar hne.symm #[.int .i64 k1, .int .i64 n1, .bool a1, .bool b1, .bool c1]
              have hBn := below_row hB (show w6.heap.size ≤ wc21.heap.size by omega) #[.int .i64 k1, .int .i64 n1, .bool a1, .bool b1, .bool c1]
              have n_kS9 := kS9.rowfar (show _ ≠ wc21.heap.size by omega) #[.int .i64 k1, .int .i64 n1, .bool a1, .bool b1, .bool c1]
              have n_kU9 := kU9.rowfar (show _ ≠ wc21.heap.size by omega) #[.int .i64 k1, .int .i64 n1, .bool a1, .bool b1, .bool c1]
              refine storeD 8 rfl rfl rfl 52 _ _ rfl (wc21.heap.size) #[.int .i64 k1, .int .i64 n1, .bool a1, .bool b1, .bool c1] rfl rfl 52 _ kA (by kernel_rfl) rfl (all_oneCell_toArray (fun v hv => by simp at hv; rcases hv with rfl | rfl | rfl | rfl | rfl <;> rfl)) ⟨⟨n_kS9, n_kU9⟩, ?_⟩
              generalize World.setRow wn22 (wc21.heap.size) #[.int .i64 k1, .int .i64 n1, .bool a1, .bool b1, .bool c1] = wz23 at *
              replace kA := kN
              replace kB := kO
              replace hB := hBn
              replace kS9 := n_kS9
              replace kU9 := n_kU9
              clear kN kO hBn n_kS9 n_kU9
              try simp only [Act.put, List.setIfInBounds_toArray, List.set_cons_zero, List.set_cons_succ]
              refine wpAnyH_all (rs := [9]) (by kernel_rfl) (by simp) (fun i hi => ?_)
              obtain rfl : i = 9 := by simpa using hi
              have kN := kB.row #[.int .i64 k2, .int .i64 n2, .bool a2, .bool b2, .bool e2]
              have kO := kA.rowfar hne #[.int .i64 k2, .int .i64 n2, .bool a2, .bool b2, .bool e2]
              have hBn := below_row hB (show w6.heap.size ≤ wc1.heap.size by omega) #[.int .i64 k2, .int .i64 n2, .bool a2, .bool b2, .bool e2]
              have n_kS9 := kS9.rowfar (show _ ≠ wc1.heap.size by omega) #[.int .i64 k2, .int .i64 n2, .bool a2, .bool b2, .bool e2]
              have n_kU9 := kU9.rowfar (show _ ≠ wc1.heap.size by omega) #[.int .i64 k2, .int .i64 n2, .bool a2, .bool b2, .bool e2]
              refine storeD 9 rfl rfl rfl 52 _ _ rfl (wc1.heap.size) #[.int .i64 k2, .int .i64 n2, .bool a2, .bool b2, .bool e2] rfl rfl 52 _ kB (by kernel_rfl) rfl (all_oneCell_toArray (fun v hv => by simp at hv; rcases hv with rfl | rfl | rfl | rfl | rfl <;> rfl)) ⟨⟨n_kS9, n_kU9⟩, ?_⟩
              generalize World.setRow wz23 (wc1.heap.size) #[.int .i64 k2, .int .i64 n2, .bool a2, .bool b2, .bool e2] = wz24 at *
              replace kB := kN
              replace kA := kO
              replace hB := hBn
              replace kS9 := n_kS9
              replace kU9 := n_kU9
              clear kN kO hBn n_kS9 n_kU9
              try simp only [Act.put, List.setIfInBounds_toArray, List.set_cons_zero, List.set_cons_succ]
              refine wpAnyH_done (by kernel_rfl) ?_ _
              try go_frame
              go_wp2_with fail
              go_meet
              exact ⟨_, _, rfl, rfl, kA, kB, hB⟩
            · skip
              refine valD 6 (some 13) rfl rfl rfl (hal _ _ _ rfl) ⟨⟨kS9.alloc _, kU9.alloc _⟩, ?_⟩
              have kA := Bk.new wn20 #[.int .i64 0, .int .i64 0, .bool false, .bool false, .bool false] 52
              replace kS9 := kS9.alloc (.cells #[.int .i64 0, .int .i64 0, .bool false, .bool false, .bool false] 52)
              replace kU9 := kU9.alloc (.cells #[.int .i64 0, .int .i64 0, .bool false, .bool false, .bool false] 52)
              have hne : wn20.heap.size ≠ wc1.heap.size := (Nat.ne_of_lt kB.lt).symm
              replace kB := kB.alloc (.cells #[.int .i64 0, .int .i64 0, .bool false, .bool false, .bool false] 52)
              have hz_wn25 := hB.size
              replace hB := hB.alloc (by omega) (.cells #[.int .i64 0, .int .i64 0, .bool false, .bool false, .bool false] 52)
              generalize hw_wn25 : wn20.alloc (.cells #[.int .i64 0, .int .i64 0, .bool false, .bool false, .bool false] 52) = wn25 at *
              try simp only [Act.put, List.setIfInBounds_toArray, List.set_cons_zero, List.set_cons_succ]
              refine wpAnyH_all (rs := [5]) (by kernel_rfl) (by simp) (fun i hi => ?_)
              obtain rfl : i = 5 := by simpa using hi
              refine callD 5 (some 47) rfl rfl rfl (f := 55) (args := #[.agg #[.slice A2 rs2.length c2, .int .i64 r2, .slice L2 ls2.length cl2, .slice B2 es2.length d2], .int .i64 p]) (run_call2 (vx := .agg #[.slice A2 rs2.length c2, .int .i64 r2, .slice L2 ls2.length cl2, .slice B2 es2.length d2]) (vy := .int .i64 p) (x := .tmp 45) (y := .tmp 46) rfl rfl rfl rfl (hcf _ _) _) (HE2.out _ (SpV.to hvr2 (show Below w6.heap.size w6 wn25 from hB))) ?_
              rintro e wc26 ⟨rfl, hb_wc26⟩
              refine ⟨_, rfl, ⟨kS9.to hb_wc26, kU9.to hb_wc26⟩, ?_⟩
              replace kS9 := kS9.to hb_wc26
              replace kU9 := kU9.to hb_wc26
              replace kA := kA.to hb_wc26
              replace kB := kB.to hb_wc26
              have hz_wc26 := hB.size
              replace hB := hB.trans (hb_wc26.mono (by omega))
              try simp only [Act.put, List.setIfInBounds_toArray, List.set_cons_zero, List.set_cons_succ]
              refine wpAnyH_all (rs := [8]) (by kernel_rfl) (by simp) (fun i hi => ?_)
              obtain rfl : i = 8 := by simpa using hi
              have kN := kA.row #[.int .i64 k1, .int .i64 n1, .bool a1, .bool b1, .bool c1]
              have kO := kB.rowfar hne.symm #[.int .i64 k1, .int .i64 n1, .bool a1, .bool b1, .bool c1]
              have hBn := below_row hB (show w6.heap.size ≤ wn20.heap.size by omega) #[.int .i64 k1, .int .i64 n1, .bool a1, .bool b1, .bool c1]
              have n_kS9 := kS9.rowfar (show _ ≠ wn20.heap.size by omega) #[.int .i64 k1, .int .i64 n1, .bool a1, .bool b1, .bool c1]
              have n_kU9 := kU9.rowfar (show _ ≠ wn20.heap.size by omega) #[.int .i64 k1, .int .i64 n1, .bool a1, .bool b1, .bool c1]
              refine storeD 8 rfl rfl rfl 52 _ _ rfl (wn20.heap.size) #[.int .i64 k1, .int .i64 n1, .bool a1, .bool b1, .bool c1] rfl rfl 52 _ kA (by kernel_rfl) rfl (all_oneCell_toArray (fun v hv => by simp at hv; rcases hv with rfl | rfl | rfl | rfl | rfl <;> rfl)) ⟨⟨n_kS9, n_kU9⟩, ?_⟩
              generalize World.setRow wc26 (wn20.heap.size) #[.int .i64 k1, .int .i64 n1, .bool a1, .bool b1, .bool c1] = wz27 at *
              replace kA := kN
              replace kB := kO
              replace hB := hBn
              replace kS9 := n_kS9
              replace kU9 := n_kU9
              clear kN kO hBn n_kS9 n_kU9
              try simp only [Act.put, List.setIfInBounds_toArray, List.set_cons_zero, List.set_cons_succ]
              refine wpAnyH_all (rs := [9]) (by kernel_rfl) (by simp) (fun i hi => ?_)
              obtain rfl : i = 9 := by simpa using hi
              have kN := kB.row #[.int .i64 k2, .int .i64 n2, .bool a2, .bool b2, .bool e2]
              have kO := kA.rowfar hne #[.int .i64 k2, .int .i64 n2, .bool a2, .bool b2, .bool e2]
              have hBn := below_row hB (show w6.heap.size ≤ wc1.heap.size by omega) #[.int .i64 k2, .int .i64 n2, .bool a2, .bool b2, .bool e2]
              have n_kS9 := kS9.rowfar (show _ ≠ wc1.heap.size by omega) #[.int .i64 k2, .int .i64 n2, .bool a2, .bool b2, .bool e2]
              have n_kU9 := kU9.rowfar (show _ ≠ wc1.heap.size by omega) #[.int .i64 k2, .int .i64 n2, .bool a2, .bool b2, .bool e2]
              refine storeD 9 rfl rfl rfl 52 _ _ rfl (wc1.heap.size) #[.int .i64 k2, .int .i64 n2, .bool a2, .bool b2, .bool e2] rfl rfl 52 _ kB (by kernel_rfl) rfl (all_oneCell_toArray (fun v hv => by simp at hv; rcases hv with rfl | rfl | rfl | rfl | rfl <;> rfl)) ⟨⟨n_kS9, n_kU9⟩, ?_⟩
              generalize World.setRow wz27 (wc1.heap.size) #[.int .i64 k2, .int .i64 n2, .bool a2, .bool b2, .bool e2] = wz28 at *
              replace kB := kN
              replace kA := kO
              replace hB := hBn
              replace kS9 := n_kS9
              replace kU9 := n_kU9
              clear kN kO hBn n_kS9 n_kU9
              try simp only [Act.put, List.setIfInBounds_toArray, List.set_cons_zero, List.set_cons_succ]
              refine wpAnyH_done (by kernel_rfl) ?_ _
              try go_frame
              go_wp2_with fail
              go_meet
              exact ⟨_, _, rfl, rfl, kA, kB, hB⟩
        · skip
          refine valD 6 (some 13) rfl rfl rfl (hal _ _ _ rfl) ⟨⟨kS9.alloc _, kU9.alloc _⟩, ?_⟩
          have kA := Bk.new wd #[.int .i64 0, .int .i64 0, .bool false, .bool false, .bool false] 52
          replace kS9 := kS9.alloc (.cells #[.int .i64 0, .int .i64 0, .bool false, .bool false, .bool false] 52)
          replace kU9 := kU9.alloc (.cells #[.int .i64 0, .int .i64 0, .bool false, .bool false, .bool false] 52)
          have hz_wn29 := hB.size
          replace hB := hB.alloc (by omega) (.cells #[.int .i64 0, .int .i64 0, .bool false, .bool false, .bool false] 52)
          generalize hw_wn29 : wd.alloc (.cells #[.int .i64 0, .int .i64 0, .bool false, .bool false, .bool false] 52) = wn29 at *
          try simp only [Act.put, List.setIfInBounds_toArray, List.set_cons_zero, List.set_cons_succ]
          refine wpAnyH_all (rs := [2, 7]) (by kernel_rfl) (by simp) (fun i hi => ?_)
          simp only [List.mem_cons, List.not_mem_nil, or_false] at hi
          rcases hi with rfl | rfl
          · skip
            refine callD 2 (some 44) rfl rfl rfl (f := 55) (args := #[.agg #[.slice A rs.length c, .int .i64 r, .slice L ls.length cl, .slice B es.length d], .int .i64 p]) (run_call2 (vx := .agg #[.slice A rs.length c, .int .i64 r, .slice L ls.length cl, .slice B es.length d]) (vy := .int .i64 p) (x := .tmp 42) (y := .tmp 43) rfl rfl rfl rfl (hcf _ _) _) (HE.out _ (SpV.to hvr (show Below w6.heap.size w6 wn29 from hB))) ?_
            rintro e wc30 ⟨rfl, hb_wc30⟩
            refine ⟨_, rfl, ⟨kS9.to hb_wc30, kU9.to hb_wc30⟩, ?_⟩
            replace kS9 := kS9.to hb_wc30
            replace kU9 := kU9.to hb_wc30
            replace kA := kA.to hb_wc30
            have hz_wc30 := hB.size
            replace hB := hB.trans (hb_wc30.mono (by omega))
            try simp only [Act.put, List.setIfInBounds_toArray, List.set_cons_zero, List.set_cons_succ]
            refine wpAnyH_all (rs := [5, 7]) (by kernel_rfl) (by simp) (fun i hi => ?_)
            simp only [List.mem_cons, List.not_mem_nil, or_false] at hi
            rcases hi with rfl | rfl
            · skip
              refine callD 5 (some 47) rfl rfl rfl (f := 55) (args := #[.agg #[.slice A2 rs2.length c2, .int .i64 r2, .slice L2 ls2.length cl2, .slice B2 es2.length d2], .int .i64 p]) (run_call2 (vx := .agg #[.slice A2 rs2.length c2, .int .i64 r2, .slice L2 ls2.length cl2, .slice B2 es2.length d2]) (vy := .int .i64 p) (x := .tmp 45) (y := .tmp 46) rfl rfl rfl rfl (hcf _ _) _) (HE2.out _ (SpV.to hvr2 (show Below w6.heap.size w6 wc30 from hB))) ?_
              rintro e wc31 ⟨rfl, hb_wc31⟩
              refine ⟨_, rfl, ⟨kS9.to hb_wc31, kU9.to hb_wc31⟩, ?_⟩
              replace kS9 := kS9.to hb_wc31
              replace kU9 := kU9.to hb_wc31
              replace kA := kA.to hb_wc31
              have hz_wc31 := hB.size
              replace hB := hB.trans (hb_wc31.mono (by omega))
              try simp only [Act.put, List.setIfInBounds_toArray, List.set_cons_zero, List.set_cons_succ]
              refine wpAnyH_all (rs := [7]) (by kernel_rfl) (by simp) (fun i hi => ?_)
              obtain rfl : i = 7 := by simpa using hi
              refine valD 7 (some 14) rfl rfl rfl (hal _ _ _ rfl) ⟨⟨kS9.alloc _, kU9.alloc _⟩, ?_⟩
              have kB := Bk.new wc31 #[.int .i64 0, .int .i64 0, .bool false, .bool false, .bool false] 52
              replace kS9 := kS9.alloc (.cells #[.int .i64 0, .int .i64 0, .bool false, .bool false, .bool false] 52)
              replace kU9 := kU9.alloc (.cells #[.int .i64 0, .int .i64 0, .bool false, .bool false, .bool false] 52)
              have hne : wd.heap.size ≠ wc31.heap.size := Nat.ne_of_lt kA.lt
              replace kA := kA.alloc (.cells #[.int .i64 0, .int .i64 0, .bool false, .bool false, .bool false] 52)
              have hz_wn32 := hB.size
              replace hB := hB.alloc (by omega) (.cells #[.int .i64 0, .int .i64 0, .bool false, .bool false, .bool false] 52)
              generalize hw_wn32 : wc31.alloc (.cells #[.int .i64 0, .int .i64 0, .bool false, .bool false, .bool false] 52) = wn32 at *
              try simp only [Act.put, List.setIfInBounds_toArray, List.set_cons_zero, List.set_cons_succ]
              refine wpAnyH_all (rs := [8]) (by kernel_rfl) (by simp) (fun i hi => ?_)
              obtain rfl : i = 8 := by simpa using hi
              have kN := kA.row #[.int .i64 k1, .int .i64 n1, .bool a1, .bool b1, .bool c1]
              have kO := kB.rowfar hne.symm #[.int .i64 k1, .int .i64 n1, .bool a1, .bool b1, .bool c1]
              have hBn := below_row hB (show w6.heap.size ≤ wd.heap.size by omega) #[.int .i64 k1, .int .i64 n1, .bool a1, .bool b1, .bool c1]
              have n_kS9 := kS9.rowfar (show _ ≠ wd.heap.size by omega) #[.int .i64 k1, .int .i64 n1, .bool a1, .bool b1, .bool c1]
              have n_kU9 := kU9.rowfar (show _ ≠ wd.heap.size by omega) #[.int .i64 k1, .int .i64 n1, .bool a1, .bool b1, .bool c1]
              refine storeD 8 rfl rfl rfl 52 _ _ rfl (wd.heap.size) #[.int .i64 k1, .int .i64 n1, .bool a1, .bool b1, .bool c1] rfl rfl 52 _ kA (by kernel_rfl) rfl (all_oneCell_toArray (fun v hv => by simp at hv; rcases hv with rfl | rfl | rfl | rfl | rfl <;> rfl)) ⟨⟨n_kS9, n_kU9⟩, ?_⟩
              generalize World.setRow wn32 (wd.heap.size) #[.int .i64 k1, .int .i64 n1, .bool a1, .bool b1, .bool c1] = wz33 at *
              replace kA := kN
              replace kB := kO
              replace hB := hBn
              replace kS9 := n_kS9
              replace kU9 := n_kU9
              clear kN kO hBn n_kS9 n_kU9
              try simp only [Act.put, List.setIfInBounds_toArray, List.set_cons_zero, List.set_cons_succ]
              refine wpAnyH_all (rs := [9]) (by kernel_rfl) (by simp) (fun i hi => ?_)
              obtain rfl : i = 9 := by simpa using hi
              have kN := kB.row #[.int .i64 k2, .int .i64 n2, .bool a2, .bool b2, .bool e2]
              have kO := kA.rowfar hne #[.int .i64 k2, .int .i64 n2, .bool a2, .bool b2, .bool e2]
              have hBn := below_row hB (show w6.heap.size ≤ wc31.heap.size by omega) #[.int .i64 k2, .int .i64 n2, .bool a2, .bool b2, .bool e2]
              have n_kS9 := kS9.rowfar (show _ ≠ wc31.heap.size by omega) #[.int .i64 k2, .int .i64 n2, .bool a2, .bool b2, .bool e2]
              have n_kU9 := kU9.rowfar (show _ ≠ wc31.heap.size by omega) #[.int .i64 k2, .int .i64 n2, .bool a2, .bool b2, .bool e2]
              refine storeD 9 rfl rfl rfl 52 _ _ rfl (wc31.heap.size) #[.int .i64 k2, .int .i64 n2, .bool a2, .bool b2, .bool e2] rfl rfl 52 _ kB (by kernel_rfl) rfl (all_oneCell_toArray (fun v hv => by simp at hv; rcases hv with rfl | rfl | rfl | rfl | rfl <;> rfl)) ⟨⟨n_kS9, n_kU9⟩, ?_⟩
              generalize World.setRow wz33 (wc31.heap.size) #[.int .i64 k2, .int .i64 n2, .bool a2, .bool b2, .bool e2] = wz34 at *
              replace kB := kN
              replace kA := kO
              replace hB := hBn
              replace kS9 := n_kS9
              replace kU9 := n_kU9
              clear kN kO hBn n_kS9 n_kU9
              try simp only [Act.put, List.setIfInBounds_toArray, List.set_cons_zero, List.set_cons_succ]
              refine wpAnyH_done (by kernel_rfl) ?_ _
              try go_frame
              go_wp2_with fail
              go_meet
              exact ⟨_, _, rfl, rfl, kA, kB, hB⟩
            · skip
              refine valD 7 (some 14) rfl rfl rfl (hal _ _ _ rfl) ⟨⟨kS9.alloc _, kU9.alloc _⟩, ?_⟩
              have kB := Bk.new wc30 #[.int .i64 0, .int .i64 0, .bool false, .bool false, .bool false] 52
              replace kS9 := kS9.alloc (.cells #[.int .i64 0, .int .i64 0, .bool false, .bool false, .bool false] 52)
              replace kU9 := kU9.alloc (.cells #[.int .i64 0, .int .i64 0, .bool false, .bool false, .bool false] 52)
              have hne : wd.heap.size ≠ wc30.heap.size := Nat.ne_of_lt kA.lt
              replace kA := kA.alloc (.cells #[.int .i64 0, .int .i64 0, .bool false, .bool false, .bool false] 52)
              have hz_wn35 := hB.size
              replace hB := hB.alloc (by omega) (.cells #[.int .i64 0, .int .i64 0, .bool false, .bool false, .bool false] 52)
              generalize hw_wn35 : wc30.alloc (.cells #[.int .i64 0, .int .i64 0, .bool false, .bool false, .bool false] 52) = wn35 at *
              try simp only [Act.put, List.setIfInBounds_toArray, List.set_cons_zero, List.set_cons_succ]
              refine wpAnyH_all (rs := [5]) (by kernel_rfl) (by simp) (fun i hi => ?_)
              obtain rfl : i = 5 := by simpa using hi
              refine callD 5 (some 47) rfl rfl rfl (f := 55) (args := #[.agg #[.slice A2 rs2.length c2, .int .i64 r2, .slice L2 ls2.length cl2, .slice B2 es2.length d2], .int .i64 p]) (run_call2 (vx := .agg #[.slice A2 rs2.length c2, .int .i64 r2, .slice L2 ls2.length cl2, .slice B2 es2.length d2]) (vy := .int .i64 p) (x := .tmp 45) (y := .tmp 46) rfl rfl rfl rfl (hcf _ _) _) (HE2.out _ (SpV.to hvr2 (show Below w6.heap.size w6 wn35 from hB))) ?_
              rintro e wc36 ⟨rfl, hb_wc36⟩
              refine ⟨_, rfl, ⟨kS9.to hb_wc36, kU9.to hb_wc36⟩, ?_⟩
              replace kS9 := kS9.to hb_wc36
              replace kU9 := kU9.to hb_wc36
              replace kA := kA.to hb_wc36
              replace kB := kB.to hb_wc36
              have hz_wc36 := hB.size
              replace hB := hB.trans (hb_wc36.mono (by omega))
              try simp only [Act.put, List.setIfInBounds_toArray, List.set_cons_zero, List.set_cons_succ]
              refine wpAnyH_all (rs := [8]) (by kernel_rfl) (by simp) (fun i hi => ?_)
              obtain rfl : i = 8 := by simpa using hi
              have kN := kA.row #[.int .i64 k1, .int .i64 n1, .bool a1, .bool b1, .bool c1]
              have kO := kB.rowfar hne.symm #[.int .i64 k1, .int .i64 n1, .bool a1, .bool b1, .bool c1]
              have hBn := below_row hB (show w6.heap.size ≤ wd.heap.size by omega) #[.int .i64 k1, .int .i64 n1, .bool a1, .bool b1, .bool c1]
              have n_kS9 := kS9.rowfar (show _ ≠ wd.heap.size by omega) #[.int .i64 k1, .int .i64 n1, .bool a1, .bool b1, .bool c1]
              have n_kU9 := kU9.rowfar (show _ ≠ wd.heap.size by omega) #[.int .i64 k1, .int .i64 n1, .bool a1, .bool b1, .bool c1]
              refine storeD 8 rfl rfl rfl 52 _ _ rfl (wd.heap.size) #[.int .i64 k1, .int .i64 n1, .bool a1, .bool b1, .bool c1] rfl rfl 52 _ kA (by kernel_rfl) rfl (all_oneCell_toArray (fun v hv => by simp at hv; rcases hv with rfl | rfl | rfl | rfl | rfl <;> rfl)) ⟨⟨n_kS9, n_kU9⟩, ?_⟩
              generalize World.setRow wc36 (wd.heap.size) #[.int .i64 k1, .int .i64 n1, .bool a1, .bool b1, .bool c1] = wz37 at *
              replace kA := kN
              replace kB := kO
              replace hB := hBn
              replace kS9 := n_kS9
              replace kU9 := n_kU9
              clear kN kO hBn n_kS9 n_kU9
              try simp only [Act.put, List.setIfInBounds_toArray, List.set_cons_zero, List.set_cons_succ]
              refine wpAnyH_all (rs := [9]) (by kernel_rfl) (by simp) (fun i hi => ?_)
              obtain rfl : i = 9 := by simpa using hi
              have kN := kB.row #[.int .i64 k2, .int .i64 n2, .bool a2, .bool b2, .bool e2]
              have kO := kA.rowfar hne #[.int .i64 k2, .int .i64 n2, .bool a2, .bool b2, .bool e2]
              have hBn := below_row hB (show w6.heap.size ≤ wc30.heap.size by omega) #[.int .i64 k2, .int .i64 n2, .bool a2, .bool b2, .bool e2]
              have n_kS9 := kS9.rowfar (show _ ≠ wc30.heap.size by omega) #[.int .i64 k2, .int .i64 n2, .bool a2, .bool b2, .bool e2]
              have n_kU9 := kU9.rowfar (show _ ≠ wc30.heap.size by omega) #[.int .i64 k2, .int .i64 n2, .bool a2, .bool b2, .bool e2]
              refine storeD 9 rfl rfl rfl 52 _ _ rfl (wc30.heap.size) #[.int .i64 k2, .int .i64 n2, .bool a2, .bool b2, .bool e2] rfl rfl 52 _ kB (by kernel_rfl) rfl (all_oneCell_toArray (fun v hv => by simp at hv; rcases hv with rfl | rfl | rfl | rfl | rfl <;> rfl)) ⟨⟨n_kS9, n_kU9⟩, ?_⟩
              generalize World.setRow wz37 (wc30.heap.size) #[.int .i64 k2, .int .i64 n2, .bool a2, .bool b2, .bool e2] = wz38 at *
              replace kB := kN
              replace kA := kO
              replace hB := hBn
              replace kS9 := n_kS9
              replace kU9 := n_kU9
              clear kN kO hBn n_kS9 n_kU9
              try simp only [Act.put, List.setIfInBounds_toArray, List.set_cons_zero, List.set_cons_succ]
              refine wpAnyH_done (by kernel_rfl) ?_ _
              try go_frame
              go_wp2_with fail
              go_meet
              exact ⟨_, _, rfl, rfl, kA, kB, hB⟩
          · skip
            refine valD 7 (some 14) rfl rfl rfl (hal _ _ _ rfl) ⟨⟨kS9.alloc _, kU9.alloc _⟩, ?_⟩
            have kB := Bk.new wn29 #[.int .i64 0, .int .i64 0, .bool false, .bool false, .bool false] 52
            replace kS9 := kS9.alloc (.cells #[.int .i64 0, .int .i64 0, .bool false, .bool false, .bool false] 52)
            replace kU9 := kU9.alloc (.cells #[.int .i64 0, .int .i64 0, .bool false, .bool false, .bool false] 52)
            have hne : wd.heap.size ≠ wn29.heap.size := Nat.ne_of_lt kA.lt
            replace kA := kA.alloc (.cells #[.int .i64 0, .int .i64 0, .bool false, .bool false, .bool false] 52)
            have hz_wn39 := hB.size
            replace hB := hB.alloc (by omega) (.cells #[.int .i64 0, .int .i64 0, .bool false, .bool false, .bool false] 52)
            generalize hw_wn39 : wn29.alloc (.cells #[.int .i64 0, .int .i64 0, .bool false, .bool false, .bool false] 52) = wn39 at *
            try simp only [Act.put, List.setIfInBounds_toArray, List.set_cons_zero, List.set_cons_succ]
            refine wpAnyH_all (rs := [2]) (by kernel_rfl) (by simp) (fun i hi => ?_)
            obtain rfl : i = 2 := by simpa using hi
            refine callD 2 (some 44) rfl rfl rfl (f := 55) (args := #[.agg #[.slice A rs.length c, .int .i64 r, .slice L ls.length cl, .slice B es.length d], .int .i64 p]) (run_call2 (vx := .agg #[.slice A rs.length c, .int .i64 r, .slice L ls.length cl, .slice B es.length d]) (vy := .int .i64 p) (x := .tmp 42) (y := .tmp 43) rfl rfl rfl rfl (hcf _ _) _) (HE.out _ (SpV.to hvr (show Below w6.heap.size w6 wn39 from hB))) ?_
            rintro e wc40 ⟨rfl, hb_wc40⟩
            refine ⟨_, rfl, ⟨kS9.to hb_wc40, kU9.to hb_wc40⟩, ?_⟩
            replace kS9 := kS9.to hb_wc40
            replace kU9 := kU9.to hb_wc40
            replace kA := kA.to hb_wc40
            replace kB := kB.to hb_wc40
            have hz_wc40 := hB.size
            replace hB := hB.trans (hb_wc40.mono (by omega))
            try simp only [Act.put, List.setIfInBounds_toArray, List.set_cons_zero, List.set_cons_succ]
            refine wpAnyH_all (rs := [5]) (by kernel_rfl) (by simp) (fun i hi => ?_)
            obtain rfl : i = 5 := by simpa using hi
            refine callD 5 (some 47) rfl rfl rfl (f := 55) (args := #[.agg #[.slice A2 rs2.length c2, .int .i64 r2, .slice L2 ls2.length cl2, .slice B2 es2.length d2], .int .i64 p]) (run_call2 (vx := .agg #[.slice A2 rs2.length c2, .int .i64 r2, .slice L2 ls2.length cl2, .slice B2 es2.length d2]) (vy := .int .i64 p) (x := .tmp 45) (y := .tmp 46) rfl rfl rfl rfl (hcf _ _) _) (HE2.out _ (SpV.to hvr2 (show Below w6.heap.size w6 wc40 from hB))) ?_
            rintro e wc41 ⟨rfl, hb_wc41⟩
            refine ⟨_, rfl, ⟨kS9.to hb_wc41, kU9.to hb_wc41⟩, ?_⟩
            replace kS9 := kS9.to hb_wc41
            replace kU9 := kU9.to hb_wc41
            replace kA := kA.to hb_wc41
            replace kB := kB.to hb_wc41
            have hz_wc41 := hB.size
            replace hB := hB.trans (hb_wc41.mono (by omega))
            try simp only [Act.put, List.setIfInBounds_toArray, List.set_cons_zero, List.set_cons_succ]
            refine wpAnyH_all (rs := [8]) (by kernel_rfl) (by simp) (fun i hi => ?_)
            obtain rfl : i = 8 := by simpa using hi
            have kN := kA.row #[.int .i64 k1, .int .i64 n1, .bool a1, .bool b1, .bool c1]
            have kO := kB.rowfar hne.symm #[.int .i64 k1, .int .i64 n1, .bool a1, .bool b1, .bool c1]
            have hBn := below_row hB (show w6.heap.size ≤ wd.heap.size by omega) #[.int .i64 k1, .int .i64 n1, .bool a1, .bool b1, .bool c1]
            have n_kS9 := kS9.rowfar (show _ ≠ wd.heap.size by omega) #[.int .i64 k1, .int .i64 n1, .bool a1, .bool b1, .bool c1]
            have n_kU9 := kU9.rowfar (show _ ≠ wd.heap.size by omega) #[.int .i64 k1, .int .i64 n1, .bool a1, .bool b1, .bool c1]
            refine storeD 8 rfl rfl rfl 52 _ _ rfl (wd.heap.size) #[.int .i64 k1, .int .i64 n1, .bool a1, .bool b1, .bool c1] rfl rfl 52 _ kA (by kernel_rfl) rfl (all_oneCell_toArray (fun v hv => by simp at hv; rcases hv with rfl | rfl | rfl | rfl | rfl <;> rfl)) ⟨⟨n_kS9, n_kU9⟩, ?_⟩
            generalize World.setRow wc41 (wd.heap.size) #[.int .i64 k1, .int .i64 n1, .bool a1, .bool b1, .bool c1] = wz42 at *
            replace kA := kN
            replace kB := kO
            replace hB := hBn
            replace kS9 := n_kS9
            replace kU9 := n_kU9
            clear kN kO hBn n_kS9 n_kU9
            try simp only [Act.put, List.setIfInBounds_toArray, List.set_cons_zero, List.set_cons_succ]
            refine wpAnyH_all (rs := [9]) (by kernel_rfl) (by simp) (fun i hi => ?_)
            obtain rfl : i = 9 := by simpa using hi
            have kN := kB.row #[.int .i64 k2, .int .i64 n2, .bool a2, .bool b2, .bool e2]
            have kO := kA.rowfar hne #[.int .i64 k2, .int .i64 n2, .bool a2, .bool b2, .bool e2]
            have hBn := below_row hB (show w6.heap.size ≤ wn29.heap.size by omega) #[.int .i64 k2, .int .i64 n2, .bool a2, .bool b2, .bool e2]
            have n_kS9 := kS9.rowfar (show _ ≠ wn29.heap.size by omega) #[.int .i64 k2, .int .i64 n2, .bool a2, .bool b2, .bool e2]
            have n_kU9 := kU9.rowfar (show _ ≠ wn29.heap.size by omega) #[.int .i64 k2, .int .i64 n2, .bool a2, .bool b2, .bool e2]
            refine storeD 9 rfl rfl rfl 52 _ _ rfl (wn29.heap.size) #[.int .i64 k2, .int .i64 n2, .bool a2, .bool b2, .bool e2] rfl rfl 52 _ kB (by kernel_rfl) rfl (all_oneCell_toArray (fun v hv => by simp at hv; rcases hv with rfl | rfl | rfl | rfl | rfl <;> rfl)) ⟨⟨n_kS9, n_kU9⟩, ?_⟩
            generalize World.setRow wz42 (wn29.heap.size) #[.int .i64 k2, .int .i64 n2, .bool a2, .bool b2, .bool e2] = wz43 at *
            replace kB := kN
            replace kA := kO
            replace hB := hBn
            replace kS9 := n_kS9
            replace kU9 := n_kU9
            clear kN kO hBn n_kS9 n_kU9
            try simp only [Act.put, List.setIfInBounds_toArray, List.set_cons_zero, List.set_cons_succ]
            refine wpAnyH_done (by kernel_rfl) ?_ _
            try go_frame
            go_wp2_with fail
            go_meet
            exact ⟨_, _, rfl, rfl, kA, kB, hB⟩
        · skip
          refine valD 7 (some 14) rfl rfl rfl (hal _ _ _ rfl) ⟨⟨kS9.alloc _, kU9.alloc _⟩, ?_⟩
          have kB := Bk.new wd #[.int .i64 0, .int .i64 0, .bool false, .bool false, .bool false] 52
          replace kS9 := kS9.alloc (.cells #[.int .i64 0, .int .i64 0, .bool false, .bool false, .bool false] 52)
          replace kU9 := kU9.alloc (.cells #[.int .i64 0, .int .i64 0, .bool false, .bool false, .bool false] 52)
          have hz_wn44 := hB.size
          replace hB := hB.alloc (by omega) (.cells #[.int .i64 0, .int .i64 0, .bool false, .bool false, .bool false] 52)
          generalize hw_wn44 : wd.alloc (.cells #[.int .i64 0, .int .i64 0, .bool false, .bool false, .bool false] 52) = wn44 at *
          try simp only [Act.put, List.setIfInBounds_toArray, List.set_cons_zero, List.set_cons_succ]
          refine wpAnyH_all (rs := [2, 6]) (by kernel_rfl) (by simp) (fun i hi => ?_)
          simp only [List.mem_cons, List.not_mem_nil, or_false] at hi
          rcases hi with rfl | rfl
          · skip
            refine callD 2 (some 44) rfl rfl rfl (f := 55) (args := #[.agg #[.slice A rs.length c, .int .i64 r, .slice L ls.length cl, .slice B es.length d], .int .i64 p]) (run_call2 (vx := .agg #[.slice A rs.length c, .int .i64 r, .slice L ls.length cl, .slice B es.length d]) (vy := .int .i64 p) (x := .tmp 42) (y := .tmp 43) rfl rfl rfl rfl (hcf _ _) _) (HE.out _ (SpV.to hvr (show Below w6.heap.size w6 wn44 from hB))) ?_
            rintro e wc45 ⟨rfl, hb_wc45⟩
            refine ⟨_, rfl, ⟨kS9.to hb_wc45, kU9.to hb_wc45⟩, ?_⟩
            replace kS9 := kS9.to hb_wc45
            replace kU9 := kU9.to hb_wc45
            replace kB := kB.to hb_wc45
            have hz_wc45 := hB.size
            replace hB := hB.trans (hb_wc45.mono (by omega))
            try simp only [Act.put, List.setIfInBounds_toArray, List.set_cons_zero, List.set_cons_succ]
            refine wpAnyH_all (rs := [5, 6]) (by kernel_rfl) (by simp) (fun i hi => ?_)
            simp only [List.mem_cons, List.not_mem_nil, or_false] at hi
            rcases hi with rfl | rfl
            · skip
              refine callD 5 (some 47) rfl rfl rfl (f := 55) (args := #[.agg #[.slice A2 rs2.length c2, .int .i64 r2, .slice L2 ls2.length cl2, .slice B2 es2.length d2], .int .i64 p]) (run_call2 (vx := .agg #[.slice A2 rs2.length c2, .int .i64 r2, .slice L2 ls2.length cl2, .slice B2 es2.length d2]) (vy := .int .i64 p) (x := .tmp 45) (y := .tmp 46) rfl rfl rfl rfl (hcf _ _) _) (HE2.out _ (SpV.to hvr2 (show Below w6.heap.size w6 wc45 from hB))) ?_
              rintro e wc46 ⟨rfl, hb_wc46⟩
              refine ⟨_, rfl, ⟨kS9.to hb_wc46, kU9.to hb_wc46⟩, ?_⟩
              replace kS9 := kS9.to hb_wc46
              replace kU9 := kU9.to hb_wc46
              replace kB := kB.to hb_wc46
              have hz_wc46 := hB.size
              replace hB := hB.trans (hb_wc46.mono (by omega))
              try simp only [Act.put, List.setIfInBounds_toArray, List.set_cons_zero, List.set_cons_succ]
              refine wpAnyH_all (rs := [6]) (by kernel_rfl) (by simp) (fun i hi => ?_)
              obtain rfl : i = 6 := by simpa using hi
              refine valD 6 (some 13) rfl rfl rfl (hal _ _ _ rfl) ⟨⟨kS9.alloc _, kU9.alloc _⟩, ?_⟩
              have kA := Bk.new wc46 #[.int .i64 0, .int .i64 0, .bool false, .bool false, .bool false] 52
              replace kS9 := kS9.alloc (.cells #[.int .i64 0, .int .i64 0, .bool false, .bool false, .bool false] 52)
              replace kU9 := kU9.alloc (.cells #[.int .i64 0, .int .i64 0, .bool false, .bool false, .bool false] 52)
              have hne : wc46.heap.size ≠ wd.heap.size := (Nat.ne_of_lt kB.lt).symm
              replace kB := kB.alloc (.cells #[.int .i64 0, .int .i64 0, .bool false, .bool false, .bool false] 52)
              have hz_wn47 := hB.size
              replace hB := hB.alloc (by omega) (.cells #[.int .i64 0, .int .i64 0, .bool false, .bool false, .bool false] 52)
              generalize hw_wn47 : wc46.alloc (.cells #[.int .i64 0, .int .i64 0, .bool false, .bool false, .bool false] 52) = wn47 at *
              try simp only [Act.put, List.setIfInBounds_toArray, List.set_cons_zero, List.set_cons_succ]
              refine wpAnyH_all (rs := [8]) (by kernel_rfl) (by simp) (fun i hi => ?_)
              obtain rfl : i = 8 := by simpa using hi
              have kN := kA.row #[.int .i64 k1, .int .i64 n1, .bool a1, .bool b1, .bool c1]
              have kO := kB.rowfar hne.symm #[.int .i64 k1, .int .i64 n1, .bool a1, .bool b1, .bool c1]
              have hBn := below_row hB (show w6.heap.size ≤ wc46.heap.size by omega) #[.int .i64 k1, .int .i64 n1, .bool a1, .bool b1, .bool c1]
              have n_kS9 := kS9.rowfar (show _ ≠ wc46.heap.size by omega) #[.int .i64 k1, .int .i64 n1, .bool a1, .bool b1, .bool c1]
              have n_kU9 := kU9.rowfar (show _ ≠ wc46.heap.size by omega) #[.int .i64 k1, .int .i64 n1, .bool a1, .bool b1, .bool c1]
              refine storeD 8 rfl rfl rfl 52 _ _ rfl (wc46.heap.size) #[.int .i64 k1, .int .i64 n1, .bool a1, .bool b1, .bool c1] rfl rfl 52 _ kA (by kernel_rfl) rfl (all_oneCell_toArray (fun v hv => by simp at hv; rcases hv with rfl | rfl | rfl | rfl | rfl <;> rfl)) ⟨⟨n_kS9, n_kU9⟩, ?_⟩
              generalize World.setRow wn47 (wc46.heap.size) #[.int .i64 k1, .int .i64 n1, .bool a1, .bool b1, .bool c1] = wz48 at *
              replace kA := kN
              replace kB := kO
              replace hB := hBn
              replace kS9 := n_kS9
              replace kU9 := n_kU9
              clear kN kO hBn n_kS9 n_kU9
              try simp only [Act.put, List.setIfInBounds_toArray, List.set_cons_zero, List.set_cons_succ]
              refine wpAnyH_all (rs := [9]) (by kernel_rfl) (by simp) (fun i hi => ?_)
              obtain rfl : i = 9 := by simpa using hi
              have kN := kB.row #[.int .i64 k2, .int .i64 n2, .bool a2, .bool b2, .bool e2]
              have kO := kA.rowfar hne #[.int .i64 k2, .int .i64 n2, .bool a2, .bool b2, .bool e2]
              have hBn := below_row hB (show w6.heap.size ≤ wd.heap.size by omega) #[.int .i64 k2, .int .i64 n2, .bool a2, .bool b2, .bool e2]
              have n_kS9 := kS9.rowfar (show _ ≠ wd.heap.size by omega) #[.int .i64 k2, .int .i64 n2, .bool a2, .bool b2, .bool e2]
              have n_kU9 := kU9.rowfar (show _ ≠ wd.heap.size by omega) #[.int .i64 k2, .int .i64 n2, .bool a2, .bool b2, .bool e2]
              refine storeD 9 rfl rfl rfl 52 _ _ rfl (wd.heap.size) #[.int .i64 k2, .int .i64 n2, .bool a2, .bool b2, .bool e2] rfl rfl 52 _ kB (by kernel_rfl) rfl (all_oneCell_toArray (fun v hv => by simp at hv; rcases hv with rfl | rfl | rfl | rfl | rfl <;> rfl)) ⟨⟨n_kS9, n_kU9⟩, ?_⟩
              generalize World.setRow wz48 (wd.heap.size) #[.int .i64 k2, .int .i64 n2, .bool a2, .bool b2, .bool e2] = wz49 at *
              replace kB := kN
              replace kA := kO
              replace hB := hBn
              replace kS9 := n_kS9
              replace kU9 := n_kU9
              clear kN kO hBn n_kS9 n_kU9
              try simp only [Act.put, List.setIfInBounds_toArray, List.set_cons_zero, List.set_cons_succ]
              refine wpAnyH_done (by kernel_rfl) ?_ _
              try go_frame
              go_wp2_with fail
              go_meet
              exact ⟨_, _, rfl, rfl, kA, kB, hB⟩
            · skip
              refine valD 6 (some 13) rfl rfl rfl (hal _ _ _ rfl) ⟨⟨kS9.alloc _, kU9.alloc _⟩, ?_⟩
              have kA := Bk.new wc45 #[.int .i64 0, .int .i64 0, .bool false, .bool false, .bool false] 52
              replace kS9 := kS9.alloc (.cells #[.int .i64 0, .int .i64 0, .bool false, .bool false, .bool false] 52)
              replace kU9 := kU9.alloc (.cells #[.int .i64 0, .int .i64 0, .bool false, .bool false, .bool false] 52)
              have hne : wc45.heap.size ≠ wd.heap.size := (Nat.ne_of_lt kB.lt).symm
              replace kB := kB.alloc (.cells #[.int .i64 0, .int .i64 0, .bool false, .bool false, .bool false] 52)
              have hz_wn50 := hB.size
              replace hB := hB.alloc (by omega) (.cells #[.int .i64 0, .int .i64 0, .bool false, .bool false, .bool false] 52)
              generalize hw_wn50 : wc45.alloc (.cells #[.int .i64 0, .int .i64 0, .bool false, .bool false, .bool false] 52) = wn50 at *
              try simp only [Act.put, List.setIfInBounds_toArray, List.set_cons_zero, List.set_cons_succ]
              refine wpAnyH_all (rs := [5]) (by kernel_rfl) (by simp) (fun i hi => ?_)
              obtain rfl : i = 5 := by simpa using hi
              refine callD 5 (some 47) rfl rfl rfl (f := 55) (args := #[.agg #[.slice A2 rs2.length c2, .int .i64 r2, .slice L2 ls2.length cl2, .slice B2 es2.length d2], .int .i64 p]) (run_call2 (vx := .agg #[.slice A2 rs2.length c2, .int .i64 r2, .slice L2 ls2.length cl2, .slice B2 es2.length d2]) (vy := .int .i64 p) (x := .tmp 45) (y := .tmp 46) rfl rfl rfl rfl (hcf _ _) _) (HE2.out _ (SpV.to hvr2 (show Below w6.heap.size w6 wn50 from hB))) ?_
              rintro e wc51 ⟨rfl, hb_wc51⟩
              refine ⟨_, rfl, ⟨kS9.to hb_wc51, kU9.to hb_wc51⟩, ?_⟩
              replace kS9 := kS9.to hb_wc51
              replace kU9 := kU9.to hb_wc51
              replace kA := kA.to hb_wc51
              replace kB := kB.to hb_wc51
              have hz_wc51 := hB.size
              replace hB := hB.trans (hb_wc51.mono (by omega))
              try simp only [Act.put, List.setIfInBounds_toArray, List.set_cons_zero, List.set_cons_succ]
              refine wpAnyH_all (rs := [8]) (by kernel_rfl) (by simp) (fun i hi => ?_)
              obtain rfl : i = 8 := by simpa using hi
              have kN := kA.row #[.int .i64 k1, .int .i64 n1, .bool a1, .bool b1, .bool c1]
              have kO := kB.rowfar hne.symm #[.int .i64 k1, .int .i64 n1, .bool a1, .bool b1, .bool c1]
              have hBn := below_row hB (show w6.heap.size ≤ wc45.heap.size by omega) #[.int .i64 k1, .int .i64 n1, .bool a1, .bool b1, .bool c1]
              have n_kS9 := kS9.rowfar (show _ ≠ wc45.heap.size by omega) #[.int .i64 k1, .int .i64 n1, .bool a1, .bool b1, .bool c1]
              have n_kU9 := kU9.rowfar (show _ ≠ wc45.heap.size by omega) #[.int .i64 k1, .int .i64 n1, .bool a1, .bool b1, .bool c1]
              refine storeD 8 rfl rfl rfl 52 _ _ rfl (wc45.heap.size) #[.int .i64 k1, .int .i64 n1, .bool a1, .bool b1, .bool c1] rfl rfl 52 _ kA (by kernel_rfl) rfl (all_oneCell_toArray (fun v hv => by simp at hv; rcases hv with rfl | rfl | rfl | rfl | rfl <;> rfl)) ⟨⟨n_kS9, n_kU9⟩, ?_⟩
              generalize World.setRow wc51 (wc45.heap.size) #[.int .i64 k1, .int .i64 n1, .bool a1, .bool b1, .bool c1] = wz52 at *
              replace kA := kN
              replace kB := kO
              replace hB := hBn
              replace kS9 := n_kS9
              replace kU9 := n_kU9
              clear kN kO hBn n_kS9 n_kU9
              try simp only [Act.put, List.setIfInBounds_toArray, List.set_cons_zero, List.set_cons_succ]
              refine wpAnyH_all (rs := [9]) (by kernel_rfl) (by simp) (fun i hi => ?_)
              obtain rfl : i = 9 := by simpa using hi
              have kN := kB.row #[.int .i64 k2, .int .i64 n2, .bool a2, .bool b2, .bool e2]
              have kO := kA.rowfar hne #[.int .i64 k2, .int .i64 n2, .bool a2, .bool b2, .bool e2]
              have hBn := below_row hB (show w6.heap.size ≤ wd.heap.size by omega) #[.int .i64 k2, .int .i64 n2, .bool a2, .bool b2, .bool e2]
              have n_kS9 := kS9.rowfar (show _ ≠ wd.heap.size by omega) #[.int .i64 k2, .int .i64 n2, .bool a2, .bool b2, .bool e2]
              have n_kU9 := kU9.rowfar (show _ ≠ wd.heap.size by omega) #[.int .i64 k2, .int .i64 n2, .bool a2, .bool b2, .bool e2]
              refine storeD 9 rfl rfl rfl 52 _ _ rfl (wd.heap.size) #[.int .i64 k2, .int .i64 n2, .bool a2, .bool b2, .bool e2] rfl rfl 52 _ kB (by kernel_rfl) rfl (all_oneCell_toArray (fun v hv => by simp at hv; rcases hv with rfl | rfl | rfl | rfl | rfl <;> rfl)) ⟨⟨n_kS9, n_kU9⟩, ?_⟩
              generalize World.setRow wz52 (wd.heap.size) #[.int .i64 k2, .int .i64 n2, .bool a2, .bool b2, .bool e2] = wz53 at *
              replace kB := kN
              replace kA := kO
              replace hB := hBn
              replace kS9 := n_kS9
              replace kU9 := n_kU9
              clear kN kO hBn n_kS9 n_kU9
              try simp only [Act.put, List.setIfInBounds_toArray, List.set_cons_zero, List.set_cons_succ]
              refine wpAnyH_done (by kernel_rfl) ?_ _
              try go_frame
              go_wp2_with fail
              go_meet
              exact ⟨_, _, rfl, rfl, kA, kB, hB⟩
          · skip
            refine valD 6 (some 13) rfl rfl rfl (hal _ _ _ rfl) ⟨⟨kS9.alloc _, kU9.alloc _⟩, ?_⟩
            have kA := Bk.new wn44 #[.int .i64 0, .int .i64 0, .bool false, .bool false, .bool false] 52
            replace kS9 := kS9.alloc (.cells #[.int .i64 0, .int .i64 0, .bool false, .bool false, .bool false] 52)
            replace kU9 := kU9.alloc (.cells #[.int .i64 0, .int .i64 0, .bool false, .bool false, .bool false] 52)
            have hne : wn44.heap.size ≠ wd.heap.size := (Nat.ne_of_lt kB.lt).symm
            replace kB := kB.alloc (.cells #[.int .i64 0, .int .i64 0, .bool false, .bool false, .bool false] 52)
            have hz_wn54 := hB.size
            replace hB := hB.alloc (by omega) (.cells #[.int .i64 0, .int .i64 0, .bool false, .bool false, .bool false] 52)
            generalize hw_wn54 : wn44.alloc (.cells #[.int .i64 0, .int .i64 0, .bool false, .bool false, .bool false] 52) = wn54 at *
            try simp only [Act.put, List.setIfInBounds_toArray, List.set_cons_zero, List.set_cons_succ]
            refine wpAnyH_all (rs := [2]) (by kernel_rfl) (by simp) (fun i hi => ?_)
            obtain rfl : i = 2 := by simpa using hi
            refine callD 2 (some 44) rfl rfl rfl (f := 55) (args := #[.agg #[.slice A rs.length c, .int .i64 r, .slice L ls.length cl, .slice B es.length d], .int .i64 p]) (run_call2 (vx := .agg #[.slice A rs.length c, .int .i64 r, .slice L ls.length cl, .slice B es.length d]) (vy := .int .i64 p) (x := .tmp 42) (y := .tmp 43) rfl rfl rfl rfl (hcf _ _) _) (HE.out _ (SpV.to hvr (show Below w6.heap.size w6 wn54 from hB))) ?_
            rintro e wc55 ⟨rfl, hb_wc55⟩
            refine ⟨_, rfl, ⟨kS9.to hb_wc55, kU9.to hb_wc55⟩, ?_⟩
            replace kS9 := kS9.to hb_wc55
            replace kU9 := kU9.to hb_wc55
            replace kA := kA.to hb_wc55
            replace kB := kB.to hb_wc55
            have hz_wc55 := hB.size
            replace hB := hB.trans (hb_wc55.mono (by omega))
            try simp only [Act.put, List.setIfInBounds_toArray, List.set_cons_zero, List.set_cons_succ]
            refine wpAnyH_all (rs := [5]) (by kernel_rfl) (by simp) (fun i hi => ?_)
            obtain rfl : i = 5 := by simpa using hi
            refine callD 5 (some 47) rfl rfl rfl (f := 55) (args := #[.agg #[.slice A2 rs2.length c2, .int .i64 r2, .slice L2 ls2.length cl2, .slice B2 es2.length d2], .int .i64 p]) (run_call2 (vx := .agg #[.slice A2 rs2.length c2, .int .i64 r2, .slice L2 ls2.length cl2, .slice B2 es2.length d2]) (vy := .int .i64 p) (x := .tmp 45) (y := .tmp 46) rfl rfl rfl rfl (hcf _ _) _) (HE2.out _ (SpV.to hvr2 (show Below w6.heap.size w6 wc55 from hB))) ?_
            rintro e wc56 ⟨rfl, hb_wc56⟩
            refine ⟨_, rfl, ⟨kS9.to hb_wc56, kU9.to hb_wc56⟩, ?_⟩
            replace kS9 := kS9.to hb_wc56
            replace kU9 := kU9.to hb_wc56
            replace kA := kA.to hb_wc56
            replace kB := kB.to hb_wc56
            have hz_wc56 := hB.size
            replace hB := hB.trans (hb_wc56.mono (by omega))
            try simp only [Act.put, List.setIfInBounds_toArray, List.set_cons_zero, List.set_cons_succ]
            refine wpAnyH_all (rs := [8]) (by kernel_rfl) (by simp) (fun i hi => ?_)
            obtain rfl : i = 8 := by simpa using hi
            have kN := kA.row #[.int .i64 k1, .int .i64 n1, .bool a1, .bool b1, .bool c1]
            have kO := kB.rowfar hne.symm #[.int .i64 k1, .int .i64 n1, .bool a1, .bool b1, .bool c1]
            have hBn := below_row hB (show w6.heap.size ≤ wn44.heap.size by omega) #[.int .i64 k1, .int .i64 n1, .bool a1, .bool b1, .bool c1]
            have n_kS9 := kS9.rowfar (show _ ≠ wn44.heap.size by omega) #[.int .i64 k1, .int .i64 n1, .bool a1, .bool b1, .bool c1]
            have n_kU9 := kU9.rowfar (show _ ≠ wn44.heap.size by omega) #[.int .i64 k1, .int .i64 n1, .bool a1, .bool b1, .bool c1]
            refine storeD 8 rfl rfl rfl 52 _ _ rfl (wn44.heap.size) #[.int .i64 k1, .int .i64 n1, .bool a1, .bool b1, .bool c1] rfl rfl 52 _ kA (by kernel_rfl) rfl (all_oneCell_toArray (fun v hv => by simp at hv; rcases hv with rfl | rfl | rfl | rfl | rfl <;> rfl)) ⟨⟨n_kS9, n_kU9⟩, ?_⟩
            generalize World.setRow wc56 (wn44.heap.size) #[.int .i64 k1, .int .i64 n1, .bool a1, .bool b1, .bool c1] = wz57 at *
            replace kA := kN
            replace kB := kO
            replace hB := hBn
            replace kS9 := n_kS9
            replace kU9 := n_kU9
            clear kN kO hBn n_kS9 n_kU9
            try simp only [Act.put, List.setIfInBounds_toArray, List.set_cons_zero, List.set_cons_succ]
            refine wpAnyH_all (rs := [9]) (by kernel_rfl) (by simp) (fun i hi => ?_)
            obtain rfl : i = 9 := by simpa using hi
            have kN := kB.row #[.int .i64 k2, .int .i64 n2, .bool a2, .bool b2, .bool e2]
            have kO := kA.rowfar hne #[.int .i64 k2, .int .i64 n2, .bool a2, .bool b2, .bool e2]
            have hBn := below_row hB (show w6.heap.size ≤ wd.heap.size by omega) #[.int .i64 k2, .int .i64 n2, .bool a2, .bool b2, .bool e2]
            have n_kS9 := kS9.rowfar (show _ ≠ wd.heap.size by omega) #[.int .i64 k2, .int .i64 n2, .bool a2, .bool b2, .bool e2]
            have n_kU9 := kU9.rowfar (show _ ≠ wd.heap.size by omega) #[.int .i64 k2, .int .i64 n2, .bool a2, .bool b2, .bool e2]
            refine storeD 9 rfl rfl rfl 52 _ _ rfl (wd.heap.size) #[.int .i64 k2, .int .i64 n2, .bool a2, .bool b2, .bool e2] rfl rfl 52 _ kB (by kernel_rfl) rfl (all_oneCell_toArray (fun v hv => by simp at hv; rcases hv with rfl | rfl | rfl | rfl | rfl <;> rfl)) ⟨⟨n_kS9, n_kU9⟩, ?_⟩
            generalize World.setRow wz57 (wd.heap.size) #[.int .i64 k2, .int .i64 n2, .bool a2, .bool b2, .bool e2] = wz58 at *
            replace kB := kN
            replace kA := kO
            replace hB := hBn
            replace kS9 := n_kS9
            replace kU9 := n_kU9
            clear kN kO hBn n_kS9 n_kU9
            try simp only [Act.put, List.setIfInBounds_toArray, List.set_cons_zero, List.set_cons_succ]
            refine wpAnyH_done (by kernel_rfl) ?_ _
            try go_frame
            go_wp2_with fail
            go_meet
            exact ⟨_, _, rfl, rfl, kA, kB, hB⟩
      case rest =>
        obtain ⟨ga, gb, rfl, rfl, kA, kB, hcC⟩ := hcut
        clear s0 s1 s2 s3 t0 t1 t2 t3 HE HE2 kSr kUr hvr hvr2 lk1 hBw
        replace hBx := bnext hBx hcC
        replace hrow := own_below hrow hcC
        obtain ⟨cA, fA, lA⟩ := kA.facts
        obtain ⟨cB, fB, lB⟩ := kB.facts
        by_cases hx : ha = hb
        case neg =>
          have hd : (ha != hb) = true := by simpa using hx
          have HY2 := Lib.hid (HY.out (by rw [hd]; rfl))
          clear HY HN
          go_wp2_with (at_builtin; refine wpList_append_own _ rfl _ _ 23 rfl w3.heap.size 3 i0 (.int .i64 0) 1 8 Tryd.underlying23 hi hz0 hz1 hz2 rfl (by decide) _ _ (iw (difL (rs, r, ls, es) (rs2, r2, ls2, es2) p)) rfl (hrow.alloc _) ⟨wc.heap.size, 0, none⟩ 1 1 [.int .i64 p] rfl rfl (cell_one_new _ _ _) (by simp [Value.oneCell']) (by simp only [maxLen]; omega) (by omega) (by have := hBx.size; simp; omega) ?_; intro v' w9 hown' hgrow _)
          have hown2 : w9.ownsRow w3.heap.size 3 1 v' (difL (rs, r, ls, es) (rs2, r2, ls2, es2) (p + 1)).length (iw (difL (rs, r, ls, es) (rs2, r2, ls2, es2) (p + 1))) := by
            rw [HY2.out]
            simpa [iw] using hown'
          have hBx2 : Below w3.heap.size w3 w9 := (hBx.alloc hBx.size _).grown hgrow (by have := hBx.size; simp; omega) (fun q e => (hrow.lt q e).1)
          clear hown' hgrow hrow hBx
          go_wp2_with fail
          go_roundw
          case rel => first | exact ⟨p + 1, by omega, by go_num, hown2, hBx2⟩ | ((repeat apply Exists.intro); exact ⟨⟨p + 1, by omega, by go_num, hown2, hBx2⟩, rfl⟩)
          case measure => simp [intOf]; omega
        have hd : (ha != hb) = false := by simpa using hx
        by_cases hk : k1 = k2
        case neg =>
          have hd2 : (k1 != k2) = true := by simpa using hk
          have HY2 := Lib.hid (HY.out (by rw [decide_eq_true (show k1 ≠ k2 from hk), Bool.true_or, Bool.or_true]))
          clear HY HN
          go_wp2_with (at_builtin; refine wpList_append_own _ rfl _ _ 23 rfl w3.heap.size 3 i0 (.int .i64 0) 1 8 Tryd.underlying23 hi hz0 hz1 hz2 rfl (by decide) _ _ (iw (difL (rs, r, ls, es) (rs2, r2, ls2, es2) p)) rfl (hrow.alloc _) ⟨wc.heap.size, 0, none⟩ 1 1 [.int .i64 p] rfl rfl (cell_one_new _ _ _) (by simp [Value.oneCell']) (by simp only [maxLen]; omega) (by omega) (by have := hBx.size; simp; omega) ?_; intro v' w9 hown' hgrow _)
          have hown2 : w9.ownsRow w3.heap.size 3 1 v' (difL (rs, r, ls, es) (rs2, r2, ls2, es2) (p + 1)).length (iw (difL (rs, r, ls, es) (rs2, r2, ls2, es2) (p + 1))) := by
            rw [HY2.out]
            simpa [iw] using hown'
          have hBx2 : Below w3.heap.size w3 w9 := (hBx.alloc hBx.size _).grown hgrow (by have := hBx.size; simp; omega) (fun q e => (hrow.lt q e).1)
          clear hown' hgrow hrow hBx
          go_wp2_with fail
          go_roundw
          case rel => first | exact ⟨p + 1, by omega, by go_num, hown2, hBx2⟩ | ((repeat apply Exists.intro); exact ⟨⟨p + 1, by omega, by go_num, hown2, hBx2⟩, rfl⟩)
          case measure => simp [intOf]; omega
        have hd2 : (k1 != k2) = false := by simpa using hk
        by_cases hn1 : n1 = n2
        case neg =>
          have hd3 : (n1 != n2) = true := by simpa using hn1
          have HY2 := Lib.hid (HY.out (by rw [decide_eq_true (show n1 ≠ n2 from hn1), Bool.or_true, Bool.or_true]))
          clear HY HN
          go_wp2_with (at_builtin; refine wpList_append_own _ rfl _ _ 23 rfl w3.heap.size 3 i0 (.int .i64 0) 1 8 Tryd.underlying23 hi hz0 hz1 hz2 rfl (by decide) _ _ (iw (difL (rs, r, ls, es) (rs2, r2, ls2, es2) p)) rfl (hrow.alloc _) ⟨wc.heap.size, 0, none⟩ 1 1 [.int .i64 p] rfl rfl (cell_one_new _ _ _) (by simp [Value.oneCell']) (by simp only [maxLen]; omega) (by omega) (by have := hBx.size; simp; omega) ?_; intro v' w9 hown' hgrow _)
          have hown2 : w9.ownsRow w3.heap.size 3 1 v' (difL (rs, r, ls, es) (rs2, r2, ls2, es2) (p + 1)).length (iw (difL (rs, r, ls, es) (rs2, r2, ls2, es2) (p + 1))) := by
            rw [HY2.out]
            simpa [iw] using hown'
          have hBx2 : Below w3.heap.size w3 w9 := (hBx.alloc hBx.size _).grown hgrow (by have := hBx.size; simp; omega) (fun q e => (hrow.lt q e).1)
          clear hown' hgrow hrow hBx
          go_wp2_with fail
          go_roundw
          case rel => first | exact ⟨p + 1, by omega, by go_num, hown2, hBx2⟩ | ((repeat apply Exists.intro); exact ⟨⟨p + 1, by omega, by go_num, hown2, hBx2⟩, rfl⟩)
          case measure => simp [intOf]; omega
        have hd3 : (n1 != n2) = false := by simpa using hn1
        have HN2 := Lib.hid (HN.out (by rw [hd, decide_eq_false (show ¬ k1 ≠ k2 from fun h => h hk), decide_eq_false (show ¬ n1 ≠ n2 from fun h => h hn1)]; rfl))
        clear HY HN
        go_wp2_with fail
        go_roundw
        case rel => first | exact ⟨p + 1, by omega, by go_num, by rw [HN2.out]; exact hrow, hBx⟩ | ((repeat apply Exists.intro); exact ⟨⟨p + 1, by omega, by go_num, by rw [HN2.out]; exact hrow, hBx⟩, rfl⟩)
        case measure => simp [intOf]; omega
    · obtain rfl : p = 64 := by omega
      go_wp2_with fail
      go_ret2
      exact ⟨_, rfl, IsV.own hrow, hBw⟩
end Go.Proofs.YtmjahjdnfijpkaaDoor
/- The reference of chapter 28: Same, Counts. -/
namespace Go.Proofs.YtmjahjdnfijpkaaDoor
open Go Go.Proofs Go.RowKit
set_option linter.unusedSimpArgs false
set_option linter.unusedVariables false
set_option maxRecDepth 100000

set_option maxHeartbeats 2000000 in
theorem rSame28_any (rs : List (Int × Int)) (r : Int) (ls : List Int) (es : List Nat) (v : Value) (rs2 : List (Int × Int)) (r2 : Int) (ls2 : List Int) (es2 : List Nat) (v2 : Value) (w : World) (hv : SpV w v (rs, r, ls, es)) (hv2 : SpV w v2 (rs2, r2, ls2, es2)) (hn : rs.length ≤ 1000000) (hn2 : rs2.length ≤ 1000000) (hs : wsmall es) (hs2 : wsmall es2) :
    Calls Tryd.prog 23 #[v, v2] w fun e w' => e = .returned (.tuple #[.bool (samR (rs, r, ls, es) (rs2, r2, ls2, es2)).1, .int .i64 (samR (rs, r, ls, es) (rs2, r2, ls2, es2)).2]) ∧ Below w.heap.size w w' := by
  obtain ⟨A, c, L, cl, B, d, hve, hA, hLs, hB, hcc⟩ := id hv
  subst hve
  obtain ⟨A2, c2, L2, cl2, B2, d2, hve2, hA2, hLs2, hB2, hcc2⟩ := id hv2
  subst hve2
  unfold spcV at hv hv2 ⊢
  simp only at hv hv2 ⊢ hA hLs hB hcc hA2 hLs2 hB2 hcc2
  have kS := (Bk.new w #[.slice A rs.length c, .int .i64 r, .slice L ls.length cl, .slice B es.length d] 28).alloc (.cells #[.slice A2 rs2.length c2, .int .i64 r2, .slice L2 ls2.length cl2, .slice B2 es2.length d2] 28)
  have kU := Bk.new (w.alloc (.cells #[.slice A rs.length c, .int .i64 r, .slice L ls.length cl, .slice B es.length d] 28)) #[.slice A2 rs2.length c2, .int .i64 r2, .slice L2 ls2.length cl2, .slice B2 es2.length d2] 28
  simp only [World.size_alloc] at kU
  have hB1 := balloc (balloc (Below.refl _ w) (.cells #[.slice A rs.length c, .int .i64 r, .slice L ls.length cl, .slice B es.length d] 28)) (.cells #[.slice A2 rs2.length c2, .int .i64 r2, .slice L2 ls2.length cl2, .slice B2 es2.length d2] 28)
  generalize hw1 : (w.alloc (.cells #[.slice A rs.length c, .int .i64 r, .slice L ls.length cl, .slice B es.length d] 28)).alloc (.cells #[.slice A2 rs2.length c2, .int .i64 r2, .slice L2 ls2.length cl2, .slice B2 es2.length d2] 28) = w1 at *
  have HD := Lib.hid (rDiffer28_any rs r ls es _ rs2 r2 ls2 es2 _ _ (hv.to hB1) (hv2.to hB1) hn hn2 hs hs2)
  obtain ⟨cS, fS, lS⟩ := kS.facts
  obtain ⟨cU, fU, lU⟩ := kU.facts
  have HY := Lib.hid (fun h => samR_ok (a := (rs, r, ls, es)) (b := (rs2, r2, ls2, es2)) h)
  have HN := Lib.hid (fun h => difR_bad (a := (rs, r, ls, es)) (b := (rs2, r2, ls2, es2)) h)
  generalize samR (rs, r, ls, es) (rs2, r2, ls2, es2) = sR at *
  generalize difR (rs, r, ls, es) (rs2, r2, ls2, es2) = dR at *
  obtain ⟨l, er⟩ := dR
  simp only at HD HY HN
  by_cases h0 : er = 0
  case neg =>
    have hd : (er == 0) = false := by simpa using h0
    have HS := Lib.hid (HN.out h0)
    clear HY HN
    go_enter Tryd.func23, Tryd.ntmps23
    go_wp2_with fail
    refine HD.out.mono ?_
    rintro e w2 ⟨vd, rfl, hvd, hb2⟩
    clear cS fS lS cU fU lU
    go_wp2_with fail
    go_ret2
    exact ⟨by rw [HS.out]; rfl, bnext hB1 hb2⟩
  subst h0
  have HS := Lib.hid (HY.out rfl)
  have hln : ((l.length : Int) == 0) = decide (l = []) := by
    rcases l with _ | ⟨x, l⟩
    · rfl
    · have h1 : ((((x :: l).length : Nat) : Int) == 0) = false := by
        rw [beq_eq_false_iff_ne, List.length_cons]
        omega
      rw [h1]
      rfl
  have HLn := Lib.hid hln
  clear HY HN hln
  go_enter Tryd.func23, Tryd.ntmps23
  go_wp2_with fail
  refine HD.out.mono ?_
  rintro e w2 ⟨vd, rfl, ⟨Ad, cd, rfl, hrd⟩, hb2⟩
  clear cS fS lS cU fU lU
  go_wp2_with fail
  go_ret2
  refine ⟨?_, bnext hB1 hb2⟩
  rw [HS.out]
  simp only [← HLn.out]
  rfl
theorem take_bump {l cs : List Int} {k : Nat} (hk : k < l.length) : (l.take (k + 1)).foldl bump cs = bump ((l.take k).foldl bump cs) (l.getD k 0) := by
  rw [List.take_add_one, List.getElem?_eq_getElem hk, List.foldl_append, List.getD_eq_getElem?_getD, List.getElem?_eq_getElem hk]
  rfl
theorem num_get {es : List Nat} {r : Int} {ls : List Int} (hT : tabE r ls es = 0) {k : Nat} (hk : k < (numL es 1 64).length) : 0 ≤ (numL es 1 64).getD k 0 ∧ (numL es 1 64).getD k 0 < 256 := by
  rw [List.getD_eq_getElem?_getD, List.getElem?_eq_getElem hk, Option.getD_some]
  have hm := List.getElem_mem hk
  generalize (numL es 1 64)[k] = x at *
  unfold numL at hm
  obtain ⟨p, hp, rfl⟩ := List.mem_map.1 hm
  have := entP_rng hT (List.mem_range.1 (List.mem_filter.1 hp).1)
  omega
/-- Between two frames. -/
def RcoJ (cs xs : List Int) (P : Nat) (w2 : World) (i : Value) (wr : World) : Prop := ∃ p : Nat, p ≤ xs.length ∧ i = .int .i64 p ∧ Bk wr P (iw ((xs.take p).foldl bump cs)).toArray 3 ∧ Below P w2 wr ∧ (∀ b, b ≠ P → wr.heap[b]? = w2.heap[b]?) ∧ wr.heap.size = w2.heap.size

set_option maxHeartbeats 8000000 in
theorem rCounts28_any (l : List Sp) (A : Option Addr) (c : Nat) (w : World) (hl : SpsV w A l) (hn : ∀ k, k < l.length → (l.getD k sp0).1.length ≤ 1000000 ∧ wsmall (l.getD k sp0).2.2.2) :
    Calls Tryd.prog 32 #[.slice A l.length c] w fun e w' => IsRes w w' (couR l).1 (couR l).2 e := by
  by_cases h8 : l.length ≤ 8
  case neg =>
    rw [couE_big (by omega)]
    have hd : decide ((8 : Int) < l.length) = true := decide_eq_true (by omega)
    have hd2 : (8 : Int) < l.length := by omega
    go_enter Tryd.func32, Tryd.ntmps32
    go_wp2_with fail
    go_ret2
    exact ⟨_, rfl, IsV.nil _, Below.refl _ _⟩
  have hd : ¬ (8 : Int) < l.length := by omega
  have HBad := Lib.hid (fun k hk h0 he => couR_bad (l := l) (k := k) h8 hk h0 he)
  have HOk := Lib.hid (fun h0 => couR_ok (l := l) h8 h0)
  have HSt := Lib.hid (fun k hk => couL_succ l k hk)
  have HBd := Lib.hid (fun k hk => couL_bd l k hk)
  generalize couR l = R at *
  have HN := Lib.hid hn
  have HL := Lib.hid hl
  obtain ⟨N, hN⟩ : ∃ N, N = l.length := ⟨_, rfl⟩
  rw [← hN] at hd h8 ⊢
  have HNN := Lib.hid hN
  clear hN hn hl
  have hmk := make_ct
  go_enter Tryd.func32, Tryd.ntmps32
  go_upto_region 4 with fail
  clear hmk
  have kC := Bk.new w (iw zer).toArray 3
  have hB1 := balloc (Below.refl _ w) (.cells (iw zer).toArray 3)
  generalize w.alloc (.cells (iw zer).toArray 3) = w2 at *
  have HB12 := Lib.hid (show ∀ W, Below w.heap.size w2 W → Below w.heap.size w W from fun W h => hB1.trans h)
  have hcz : couL l 0 = zer := by simp [couL]
  rw [← hcz] at kC
  obtain ⟨P, hP⟩ : ∃ P, P = w.heap.size := ⟨_, rfl⟩
  rw [← hP] at kC HB12 ⊢
  have HP := Lib.hid hP
  clear hP hB1 hcz
  go_wp2_with fail
  go_loopw [5] (fun i wr => CouI l P w2 i wr) (fun i _ => N - (intOf i).toNat)
  case atStart => exact ⟨0, by omega, rfl, rfl, kC, Below.refl _ _⟩
  case round =>
    obtain ⟨k, hk, rfl, h0, kk, hBx⟩ := hrel
    by_cases hlt : k < N
    · have hltL : k < l.length := by have := HNN.out; omega
      have hkI : (k : Int) < N := by omega
      have hBw := HB12.out _ hBx
      obtain ⟨b, off, A', c', L, cl, B, d, rfl, x0, x1, x2, x3, hv⟩ := (HL.out.to (by rw [← HP.out]; exact hBw)).get hltL
      obtain ⟨hn1, hs1⟩ := HN.out k hltL
      have HS := Lib.hid (HSt.out k hltL)
      have HB := Lib.hid (HBad.out k hltL h0)
      have H0 := Lib.hid (fun he => fst0_step (fun i => spcE (l.getD i sp0)) k h0 he)
      have hbd := HBd.out k (by omega)
      have hlen := cou_len l k
      generalize l.getD k sp0 = s at *
      generalize couL l k = cs at *
      obtain ⟨rs, r, ls, es⟩ := s
      simp only at x0 x1 x2 x3 hn1 hs1 HS HB H0 hv
      have hPr : P < wr.heap.size := kk.lt
      have HC := Lib.hid (rShared28_any rs r ls es _ _ hv hn1 hs1)
      by_cases hE : spcE (rs, r, ls, es) = 0
      case neg =>
        have HR := Lib.hid (HB.out hE)
        have hsh : shaR (rs, r, ls, es) = ([], [], spcE (rs, r, ls, es)) := by unfold shaR; rw [if_pos hE]
        rw [hsh] at HC
        have hd3 : (spcE (rs, r, ls, es) != 0) = true := by simpa using hE
        generalize spcE (rs, r, ls, es) = z at *
        clear HB H0 HS hsh
        go_wp2_with fail
        refine HC.out.mono ?_
        rintro e w5 ⟨v5, u5', rfl, _, _, _, hb5⟩
        go_wp2_with fail
        go_ret2
        rw [HR.out]
        exact ⟨_, rfl, IsV.nil _, by rw [← HP.out]; exact hBw.trans (hb5.mono (by omega))⟩
      replace H0 := Lib.hid (H0.out hE)
      have hsh : shaR (rs, r, ls, es) = (numL es 1 64, numL es 2 64, 0) := by unfold shaR; rw [if_neg (by simpa using hE)]
      rw [hsh] at HC
      have hT := (spc_zero hE).2.1
      simp only at hT
      have HRg := Lib.hid (fun k hk => num_get hT (k := k) hk)
      have hl64 := nums_len es 1 64
      generalize numL es 1 64 = xs at *
      clear HB hE hT hsh
      go_wp2_with fail
      refine HC.out.mono ?_
      rintro e w6 ⟨v5, u5', rfl, ⟨AX, cX, rfl, hrX⟩, _, hlX, hb6⟩
      have HlX := Lib.hid (fun b off h0 e => hlX _ _ _ rfl b off h0 e)
      clear hlX
      replace kk := kk.to hb6
      replace hBx := hBx.trans (hb6.mono (by omega))
      replace hBw := hBw.trans (hb6.mono (by omega))
      clear hb6 hv HC x0 x1 x2 x3
      have hP6 : P < w6.heap.size := kk.lt
      have HrX := Lib.hid hrX
      obtain ⟨M, hM⟩ : ∃ M, M = xs.length := ⟨_, rfl⟩
      have HMM := Lib.hid hM
      rw [← hM] at hl64 ⊢
      clear hrX hM
      go_wp2_with fail
      go_loopw [9] (fun i wx => RcoJ cs xs P w6 i wx) (fun i _ => M - (intOf i).toNat)
      case atStart => exact ⟨0, by omega, rfl, kk, Below.refl _ _, fun _ _ => rfl, rfl⟩
      case round =>
        obtain ⟨p, hp, rfl, kp, hBy, hsame, hszr⟩ := hrel
        by_cases hlp : p < M
        · have hpI : (p : Int) < M := by omega
          have hpL : p < xs.length := by have := HMM.out; omega
          obtain ⟨bX, oX, hAX, hbX, hcX⟩ := HrX.out.2 (by omega)
          subst hAX
          have hneX : bX ≠ P := by have := HlX.out bX oX (by omega) rfl; omega
          have hcell : wr.cell? ⟨bX, oX + p, none⟩ = some (.int .i64 (xs.getD p 0)) := by
            rw [World.cell?_of_block (a := ⟨bX, oX + p, none⟩) (hsame bX hneX)]
            exact hcX p _ (by simp [iw, List.getD_eq_getElem?_getD, hpL])
          have hrg := HRg.out p hpL
          have HTk := Lib.hid (take_bump (cs := cs) hpL)
          have hb2 := bumps_bd (xs.take p) cs (64 * (k : Int)) hbd
          have hln2 := bumps_len (xs.take p) cs
          have hlt2 : (xs.take p).length ≤ p := by rw [List.length_take]; omega
          generalize xs.getD p 0 = b1 at *
          obtain ⟨bn, rfl⟩ : ∃ bn : Nat, b1 = bn := ⟨b1.toNat, by omega⟩
          have hbn : bn < 256 := by omega
          have hbnI : (bn : Int) < 256 := by omega
          have hz := hb2 bn
          have cU := ct_cell kp (x := bn) (by omega)
          have fU := kp.frozen
          have lU := kp.lt
          have HPt := Lib.hid (fun z => ct_put kp bn z)
          have HBm := Lib.hid (bump_nat ((xs.take p).foldl bump cs) bn)
          generalize hgz : ((xs.take p).foldl bump cs).getD bn 0 = z at *
          clear hgz hrg hb2
          have hz1 : 0 ≤ z ∧ z ≤ 1000 := by omega
          obtain ⟨hz2, hz3⟩ := hz1
          clear hz
          go_wp2_with fail
          go_roundw
          case rel => exact ⟨p + 1, by omega, by go_num, by rw [HTk.out, HBm.out]; exact HPt.out _, hBy.setCell (p := ⟨P, bn, none⟩) (Nat.le_refl _) _, fun b hb => (Below.heap_setCell _ ⟨P, bn, none⟩ _ b hb).trans (hsame b hb), by simpa using hszr⟩
          case measure => simp [intOf]; omega
        · have hpM : p = xs.length := by have := HMM.out; omega
          have hpI : ¬ (p : Int) < M := by omega
          have HTa : Hid (Bk wr P (iw (xs.foldl bump cs)).toArray 3) := Lib.hid (by rw [hpM, List.take_length] at kp; exact kp)
          clear kp hpM
          go_wp2_with fail
          go_roundw
          case rel => exact ⟨k + 1, by omega, by go_num, H0.out, by rw [HS.out]; exact HTa.out, hBx.trans hBy⟩
          case measure => simp [intOf]; omega
    · have hkN : k = l.length := by have := HNN.out; omega
      subst hkN
      have HR := Lib.hid (HOk.out h0)
      have hlen := cou_len l l.length
      have hBw := HB12.out _ hBx
      have hge : ¬ (l.length : Int) < N := by omega
      clear h0
      go_wp2_with fail
      go_ret2
      rw [HR.out]
      exact ⟨_, rfl, ct_is kk hlen, by rw [← HP.out]; exact hBw⟩
end Go.Proofs.YtmjahjdnfijpkaaDoor
