/- ForkShows returns true. -/
import Derived.Test.YtmjahjdnfijpkaaDoorHT
import Derived.Test.YtmjahjdnfijpkaaDoorHG
import Derived.Test.YtmjahjdnfijpkaaDoorHF
import Derived.Test.YtmjahjdnfijpkaaDoorSpR
import Derived.Test.YtmjahjdnfijpkaaDoorSpK
import Derived.Test.YtmjahjdnfijpkaaDoorHS
import Derived.Deep.RegionHeld3
namespace Go.Proofs.YtmjahjdnfijpkaaDoor
open Go Go.Proofs Go.RowKit
set_option linter.unusedSimpArgs false
set_option linter.unusedVariables false
set_option maxRecDepth 100000

/-- What the statement asks of each side of a fork. -/
structure ShwF (s X : Sp) : Prop where
  len : X.1.length ≤ 64
  sm : wsmall X.2.2.2
  tab : tabE X.2.1 X.2.2.1 X.2.2.2 = 0
  h64 : X.2.2.2.length = 64
  same : samR s X = (true, 0)
  dif : difR X s = ([], 0)
  nw : ∀ p, p < 64 → (entP X.2.2.2 p).2.2.1 = false
theorem shw_of {s X : Sp} (hs : spcE s = 0) (hX : spcE X = 0) (hA : Alike s X) (hsm : wsmall X.2.2.2) (hn : X.1.length ≤ 64) (hw : ∀ p, p < 64 → (entP X.2.2.2 p).2.2.1 = false) : ShwF s X := by
  have hT := (spc_zero hX).2.1
  have d1 : difR s X = ([], 0) := by
    unfold difR
    rw [if_neg (by rw [orE_r _ hs, hX]; decide), difL_alike hA]
  refine ⟨hn, hsm, hT, (tab_zero hT).2.1, ?_, ?_, hw⟩
  · unfold samR
    rw [d1]
    rfl
  · unfold difR
    rw [if_neg (by rw [orE_r _ hX, hs]; decide), difL_alike hA.symm]
theorem chi_frs {fr ls : List Int} (h8 : ls.length = 8) (h4 : ∀ i, i < 8 → -1 ≤ ls.getD i 0) (hf : FrOk fr ls) (h0 : ∀ f ∈ fr, 0 ≤ f) (z : Int) : frsL z (chiL fr ls) 8 = frsL z ls 8 := by
  unfold frsL
  rw [List.filter_congr (q := fun i => decide (0 ≤ ls.getD i 0))]
  intro i hi
  have hi8 := List.mem_range.1 hi
  have e : (chiL fr ls).getD i 0 = chiA fr ls i := by
    unfold chiL
    rw [List.getD_eq_getElem?_getD, List.getElem?_map, List.getElem?_range hi8]
    rfl
  rw [e]
  by_cases hn : ls.getD i 0 = -1
  · rw [(chiA_neg h8 hf hi8).2 hn, hn]
  · obtain ⟨e2, hlt⟩ := chiA_idx h8 hf hi8 hn
    have h1 := h0 _ (getD_mem hlt)
    rw [← e2] at h1
    have h2 := h4 i hi8
    rw [decide_eq_true h1, decide_eq_true (by omega)]
theorem shows_facts {rs : List (Int × Int)} {ls : List Int} {es : List Nat} (hM : MdS (rs, 10, ls, es) 10) (hl8 : ls.length = 8) (hrl : rs.length ≤ 64) :
    ∃ (sP sC sQ sD : Sp), wsmall es ∧ es.length = 64 ∧ forR (rs, 10, ls, es) (frsL 100 ls 8) = (sP, sC, 0) ∧ forR sC (frsL 120 ls 8) = (sQ, sD, 0) ∧ spcE sP = 0 ∧ spcE sC = 0 ∧ spcE sD = 0 ∧ ShwF (rs, 10, ls, es) sP ∧ ShwF (rs, 10, ls, es) sC ∧ ShwF (rs, 10, ls, es) sD := by
  have hfo := hM.frames (y := 100) (by omega) (by omega) (by omega) (by omega)
  simp only at hfo
  have hok := hM.ok
  obtain ⟨hpv, hpA⟩ := par_valid hok
  obtain ⟨_, hfk, _⟩ := for_zero hfo
  obtain ⟨hcv, hcA⟩ := chi_valid hok hfk
  have hT0 := (spc_zero hok).2.1
  have hMC := hM.child (y := 100) (by omega) (by omega) (by omega) (by omega)
  simp only at hMC
  have hfo2 := hMC.frames (y := 120) (by omega) (by omega) (by omega) (by omega)
  have hcf : frsL 120 (chiL (frsL 100 ls 8) ls) 8 = frsL 120 ls 8 := chi_frs hl8 (fun i hi => ((tab_zero hT0).2.2.2.1 i hi).1) hfk (fun f hf => by have := frs_rng hf; omega) 120
  rw [show (chiS (rs, 10, ls, es) (frsL 100 ls 8)).2.2.1 = chiL (frsL 100 ls 8) ls from rfl, hcf] at hfo2
  obtain ⟨_, hfk2, _⟩ := for_zero hfo2
  obtain ⟨hdv, hdA⟩ := chi_valid hMC.ok hfk2
  have hTC := (spc_zero hMC.ok).2.1
  obtain ⟨_, h64, _, _, _, _, h7, _⟩ := tab_zero hT0
  obtain ⟨_, h64C, _, _, _, _, h7C, _⟩ := tab_zero hTC
  refine ⟨parS (rs, 10, ls, es), chiS (rs, 10, ls, es) (frsL 100 ls 8), parS (chiS (rs, 10, ls, es) (frsL 100 ls 8)), chiS (chiS (rs, 10, ls, es) (frsL 100 ls 8)) (frsL 120 ls 8), hM.sm, h64, ?_, ?_, hpv, hcv, hdv,
    shw_of hok hpv hpA (wsmall_map parW_kp hT0 hM.sm) hrl (fun p hp => ?_), shw_of hok hcv hcA (wsmall_map chiW_kp hT0 hM.sm) hrl (fun p hp => ?_), shw_of hok hdv (hcA.trans hdA) (wsmall_map chiW_kp hTC hMC.sm) hrl (fun p hp => ?_)⟩
  · unfold forR; rw [if_neg (by rw [hfo]; decide)]
  · unfold forR; rw [if_neg (by rw [hfo2]; decide)]
  · show (entP (es.map parW) p).2.2.1 = false
    unfold entP
    rw [map_getD0 parW es (by rw [show es.length = 64 from h64]; exact hp)]
    exact parW_nw _ (h7 p hp)
  · show (entP (es.map chiW) p).2.2.1 = false
    unfold entP
    rw [map_getD0 chiW es (by rw [show es.length = 64 from h64]; exact hp)]
    exact chiW_nw _ (h7 p hp)
  · show (entP ((chiS (rs, 10, ls, es) (frsL 100 ls 8)).2.2.2.map chiW) p).2.2.1 = false
    unfold entP
    rw [map_getD0 chiW _ (by rw [h64C]; exact hp)]
    exact chiW_nw _ (h7C p hp)
theorem sps_three {w : World} {g : Nat} {t : TypeId} {a b c : Sp} {A1 L1 B1 A2 L2 B2 A3 L3 B3 : Option Addr} {c1 cl1 d1 c2 cl2 d2 c3 cl3 d3 : Nat} (h : Bk w g #[.slice A1 a.1.length c1, .int .i64 a.2.1, .slice L1 a.2.2.1.length cl1, .slice B1 a.2.2.2.length d1, .slice A2 b.1.length c2, .int .i64 b.2.1, .slice L2 b.2.2.1.length cl2, .slice B2 b.2.2.2.length d2, .slice A3 c.1.length c3, .int .i64 c.2.1, .slice L3 c.2.2.1.length cl3, .slice B3 c.2.2.2.length d3] t)
    (ha : SpV w (.agg #[.slice A1 a.1.length c1, .int .i64 a.2.1, .slice L1 a.2.2.1.length cl1, .slice B1 a.2.2.2.length d1]) a) (hb : SpV w (.agg #[.slice A2 b.1.length c2, .int .i64 b.2.1, .slice L2 b.2.2.1.length cl2, .slice B2 b.2.2.2.length d2]) b) (hc : SpV w (.agg #[.slice A3 c.1.length c3, .int .i64 c.2.1, .slice L3 c.2.2.1.length cl3, .slice B3 c.2.2.2.length d3]) c) : SpsV w (some ⟨g, 0, none⟩) [a, b, c] := by
  refine ⟨[.slice A1 a.1.length c1, .int .i64 a.2.1, .slice L1 a.2.2.1.length cl1, .slice B1 a.2.2.2.length d1, .slice A2 b.1.length c2, .int .i64 b.2.1, .slice L2 b.2.2.1.length cl2, .slice B2 b.2.2.2.length d2, .slice A3 c.1.length c3, .int .i64 c.2.1, .slice L3 c.2.2.1.length cl3, .slice B3 c.2.2.2.length d3], ⟨rfl, fun _ => ⟨g, 0, rfl, h.lt, fun j u hu => by rw [Nat.zero_add, h.cell j, List.getElem?_toArray]; exact hu⟩⟩, fun k hk => ?_⟩
  rcases k with _ | _ | _ | k
  · obtain ⟨_, _, _, _, _, _, e', q1, q2, q3, q4⟩ := ha
    simp only [spcV, Value.agg.injEq, Array.mk.injEq, List.cons.injEq, Value.slice.injEq] at e'
    obtain ⟨⟨rfl, _, rfl⟩, _, ⟨rfl, _, rfl⟩, ⟨rfl, _, rfl⟩, _⟩ := e'
    exact ⟨_, _, _, _, _, _, rfl, rfl, rfl, rfl, q1, q2, q3, q4⟩
  · obtain ⟨_, _, _, _, _, _, e', q1, q2, q3, q4⟩ := hb
    simp only [spcV, Value.agg.injEq, Array.mk.injEq, List.cons.injEq, Value.slice.injEq] at e'
    obtain ⟨⟨rfl, _, rfl⟩, _, ⟨rfl, _, rfl⟩, ⟨rfl, _, rfl⟩, _⟩ := e'
    exact ⟨_, _, _, _, _, _, rfl, rfl, rfl, rfl, q1, q2, q3, q4⟩
  · obtain ⟨_, _, _, _, _, _, e', q1, q2, q3, q4⟩ := hc
    simp only [spcV, Value.agg.injEq, Array.mk.injEq, List.cons.injEq, Value.slice.injEq] at e'
    obtain ⟨⟨rfl, _, rfl⟩, _, ⟨rfl, _, rfl⟩, ⟨rfl, _, rfl⟩, _⟩ := e'
    exact ⟨_, _, _, _, _, _, rfl, rfl, rfl, rfl, q1, q2, q3, q4⟩
  · simp at hk
    omega
/-- Between two rounds. -/
def ShwI (n : Nat) (w9 : World) (i : Value) (wr : World) : Prop := ∃ k : Nat, k ≤ n ∧ i = .int .i64 k ∧ Below w9.heap.size w9 wr

set_option maxHeartbeats 16000000 in
theorem ForkShows_true (F : Option Addr) (cf : Nat) (zs : List Int) (w : World) (hF : Rd w 1 F zs.length (iw zs)) (hn : zs.length ≤ maxLen) (hL : LayOK w) :
    Calls Tryd.prog 5 #[.slice F zs.length cf] w fun e w' => e = .returned (.bool true) ∧ Below w.heap.size w w' := by
  have hB0 := Below.refl w.heap.size w
  have HMd := Lib.hid (made28_any F cf zs w hF hn)
  generalize zs.length = nz at *
  clear hF hn
  go_enter Tryd.func5, Tryd.ntmps5
  go_wp2_with fail
  refine (HMd.out).mono ?_
  rintro e w1 ⟨rs, ls, es, vS, rfl, hvS, hM, -, hl8, hrl, hb1⟩
  replace hL := hL.below hb1
  replace hB0 := bnext hB0 hb1
  clear hb1
  obtain ⟨AS, cS, LS, clS, BS, dS, rfl, -, -, -, -⟩ := id hvS
  simp only [spcV] at hvS ⊢
  clear HMd
  obtain ⟨⟨rsP, rP, lsP, esP⟩, ⟨rsC, rC, lsC, esC⟩, ⟨rsQ, rQ, lsQ, esQ⟩, ⟨rsD, rD, lsD, esD⟩, hsm, h64, hfR, hfR2, hpv, hcv, hdv, hsP, hsC, hsD⟩ := shows_facts hM hl8 hrl
  have hsmP := hsP.sm
  have hsmC := hsC.sm
  have hsmD := hsD.sm
  have hrP := hsP.len
  have hrC := hsC.len
  have hrD := hsD.len
  simp only at hsmP hsmC hsmD hrP hrC hrD
  have hfl := frs_len9 100 ls 8
  have hfl2 := frs_len9 120 ls 8
  have HOS := Lib.hid (fun v W h => OwnSpace_any rs 10 ls es v W h (by omega) (by omega) (by omega))
  have HFr := Lib.hid (fun v W h => frames28_any rs 10 ls es v 100 W h hl8 (by omega))
  have HFr2 := Lib.hid (fun v W h => frames28_any rs 10 ls es v 120 W h hl8 (by omega))
  have HFk := Lib.hid (fun v F cf W h hl hF hcf => fFork_any rs 10 ls es v (frsL 100 ls 8) F cf W h (by omega) hsm hl hF hcf (by omega))
  have HFk2 := Lib.hid (fun v F cf W h hl hF hcf => fFork_any rsC rC lsC esC v (frsL 120 ls 8) F cf W h (by omega) hsmC hl hF hcf (by omega))
  have HCP := Lib.hid (fun v W h => rSpCheck_any rsP rP lsP esP v W h (by omega) hsmP)
  have HCC := Lib.hid (fun v W h => rSpCheck_any rsC rC lsC esC v W h (by omega) hsmC)
  have HCD := Lib.hid (fun v W h => rSpCheck_any rsD rD lsD esD v W h (by omega) hsmD)
  rw [hpv] at HCP
  rw [hcv] at HCC
  rw [hdv] at HCD
  rw [hfR] at HFk
  rw [hfR2] at HFk2
  have HX : Hid (∀ k, k < 3 → ShwF (rs, 10, ls, es) ([(rsP, rP, lsP, esP), (rsC, rC, lsC, esC), (rsD, rD, lsD, esD)].getD k sp0)) := Lib.hid (fun k hk => by
    rcases k with _ | _ | _ | k
    · exact hsP
    · exact hsC
    · exact hsD
    · omega)
  have Hsm := Lib.hid hsm
  have Hrl := Lib.hid hrl
  generalize frsL 100 ls 8 = fr at *
  generalize frsL 120 ls 8 = fr2 at *
  clear hM hfR hfR2 hpv hcv hdv hsP hsC hsD hsmP hsmC hsmD hrP hrC hrD hfl hfl2 hl8 hrl hsm h64
  go_upto_region 2 with fail
  have ks := Bk.new w1 #[.slice AS rs.length cS, .int .i64 10, .slice LS ls.length clS, .slice BS es.length dS] 28
  have hcN := balloc (Below.refl _ w1) (.cells #[.slice AS rs.length cS, .int .i64 10, .slice LS ls.length clS, .slice BS es.length dS] 28)
  generalize w1.alloc (.cells #[.slice AS rs.length cS, .int .i64 10, .slice LS ls.length clS, .slice BS es.length dS] 28) = w2 at *
  replace hvS := hvS.to hcN
  replace hL := hL.below hcN
  replace hB0 := bnext hB0 hcN
  clear hcN
  have hB := below_drew (Below.refl w2.heap.size w2)
  have hu : (Tryd.prog.underlying 28).map (·.isRow) = some true := by kernel_rfl
  obtain ⟨dd, hu, hd⟩ := Option.map_eq_some_iff.1 hu
  have hal : ∀ (W : World) (ev : Operand → Value) (o : Oper), o.op = Op.alloc 28 → (execOp ev o).run Tryd.prog W = .ok (.value (.pointer (some ⟨W.heap.size, 0, none⟩))) (W.alloc (.cells #[.slice none 0 0, .int .i64 0, .slice none 0 0, .slice none 0 0] 28)) := fun W ev o ho => by unfold execOp; simp [ho, go_sem]
  have hcf1 : ∀ (x : Value) (W : World), (callFunc 12 #[x]).run Tryd.prog W = .ok (.enter 12 #[x]) W := fun x W => by go_simp
  have hcf2 : ∀ (x y : Value) (W : World), (callFunc 27 #[x, y]).run Tryd.prog W = .ok (.enter 27 #[x, y]) W := fun x y W => by go_simp
  have hcf3 : ∀ (x y : Value) (W : World), (callFunc 16 #[x, y]).run Tryd.prog W = .ok (.enter 16 #[x, y]) W := fun x y W => by go_simp
  have l9_ks := ks.lt
  refine wp_region_held_drew (S := fun w' => Bk w' w1.heap.size #[.slice AS rs.length cS, .int .i64 10, .slice LS ls.length clS, .slice BS es.length dS] 28) (by kernel_rfl) (ks.drew) (fun _ => ?_)
  refine takeD 0 (some 21) (.agg #[.slice AS rs.length cS, .int .i64 10, .slice LS ls.length clS, .slice BS es.length dS]) rfl rfl (by kernel_rfl) (by kernel_rfl) (by kernel_rfl) (fun _ _ _ h => h) (yieldsIf_load_mid (by rfl) 28 _ rfl w1.heap.size 0 rfl [.slice AS rs.length cS, .int .i64 10, .slice LS ls.length clS, .slice BS es.length dS] dd (fun w' e => e.range) hu hd (by kernel_rfl)) (ks.drew) ?_
  try simp only [Act.put, List.setIfInBounds_toArray, List.set_cons_zero, List.set_cons_succ]
  refine takeD 2 (some 23) (.agg #[.slice AS rs.length cS, .int .i64 10, .slice LS ls.length clS, .slice BS es.length dS]) rfl rfl (by kernel_rfl) (by kernel_rfl) (by kernel_rfl) (fun _ _ _ h => h) (yieldsIf_load_mid (by rfl) 28 _ rfl w1.heap.size 0 rfl [.slice AS rs.length cS, .int .i64 10, .slice LS ls.length clS, .slice BS es.length dS] dd (fun w' e => e.range) hu hd (by kernel_rfl)) (ks.drew) ?_
  try simp only [Act.put, List.setIfInBounds_toArray, List.set_cons_zero, List.set_cons_succ]
  generalize hw_d : w2.drew = wd at *
  refine shareD (X := Nat × Nat × Value × Option Addr × Nat × Value × Value) (fun x W => Bk W x.1 #[.slice none 0 0, .int .i64 0, .slice none 0 0, .slice none 0 0] 28 ∧ Bk W x.2.1 #[.slice none 0 0, .int .i64 0, .slice none 0 0, .slice none 0 0] 28 ∧ x.1 ≠ x.2.1 ∧ w2.heap.size ≤ x.1 ∧ w2.heap.size ≤ x.2.1 ∧ SpV W x.2.2.2.2.2.1 (rsP, rP, lsP, esP) ∧ SpV W x.2.2.2.2.2.2 (rsC, rC, lsC, esC) ∧ SNo x.1 x.2.2.2.2.2.1 ∧ SNo x.2.1 x.2.2.2.2.2.1 ∧ SNo x.1 x.2.2.2.2.2.2 ∧ SNo x.2.1 x.2.2.2.2.2.2 ∧ Below w2.heap.size w2 W) 3 #[true, true, true, true, true, true, true, true, true, true, true, false, false, false] (fun a x => (((((((((a.put (some 22) x.2.2.1).put (some 24) (.slice x.2.2.2.1 fr.length x.2.2.2.2.1)).put (some 25) (.tuple #[x.2.2.2.2.2.1, x.2.2.2.2.2.2, .int .i64 0])).put (some 20) (.tuple #[x.2.2.2.2.2.1, x.2.2.2.2.2.2, .int .i64 0])).put (some 26) x.2.2.2.2.2.1).put (some 27) x.2.2.2.2.2.2).put (some 28) (.int .i64 0)).put (some 4) (.pointer (some ⟨x.1, 0, none⟩))).put (some 5) (.pointer (some ⟨x.2.1, 0, none⟩)))) ?_ ?_
  · intro HK
    simp only [Act.put, List.setIfInBounds_toArray, List.set_cons_zero, List.set_cons_succ] at HK
    refine wpAnyH_all (rs := [1, 9, 10]) (by kernel_rfl) (by simp) (fun i hiR => ?_)
    simp only [List.mem_cons, List.not_mem_nil, or_false] at hiR
    rcases hiR with rfl | rfl | rfl
    · skip
      refine callD 1 (some 22) rfl rfl rfl (f := 12) (args := #[.agg #[.slice AS rs.length cS, .int .i64 10, .slice LS ls.length clS, .slice BS es.length dS]]) (run_call1 (vx := .agg #[.slice AS rs.length cS, .int .i64 10, .slice LS ls.length clS, .slice BS es.length dS]) (x := .tmp 21) rfl rfl rfl (hcf1 _) _) (HOS.out _ _ (SpV.to hvS (show Below w2.heap.size w2 wd from hB))) ?_
      rintro e wc1 ⟨vX, rfl, hvX, hb_wc1⟩
      refine ⟨_, rfl, ((ks.to hB).to hb_wc1), ?_⟩
      replace hB := hB.trans (hb_wc1.mono hB.size)
      clear hb_wc1
      try simp only [Act.put, List.setIfInBounds_toArray, List.set_cons_zero, List.set_cons_succ]
      refine wpAnyH_all (rs := [3, 9, 10]) (by kernel_rfl) (by simp) (fun i hiR => ?_)
      simp only [List.mem_cons, List.not_mem_nil, or_false] at hiR
      rcases hiR with rfl | rfl | rfl
      · skip
        refine callD 3 (some 24) rfl rfl rfl (f := 27) (args := #[.agg #[.slice AS rs.length cS, .int .i64 10, .slice LS ls.length clS, .slice BS es.length dS], .int .i64 100]) (run_call2 (vx := .agg #[.slice AS rs.length cS, .int .i64 10, .slice LS ls.length clS, .slice BS es.length dS]) (vy := .int .i64 100) (x := .tmp 23) (y := _) rfl rfl rfl rfl (hcf2 _ _) _) (HFr.out _ _ (SpV.to hvS (show Below w2.heap.size w2 wc1 from hB))) ?_
        rintro e wc2 ⟨AF, cF, rfl, hcF, hF, hb_wc2⟩
        refine ⟨_, rfl, ((ks.to hB).to hb_wc2), ?_⟩
        replace hvX := hvX.to hb_wc2
        replace hB := hB.trans (hb_wc2.mono hB.size)
        clear hb_wc2
        try simp only [Act.put, List.setIfInBounds_toArray, List.set_cons_zero, List.set_cons_succ]
        refine wpAnyH_all (rs := [4, 9, 10]) (by kernel_rfl) (by simp) (fun i hiR => ?_)
        simp only [List.mem_cons, List.not_mem_nil, or_false] at hiR
        rcases hiR with rfl | rfl | rfl
        · skip
          refine callD 4 (some 25) rfl rfl rfl (f := 16) (args := #[vX, .slice AF fr.length cF]) (run_call2 (vx := vX) (vy := .slice AF fr.length cF) (x := .tmp 22) (y := .tmp 24) rfl rfl rfl rfl (hcf3 _ _) _) (HFk.out _ _ _ _ hvX (hL.below (show Below w2.heap.size w2 wc2 from hB)) hF hcF) ?_
          rintro e wc3 ⟨vP, vC, rfl, hvP, hvC, hlP, hlC, hb_wc3⟩
          refine ⟨_, rfl, ((ks.to hB).to hb_wc3), ?_⟩
          clear hlP hlC
          replace hvX := hvX.to hb_wc3
          replace hF := hF.below hb_wc3 (Nat.le_refl _)
          replace hB := hB.trans (hb_wc3.mono hB.size)
          clear hb_wc3
          try simp only [Act.put, List.setIfInBounds_toArray, List.set_cons_zero, List.set_cons_succ]
          refine takeD 5 (some 20) (.tuple #[vP, vC, .int .i64 0]) rfl rfl (by kernel_rfl) (by kernel_rfl) (by kernel_rfl) (fun _ _ _ h => h) (.inl ⟨rfl, fun w' hS => by go_simp⟩) (ks.to hB) ?_
          try simp only [Act.put, List.setIfInBounds_toArray, List.set_cons_zero, List.set_cons_succ]
          refine takeD 6 (some 26) (vP) rfl rfl (by kernel_rfl) (by kernel_rfl) (by kernel_rfl) (fun _ _ _ h => h) (.inl ⟨rfl, fun w' hS => by go_simp⟩) (ks.to hB) ?_
          try simp only [Act.put, List.setIfInBounds_toArray, List.set_cons_zero, List.set_cons_succ]
          refine takeD 7 (some 27) (vC) rfl rfl (by kernel_rfl) (by kernel_rfl) (by kernel_rfl) (fun _ _ _ h => h) (.inl ⟨rfl, fun w' hS => by go_simp⟩) (ks.to hB) ?_
          try simp only [Act.put, List.setIfInBounds_toArray, List.set_cons_zero, List.set_cons_succ]
          refine takeD 8 (some 28) (.int .i64 0) rfl rfl (by kernel_rfl) (by kernel_rfl) (by kernel_rfl) (fun _ _ _ h => h) (.inl ⟨rfl, fun w' hS => by go_simp⟩) (ks.to hB) ?_
          try simp only [Act.put, List.setIfInBounds_toArray, List.set_cons_zero, List.set_cons_succ]
          refine wpAnyH_all (rs := [9, 10]) (by kernel_rfl) (by simp) (fun i hiR => ?_)
          simp only [List.mem_cons, List.not_mem_nil, or_false] at hiR
          rcases hiR with rfl | rfl
          · skip
            refine valD 9 (some 4) rfl rfl rfl (hal _ _ _ rfl) ⟨((ks.to hB).alloc _), ?_⟩
            have kA := Bk.new wc3 #[.slice none 0 0, .int .i64 0, .slice none 0 0, .slice none 0 0] 28
            have hcN := balloc (Below.refl _ wc3) (.cells #[.slice none 0 0, .int .i64 0, .slice none 0 0, .slice none 0 0] 28)
            have hgA : w2.heap.size ≤ wc3.heap.size := hB.size
            have hnAP := SNo.new hvP (Nat.le_refl _)
            have hnAC := SNo.new hvC (Nat.le_refl _)
            generalize hw_wn4 : wc3.alloc (.cells #[.slice none 0 0, .int .i64 0, .slice none 0 0, .slice none 0 0] 28) = wn4 at *
            replace hvX := hvX.to hcN
            replace hF := hF.below hcN (Nat.le_refl _)
            replace hvP := hvP.to hcN
            replace hvC := hvC.to hcN
            replace hB := hB.trans (hcN.mono hB.size)
            clear hcN
            try simp only [Act.put, List.setIfInBounds_toArray, List.set_cons_zero, List.set_cons_succ]
            refine wpAnyH_all (rs := [10]) (by kernel_rfl) (by simp) (fun i hiR => ?_)
            obtain rfl : i = 10 := by simpa using hiR
            refine valD 10 (some 5) rfl rfl rfl (hal _ _ _ rfl) ⟨((ks.to hB).alloc _), ?_⟩
            have kB := Bk.new wn4 #[.slice none 0 0, .int .i64 0, .slice none 0 0, .slice none 0 0] 28
            have hcN := balloc (Below.refl _ wn4) (.cells #[.slice none 0 0, .int .i64 0, .slice none 0 0, .slice none 0 0] 28)
            have hgB : w2.heap.size ≤ wn4.heap.size := hB.size
            have hneAB : wc3.heap.size ≠ wn4.heap.size := Nat.ne_of_lt kA.lt
            have hnBP := SNo.new hvP (Nat.le_refl _)
            have hnBC := SNo.new hvC (Nat.le_refl _)
            generalize hw_wn5 : wn4.alloc (.cells #[.slice none 0 0, .int .i64 0, .slice none 0 0, .slice none 0 0] 28) = wn5 at *
            replace kA := kA.to hcN
            replace hvX := hvX.to hcN
            replace hF := hF.below hcN (Nat.le_refl _)
            replace hvP := hvP.to hcN
            replace hvC := hvC.to hcN
            replace hB := hB.trans (hcN.mono hB.size)
            clear hcN
            try simp only [Act.put, List.setIfInBounds_toArray, List.set_cons_zero, List.set_cons_succ]
            exact HK (wc3.heap.size, wn4.heap.size, vX, AF, cF, vP, vC) _ ⟨kA, kB, hneAB, hgA, hgB, hvP, hvC, hnAP, hnBP, hnAC, hnBC, hB⟩
          · skip
            refine valD 10 (some 5) rfl rfl rfl (hal _ _ _ rfl) ⟨((ks.to hB).alloc _), ?_⟩
            have kB := Bk.new wc3 #[.slice none 0 0, .int .i64 0, .slice none 0 0, .slice none 0 0] 28
            have hcN := balloc (Below.refl _ wc3) (.cells #[.slice none 0 0, .int .i64 0, .slice none 0 0, .slice none 0 0] 28)
            have hgB : w2.heap.size ≤ wc3.heap.size := hB.size
            have hnBP := SNo.new hvP (Nat.le_refl _)
            have hnBC := SNo.new hvC (Nat.le_refl _)
            generalize hw_wn6 : wc3.alloc (.cells #[.slice none 0 0, .int .i64 0, .slice none 0 0, .slice none 0 0] 28) = wn6 at *
            replace hvX := hvX.to hcN
            replace hF := hF.below hcN (Nat.le_refl _)
            replace hvP := hvP.to hcN
            replace hvC := hvC.to hcN
            replace hB := hB.trans (hcN.mono hB.size)
            clear hcN
            try simp only [Act.put, List.setIfInBounds_toArray, List.set_cons_zero, List.set_cons_succ]
            refine wpAnyH_all (rs := [9]) (by kernel_rfl) (by simp) (fun i hiR => ?_)
            obtain rfl : i = 9 := by simpa using hiR
            refine valD 9 (some 4) rfl rfl rfl (hal _ _ _ rfl) ⟨((ks.to hB).alloc _), ?_⟩
            have kA := Bk.new wn6 #[.slice none 0 0, .int .i64 0, .slice none 0 0, .slice none 0 0] 28
            have hcN := balloc (Below.refl _ wn6) (.cells #[.slice none 0 0, .int .i64 0, .slice none 0 0, .slice none 0 0] 28)
            have hgA : w2.heap.size ≤ wn6.heap.size := hB.size
            have hneAB : wn6.heap.size ≠ wc3.heap.size := (Nat.ne_of_lt kB.lt).symm
            have hnAP := SNo.new hvP (Nat.le_refl _)
            have hnAC := SNo.new hvC (Nat.le_refl _)
            generalize hw_wn7 : wn6.alloc (.cells #[.slice none 0 0, .int .i64 0, .slice none 0 0, .slice none 0 0] 28) = wn7 at *
            replace kB := kB.to hcN
            replace hvX := hvX.to hcN
            replace hF := hF.below hcN (Nat.le_refl _)
            replace hvP := hvP.to hcN
            replace hvC := hvC.to hcN
            replace hB := hB.trans (hcN.mono hB.size)
            clear hcN
            try simp only [Act.put, List.setIfInBounds_toArray, List.set_cons_zero, List.set_cons_succ]
            exact HK (wn6.heap.size, wc3.heap.size, vX, AF, cF, vP, vC) _ ⟨kA, kB, hneAB, hgA, hgB, hvP, hvC, hnAP, hnBP, hnAC, hnBC, hB⟩
        · skip
          refine valD 9 (some 4) rfl rfl rfl (hal _ _ _ rfl) ⟨((ks.to hB).alloc _), ?_⟩
          have kA := Bk.new wc2 #[.slice none 0 0, .int .i64 0, .slice none 0 0, .slice none 0 0] 28
          have hcN := balloc (Below.refl _ wc2) (.cells #[.slice none 0 0, .int .i64 0, .slice none 0 0, .slice none 0 0] 28)
          have hgA : w2.heap.size ≤ wc2.heap.size := hB.size
          generalize hw_wn8 : wc2.alloc (.cells #[.slice none 0 0, .int .i64 0, .slice none 0 0, .slice none 0 0] 28) = wn8 at *
          replace hvX := hvX.to hcN
          replace hF := hF.below hcN (Nat.le_refl _)
          replace hB := hB.trans (hcN.mono hB.size)
          clear hcN
          try simp only [Act.put, List.setIfInBounds_toArray, List.set_cons_zero, List.set_cons_succ]
          refine wpAnyH_all (rs := [4, 10]) (by kernel_rfl) (by simp) (fun i hiR => ?_)
          simp only [List.mem_cons, List.not_mem_nil, or_false] at hiR
          rcases hiR with rfl | rfl
          · skip
            refine callD 4 (some 25) rfl rfl rfl (f := 16) (args := #[vX, .slice AF fr.length cF]) (run_call2 (vx := vX) (vy := .slice AF fr.length cF) (x := .tmp 22) (y := .tmp 24) rfl rfl rfl rfl (hcf3 _ _) _) (HFk.out _ _ _ _ hvX (hL.below (show Below w2.heap.size w2 wn8 from hB)) hF hcF) ?_
            rintro e wc9 ⟨vP, vC, rfl, hvP, hvC, hlP, hlC, hb_wc9⟩
            refine ⟨_, rfl, ((ks.to hB).to hb_wc9), ?_⟩
            have hnAP := SNo.loc hlP kA.lt
            have hnAC := SNo.loc hlC kA.lt
            clear hlP hlC
            replace kA := kA.to hb_wc9
            replace hvX := hvX.to hb_wc9
            replace hF := hF.below hb_wc9 (Nat.le_refl _)
            replace hB := hB.trans (hb_wc9.mono hB.size)
            clear hb_wc9
            try simp only [Act.put, List.setIfInBounds_toArray, List.set_cons_zero, List.set_cons_succ]
            refine takeD 5 (some 20) (.tuple #[vP, vC, .int .i64 0]) rfl rfl (by kernel_rfl) (by kernel_rfl) (by kernel_rfl) (fun _ _ _ h => h) (.inl ⟨rfl, fun w' hS => by go_simp⟩) (ks.to hB) ?_
            try simp only [Act.put, List.setIfInBounds_toArray, List.set_cons_zero, List.set_cons_succ]
            refine takeD 6 (some 26) (vP) rfl rfl (by kernel_rfl) (by kernel_rfl) (by kernel_rfl) (fun _ _ _ h => h) (.inl ⟨rfl, fun w' hS => by go_simp⟩) (ks.to hB) ?_
            try simp only [Act.put, List.setIfInBounds_toArray, List.set_cons_zero, List.set_cons_succ]
            refine takeD 7 (some 27) (vC) rfl rfl (by kernel_rfl) (by kernel_rfl) (by kernel_rfl) (fun _ _ _ h => h) (.inl ⟨rfl, fun w' hS => by go_simp⟩) (ks.to hB) ?_
            try simp only [Act.put, List.setIfInBounds_toArray, List.set_cons_zero, List.set_cons_succ]
            refine takeD 8 (some 28) (.int .i64 0) rfl rfl (by kernel_rfl) (by kernel_rfl) (by kernel_rfl) (fun _ _ _ h => h) (.inl ⟨rfl, fun w' hS => by go_simp⟩) (ks.to hB) ?_
            try simp only [Act.put, List.setIfInBounds_toArray, List.set_cons_zero, List.set_cons_succ]
            refine wpAnyH_all (rs := [10]) (by kernel_rfl) (by simp) (fun i hiR => ?_)
            obtain rfl : i = 10 := by simpa using hiR
            refine valD 10 (some 5) rfl rfl rfl (hal _ _ _ rfl) ⟨((ks.to hB).alloc _), ?_⟩
            have kB := Bk.new wc9 #[.slice none 0 0, .int .i64 0, .slice none 0 0, .slice none 0 0] 28
            have hcN := balloc (Below.refl _ wc9) (.cells #[.slice none 0 0, .int .i64 0, .slice none 0 0, .slice none 0 0] 28)
            have hgB : w2.heap.size ≤ wc9.heap.size := hB.size
            have hneAB : wc2.heap.size ≠ wc9.heap.size := Nat.ne_of_lt kA.lt
            have hnBP := SNo.new hvP (Nat.le_refl _)
            have hnBC := SNo.new hvC (Nat.le_refl _)
            generalize hw_wn10 : wc9.alloc (.cells #[.slice none 0 0, .int .i64 0, .slice none 0 0, .slice none 0 0] 28) = wn10 at *
            replace kA := kA.to hcN
            replace hvX := hvX.to hcN
            replace hF := hF.below hcN (Nat.le_refl _)
            replace hvP := hvP.to hcN
            replace hvC := hvC.to hcN
            replace hB := hB.trans (hcN.mono hB.size)
            clear hcN
            try simp only [Act.put, List.setIfInBounds_toArray, List.set_cons_zero, List.set_cons_succ]
            exact HK (wc2.heap.size, wc9.heap.size, vX, AF, cF, vP, vC) _ ⟨kA, kB, hneAB, hgA, hgB, hvP, hvC, hnAP, hnBP, hnAC, hnBC, hB⟩
          · skip
            refine valD 10 (some 5) rfl rfl rfl (hal _ _ _ rfl) ⟨((ks.to hB).alloc _), ?_⟩
            have kB := Bk.new wn8 #[.slice none 0 0, .int .i64 0, .slice none 0 0, .slice none 0 0] 28
            have hcN := balloc (Below.refl _ wn8) (.cells #[.slice none 0 0, .int .i64 0, .slice none 0 0, .slice none 0 0] 28)
            have hgB : w2.heap.size ≤ wn8.heap.size := hB.size
            have hneAB : wc2.heap.size ≠ wn8.heap.size := Nat.ne_of_lt kA.lt
            generalize hw_wn11 : wn8.alloc (.cells #[.slice none 0 0, .int .i64 0, .slice none 0 0, .slice none 0 0] 28) = wn11 at *
            replace kA := kA.to hcN
            replace hvX := hvX.to hcN
            replace hF := hF.below hcN (Nat.le_refl _)
            replace hB := hB.trans (hcN.mono hB.size)
            clear hcN
            try simp only [Act.put, List.setIfInBounds_toArray, List.set_cons_zero, List.set_cons_succ]
            refine wpAnyH_all (rs := [4]) (by kernel_rfl) (by simp) (fun i hiR => ?_)
            obtain rfl : i = 4 := by simpa using hiR
            refine callD 4 (some 25) rfl rfl rfl (f := 16) (args := #[vX, .slice AF fr.length cF]) (run_call2 (vx := vX) (vy := .slice AF fr.length cF) (x := .tmp 22) (y := .tmp 24) rfl rfl rfl rfl (hcf3 _ _) _) (HFk.out _ _ _ _ hvX (hL.below (show Below w2.heap.size w2 wn11 from hB)) hF hcF) ?_
            rintro e wc12 ⟨vP, vC, rfl, hvP, hvC, hlP, hlC, hb_wc12⟩
            refine ⟨_, rfl, ((ks.to hB).to hb_wc12), ?_⟩
            have hnAP := SNo.loc hlP kA.lt
            have hnAC := SNo.loc hlC kA.lt
            have hnBP := SNo.loc hlP kB.lt
            have hnBC := SNo.loc hlC kB.lt
            clear hlP hlC
            replace kA := kA.to hb_wc12
            replace kB := kB.to hb_wc12
            replace hvX := hvX.to hb_wc12
            replace hF := hF.below hb_wc12 (Nat.le_refl _)
            replace hB := hB.trans (hb_wc12.mono hB.size)
            clear hb_wc12
            try simp only [Act.put, List.setIfInBounds_toArray, List.set_cons_zero, List.set_cons_succ]
            refine takeD 5 (some 20) (.tuple #[vP, vC, .int .i64 0]) rfl rfl (by kernel_rfl) (by kernel_rfl) (by kernel_rfl) (fun _ _ _ h => h) (.inl ⟨rfl, fun w' hS => by go_simp⟩) (ks.to hB) ?_
            try simp only [Act.put, List.setIfInBounds_toArray, List.set_cons_zero, List.set_cons_succ]
            refine takeD 6 (some 26) (vP) rfl rfl (by kernel_rfl) (by kernel_rfl) (by kernel_rfl) (fun _ _ _ h => h) (.inl ⟨rfl, fun w' hS => by go_simp⟩) (ks.to hB) ?_
            try simp only [Act.put, List.setIfInBounds_toArray, List.set_cons_zero, List.set_cons_succ]
            refine takeD 7 (some 27) (vC) rfl rfl (by kernel_rfl) (by kernel_rfl) (by kernel_rfl) (fun _ _ _ h => h) (.inl ⟨rfl, fun w' hS => by go_simp⟩) (ks.to hB) ?_
            try simp only [Act.put, List.setIfInBounds_toArray, List.set_cons_zero, List.set_cons_succ]
            refine takeD 8 (some 28) (.int .i64 0) rfl rfl (by kernel_rfl) (by kernel_rfl) (by kernel_rfl) (fun _ _ _ h => h) (.inl ⟨rfl, fun w' hS => by go_simp⟩) (ks.to hB) ?_
            try simp only [Act.put, List.setIfInBounds_toArray, List.set_cons_zero, List.set_cons_succ]
            exact HK (wc2.heap.size, wn8.heap.size, vX, AF, cF, vP, vC) _ ⟨kA, kB, hneAB, hgA, hgB, hvP, hvC, hnAP, hnBP, hnAC, hnBC, hB⟩
        · skip
          refine valD 10 (some 5) rfl rfl rfl (hal _ _ _ rfl) ⟨((ks.to hB).alloc _), ?_⟩
          have kB := Bk.new wc2 #[.slice none 0 0, .int .i64 0, .slice none 0 0, .slice none 0 0] 28
          have hcN := balloc (Below.refl _ wc2) (.cells #[.slice none 0 0, .int .i64 0, .slice none 0 0, .slice none 0 0] 28)
          have hgB : w2.heap.size ≤ wc2.heap.size := hB.size
          generalize hw_wn13 : wc2.alloc (.cells #[.slice none 0 0, .int .i64 0, .slice none 0 0, .slice none 0 0] 28) = wn13 at *
          replace hvX := hvX.to hcN
          replace hF := hF.below hcN (Nat.le_refl _)
          replace hB := hB.trans (hcN.mono hB.size)
          clear hcN
          try simp only [Act.put, List.setIfInBounds_toArray, List.set_cons_zero, List.set_cons_succ]
          refine wpAnyH_all (rs := [4, 9]) (by kernel_rfl) (by simp) (fun i hiR => ?_)
          simp only [List.mem_cons, List.not_mem_nil, or_false] at hiR
          rcases hiR with rfl | rfl
          · skip
            refine callD 4 (some 25) rfl rfl rfl (f := 16) (args := #[vX, .slice AF fr.length cF]) (run_call2 (vx := vX) (vy := .slice AF fr.length cF) (x := .tmp 22) (y := .tmp 24) rfl rfl rfl rfl (hcf3 _ _) _) (HFk.out _ _ _ _ hvX (hL.below (show Below w2.heap.size w2 wn13 from hB)) hF hcF) ?_
            rintro e wc14 ⟨vP, vC, rfl, hvP, hvC, hlP, hlC, hb_wc14⟩
            refine ⟨_, rfl, ((ks.to hB).to hb_wc14), ?_⟩
            have hnBP := SNo.loc hlP kB.lt
            have hnBC := SNo.loc hlC kB.lt
            clear hlP hlC
            replace kB := kB.to hb_wc14
            replace hvX := hvX.to hb_wc14
            replace hF := hF.below hb_wc14 (Nat.le_refl _)
            replace hB := hB.trans (hb_wc14.mono hB.size)
            clear hb_wc14
            try simp only [Act.put, List.setIfInBounds_toArray, List.set_cons_zero, List.set_cons_succ]
            refine takeD 5 (some 20) (.tuple #[vP, vC, .int .i64 0]) rfl rfl (by kernel_rfl) (by kernel_rfl) (by kernel_rfl) (fun _ _ _ h => h) (.inl ⟨rfl, fun w' hS => by go_simp⟩) (ks.to hB) ?_
            try simp only [Act.put, List.setIfInBounds_toArray, List.set_cons_zero, List.set_cons_succ]
            refine takeD 6 (some 26) (vP) rfl rfl (by kernel_rfl) (by kernel_rfl) (by kernel_rfl) (fun _ _ _ h => h) (.inl ⟨rfl, fun w' hS => by go_simp⟩) (ks.to hB) ?_
            try simp only [Act.put, List.setIfInBounds_toArray, List.set_cons_zero, List.set_cons_succ]
            refine takeD 7 (some 27) (vC) rfl rfl (by kernel_rfl) (by kernel_rfl) (by kernel_rfl) (fun _ _ _ h => h) (.inl ⟨rfl, fun w' hS => by go_simp⟩) (ks.to hB) ?_
            try simp only [Act.put, List.setIfInBounds_toArray, List.set_cons_zero, List.set_cons_succ]
            refine takeD 8 (some 28) (.int .i64 0) rfl rfl (by kernel_rfl) (by kernel_rfl) (by kernel_rfl) (fun _ _ _ h => h) (.inl ⟨rfl, fun w' hS => by go_simp⟩) (ks.to hB) ?_
            try simp only [Act.put, List.setIfInBounds_toArray, List.set_cons_zero, List.set_cons_succ]
            refine wpAnyH_all (rs := [9]) (by kernel_rfl) (by simp) (fun i hiR => ?_)
            obtain rfl : i = 9 := by simpa using hiR
            refine valD 9 (some 4) rfl rfl rfl (hal _ _ _ rfl) ⟨((ks.to hB).alloc _), ?_⟩
            have kA := Bk.new wc14 #[.slice none 0 0, .int .i64 0, .slice none 0 0, .slice none 0 0] 28
            have hcN := balloc (Below.refl _ wc14) (.cells #[.slice none 0 0, .int .i64 0, .slice none 0 0, .slice none 0 0] 28)
            have hgA : w2.heap.size ≤ wc14.heap.size := hB.size
            have hneAB : wc14.heap.size ≠ wc2.heap.size := (Nat.ne_of_lt kB.lt).symm
            have hnAP := SNo.new hvP (Nat.le_refl _)
            have hnAC := SNo.new hvC (Nat.le_refl _)
            generalize hw_wn15 : wc14.alloc (.cells #[.slice none 0 0, .int .i64 0, .slice none 0 0, .slice none 0 0] 28) = wn15 at *
            replace kB := kB.to hcN
            replace hvX := hvX.to hcN
            replace hF := hF.below hcN (Nat.le_refl _)
            replace hvP := hvP.to hcN
            replace hvC := hvC.to hcN
            replace hB := hB.trans (hcN.mono hB.size)
            clear hcN
            try simp only [Act.put, List.setIfInBounds_toArray, List.set_cons_zero, List.set_cons_succ]
            exact HK (wc14.heap.size, wc2.heap.size, vX, AF, cF, vP, vC) _ ⟨kA, kB, hneAB, hgA, hgB, hvP, hvC, hnAP, hnBP, hnAC, hnBC, hB⟩
          · skip
            refine valD 9 (some 4) rfl rfl rfl (hal _ _ _ rfl) ⟨((ks.to hB).alloc _), ?_⟩
            have kA := Bk.new wn13 #[.slice none 0 0, .int .i64 0, .slice none 0 0, .slice none 0 0] 28
            have hcN := balloc (Below.refl _ wn13) (.cells #[.slice none 0 0, .int .i64 0, .slice none 0 0, .slice none 0 0] 28)
            have hgA : w2.heap.size ≤ wn13.heap.size := hB.size
            have hneAB : wn13.heap.size ≠ wc2.heap.size := (Nat.ne_of_lt kB.lt).symm
            generalize hw_wn16 : wn13.alloc (.cells #[.slice none 0 0, .int .i64 0, .slice none 0 0, .slice none 0 0] 28) = wn16 at *
            replace kB := kB.to hcN
            replace hvX := hvX.to hcN
            replace hF := hF.below hcN (Nat.le_refl _)
            replace hB := hB.trans (hcN.mono hB.size)
            clear hcN
            try simp only [Act.put, List.setIfInBounds_toArray, List.set_cons_zero, List.set_cons_succ]
            refine wpAnyH_all (rs := [4]) (by kernel_rfl) (by simp) (fun i hiR => ?_)
            obtain rfl : i = 4 := by simpa using hiR
            refine callD 4 (some 25) rfl rfl rfl (f := 16) (args := #[vX, .slice AF fr.length cF]) (run_call2 (vx := vX) (vy := .slice AF fr.length cF) (x := .tmp 22) (y := .tmp 24) rfl rfl rfl rfl (hcf3 _ _) _) (HFk.out _ _ _ _ hvX (hL.below (show Below w2.heap.size w2 wn16 from hB)) hF hcF) ?_
            rintro e wc17 ⟨vP, vC, rfl, hvP, hvC, hlP, hlC, hb_wc17⟩
            refine ⟨_, rfl, ((ks.to hB).to hb_wc17), ?_⟩
            have hnBP := SNo.loc hlP kB.lt
            have hnBC := SNo.loc hlC kB.lt
            have hnAP := SNo.loc hlP kA.lt
            have hnAC := SNo.loc hlC kA.lt
            clear hlP hlC
            replace kB := kB.to hb_wc17
            replace kA := kA.to hb_wc17
            replace hvX := hvX.to hb_wc17
            replace hF := hF.below hb_wc17 (Nat.le_refl _)
            replace hB := hB.trans (hb_wc17.mono hB.size)
            clear hb_wc17
            try simp only [Act.put, List.setIfInBounds_toArray, List.set_cons_zero, List.set_cons_succ]
            refine takeD 5 (some 20) (.tuple #[vP, vC, .int .i64 0]) rfl rfl (by kernel_rfl) (by kernel_rfl) (by kernel_rfl) (fun _ _ _ h => h) (.inl ⟨rfl, fun w' hS => by go_simp⟩) (ks.to hB) ?_
            try simp only [Act.put, List.setIfInBounds_toArray, List.set_cons_zero, List.set_cons_succ]
            refine takeD 6 (some 26) (vP) rfl rfl (by kernel_rfl) (by kernel_rfl) (by kernel_rfl) (fun _ _ _ h => h) (.inl ⟨rfl, fun w' hS => by go_simp⟩) (ks.to hB) ?_
            try simp only [Act.put, List.setIfInBounds_toArray, List.set_cons_zero, List.set_cons_succ]
            refine takeD 7 (some 27) (vC) rfl rfl (by kernel_rfl) (by kernel_rfl) (by kernel_rfl) (fun _ _ _ h => h) (.inl ⟨rfl, fun w' hS => by go_simp⟩) (ks.to hB) ?_
            try simp only [Act.put, List.setIfInBounds_toArray, List.set_cons_zero, List.set_cons_succ]
            refine takeD 8 (some 28) (.int .i64 0) rfl rfl (by kernel_rfl) (by kernel_rfl) (by kernel_rfl) (fun _ _ _ h => h) (.inl ⟨rfl, fun w' hS => by go_simp⟩) (ks.to hB) ?_
            try simp only [Act.put, List.setIfInBounds_toArray, List.set_cons_zero, List.set_cons_succ]
            exact HK (wn13.heap.size, wc2.heap.size, vX, AF, cF, vP, vC) _ ⟨kA, kB, hneAB, hgA, hgB, hvP, hvC, hnAP, hnBP, hnAC, hnBC, hB⟩
      · skip
        refine valD 9 (some 4) rfl rfl rfl (hal _ _ _ rfl) ⟨((ks.to hB).alloc _), ?_⟩
        have kA := Bk.new wc1 #[.slice none 0 0, .int .i64 0, .slice none 0 0, .slice none 0 0] 28
        have hcN := balloc (Below.refl _ wc1) (.cells #[.slice none 0 0, .int .i64 0, .slice none 0 0, .slice none 0 0] 28)
        have hgA : w2.heap.size ≤ wc1.heap.size := hB.size
        generalize hw_wn18 : wc1.alloc (.cells #[.slice none 0 0, .int .i64 0, .slice none 0 0, .slice none 0 0] 28) = wn18 at *
        replace hvX := hvX.to hcN
        replace hB := hB.trans (hcN.mono hB.size)
        clear hcN
        try simp only [Act.put, List.setIfInBounds_toArray, List.set_cons_zero, List.set_cons_succ]
        refine wpAnyH_all (rs := [3, 10]) (by kernel_rfl) (by simp) (fun i hiR => ?_)
        simp only [List.mem_cons, List.not_mem_nil, or_false] at hiR
        rcases hiR with rfl | rfl
        · skip
          refine callD 3 (some 24) rfl rfl rfl (f := 27) (args := #[.agg #[.slice AS rs.length cS, .int .i64 10, .slice LS ls.length clS, .slice BS es.length dS], .int .i64 100]) (run_call2 (vx := .agg #[.slice AS rs.length cS, .int .i64 10, .slice LS ls.length clS, .slice BS es.length dS]) (vy := .int .i64 100) (x := .tmp 23) (y := _) rfl rfl rfl rfl (hcf2 _ _) _) (HFr.out _ _ (SpV.to hvS (show Below w2.heap.size w2 wn18 from hB))) ?_
          rintro e wc19 ⟨AF, cF, rfl, hcF, hF, hb_wc19⟩
          refine ⟨_, rfl, ((ks.to hB).to hb_wc19), ?_⟩
          replace kA := kA.to hb_wc19
          replace hvX := hvX.to hb_wc19
          replace hB := hB.trans (hb_wc19.mono hB.size)
          clear hb_wc19
          try simp only [Act.put, List.setIfInBounds_toArray, List.set_cons_zero, List.set_cons_succ]
          refine wpAnyH_all (rs := [4, 10]) (by kernel_rfl) (by simp) (fun i hiR => ?_)
          simp only [List.mem_cons, List.not_mem_nil, or_false] at hiR
          rcases hiR with rfl | rfl
          · skip
            refine callD 4 (some 25) rfl rfl rfl (f := 16) (args := #[vX, .slice AF fr.length cF]) (run_call2 (vx := vX) (vy := .slice AF fr.length cF) (x := .tmp 22) (y := .tmp 24) rfl rfl rfl rfl (hcf3 _ _) _) (HFk.out _ _ _ _ hvX (hL.below (show Below w2.heap.size w2 wc19 from hB)) hF hcF) ?_
            rintro e wc20 ⟨vP, vC, rfl, hvP, hvC, hlP, hlC, hb_wc20⟩
            refine ⟨_, rfl, ((ks.to hB).to hb_wc20), ?_⟩
            have hnAP := SNo.loc hlP kA.lt
            have hnAC := SNo.loc hlC kA.lt
            clear hlP hlC
            replace kA := kA.to hb_wc20
            replace hvX := hvX.to hb_wc20
            replace hF := hF.below hb_wc20 (Nat.le_refl _)
            replace hB := hB.trans (hb_wc20.mono hB.size)
            clear hb_wc20
            try simp only [Act.put, List.setIfInBounds_toArray, List.set_cons_zero, List.set_cons_succ]
            refine takeD 5 (some 20) (.tuple #[vP, vC, .int .i64 0]) rfl rfl (by kernel_rfl) (by kernel_rfl) (by kernel_rfl) (fun _ _ _ h => h) (.inl ⟨rfl, fun w' hS => by go_simp⟩) (ks.to hB) ?_
            try simp only [Act.put, List.setIfInBounds_toArray, List.set_cons_zero, List.set_cons_succ]
            refine takeD 6 (some 26) (vP) rfl rfl (by kernel_rfl) (by kernel_rfl) (by kernel_rfl) (fun _ _ _ h => h) (.inl ⟨rfl, fun w' hS => by go_simp⟩) (ks.to hB) ?_
            try simp only [Act.put, List.setIfInBounds_toArray, List.set_cons_zero, List.set_cons_succ]
            refine takeD 7 (some 27) (vC) rfl rfl (by kernel_rfl) (by kernel_rfl) (by kernel_rfl) (fun _ _ _ h => h) (.inl ⟨rfl, fun w' hS => by go_simp⟩) (ks.to hB) ?_
            try simp only [Act.put, List.setIfInBounds_toArray, List.set_cons_zero, List.set_cons_succ]
            refine takeD 8 (some 28) (.int .i64 0) rfl rfl (by kernel_rfl) (by kernel_rfl) (by kernel_rfl) (fun _ _ _ h => h) (.inl ⟨rfl, fun w' hS => by go_simp⟩) (ks.to hB) ?_
            try simp only [Act.put, List.setIfInBounds_toArray, List.set_cons_zero, List.set_cons_succ]
            refine wpAnyH_all (rs := [10]) (by kernel_rfl) (by simp) (fun i hiR => ?_)
            obtain rfl : i = 10 := by simpa using hiR
            refine valD 10 (some 5) rfl rfl rfl (hal _ _ _ rfl) ⟨((ks.to hB).alloc _), ?_⟩
            have kB := Bk.new wc20 #[.slice none 0 0, .int .i64 0, .slice none 0 0, .slice none 0 0] 28
            have hcN := balloc (Below.refl _ wc20) (.cells #[.slice none 0 0, .int .i64 0, .slice none 0 0, .slice none 0 0] 28)
            have hgB : w2.heap.size ≤ wc20.heap.size := hB.size
            have hneAB : wc1.heap.size ≠ wc20.heap.size := Nat.ne_of_lt kA.lt
            have hnBP := SNo.new hvP (Nat.le_refl _)
            have hnBC := SNo.new hvC (Nat.le_refl _)
            generalize hw_wn21 : wc20.alloc (.cells #[.slice none 0 0, .int .i64 0, .slice none 0 0, .slice none 0 0] 28) = wn21 at *
            replace kA := kA.to hcN
            replace hvX := hvX.to hcN
            replace hF := hF.below hcN (Nat.le_refl _)
            replace hvP := hvP.to hcN
            replace hvC := hvC.to hcN
            replace hB := hB.trans (hcN.mono hB.size)
            clear hcN
            try simp only [Act.put, List.setIfInBounds_toArray, List.set_cons_zero, List.set_cons_succ]
            exact HK (wc1.heap.size, wc20.heap.size, vX, AF, cF, vP, vC) _ ⟨kA, kB, hneAB, hgA, hgB, hvP, hvC, hnAP, hnBP, hnAC, hnBC, hB⟩
          · skip
            refine valD 10 (some 5) rfl rfl rfl (hal _ _ _ rfl) ⟨((ks.to hB).alloc _), ?_⟩
            have kB := Bk.new wc19 #[.slice none 0 0, .int .i64 0, .slice none 0 0, .slice none 0 0] 28
            have hcN := balloc (Below.refl _ wc19) (.cells #[.slice none 0 0, .int .i64 0, .slice none 0 0, .slice none 0 0] 28)
            have hgB : w2.heap.size ≤ wc19.heap.size := hB.size
            have hneAB : wc1.heap.size ≠ wc19.heap.size := Nat.ne_of_lt kA.lt
            generalize hw_wn22 : wc19.alloc (.cells #[.slice none 0 0, .int .i64 0, .slice none 0 0, .slice none 0 0] 28) = wn22 at *
            replace kA := kA.to hcN
            replace hvX := hvX.to hcN
            replace hF := hF.below hcN (Nat.le_refl _)
            replace hB := hB.trans (hcN.mono hB.size)
            clear hcN
            try simp only [Act.put, List.setIfInBounds_toArray, List.set_cons_zero, List.set_cons_succ]
            refine wpAnyH_all (rs := [4]) (by kernel_rfl) (by simp) (fun i hiR => ?_)
            obtain rfl : i = 4 := by simpa using hiR
            refine callD 4 (some 25) rfl rfl rfl (f := 16) (args := #[vX, .slice AF fr.length cF]) (run_call2 (vx := vX) (vy := .slice AF fr.length cF) (x := .tmp 22) (y := .tmp 24) rfl rfl rfl rfl (hcf3 _ _) _) (HFk.out _ _ _ _ hvX (hL.below (show Below w2.heap.size w2 wn22 from hB)) hF hcF) ?_
            rintro e wc23 ⟨vP, vC, rfl, hvP, hvC, hlP, hlC, hb_wc23⟩
            refine ⟨_, rfl, ((ks.to hB).to hb_wc23), ?_⟩
            have hnAP := SNo.loc hlP kA.lt
            have hnAC := SNo.loc hlC kA.lt
            have hnBP := SNo.loc hlP kB.lt
            have hnBC := SNo.loc hlC kB.lt
            clear hlP hlC
            replace kA := kA.to hb_wc23
            replace kB := kB.to hb_wc23
            replace hvX := hvX.to hb_wc23
            replace hF := hF.below hb_wc23 (Nat.le_refl _)
            replace hB := hB.trans (hb_wc23.mono hB.size)
            clear hb_wc23
            try simp only [Act.put, List.setIfInBounds_toArray, List.set_cons_zero, List.set_cons_succ]
            refine takeD 5 (some 20) (.tuple #[vP, vC, .int .i64 0]) rfl rfl (by kernel_rfl) (by kernel_rfl) (by kernel_rfl) (fun _ _ _ h => h) (.inl ⟨rfl, fun w' hS => by go_simp⟩) (ks.to hB) ?_
            try simp only [Act.put, List.setIfInBounds_toArray, List.set_cons_zero, List.set_cons_succ]
            refine takeD 6 (some 26) (vP) rfl rfl (by kernel_rfl) (by kernel_rfl) (by kernel_rfl) (fun _ _ _ h => h) (.inl ⟨rfl, fun w' hS => by go_simp⟩) (ks.to hB) ?_
            try simp only [Act.put, List.setIfInBounds_toArray, List.set_cons_zero, List.set_cons_succ]
            refine takeD 7 (some 27) (vC) rfl rfl (by kernel_rfl) (by kernel_rfl) (by kernel_rfl) (fun _ _ _ h => h) (.inl ⟨rfl, fun w' hS => by go_simp⟩) (ks.to hB) ?_
            try simp only [Act.put, List.setIfInBounds_toArray, List.set_cons_zero, List.set_cons_succ]
            refine takeD 8 (some 28) (.int .i64 0) rfl rfl (by kernel_rfl) (by kernel_rfl) (by kernel_rfl) (fun _ _ _ h => h) (.inl ⟨rfl, fun w' hS => by go_simp⟩) (ks.to hB) ?_
            try simp only [Act.put, List.setIfInBounds_toArray, List.set_cons_zero, List.set_cons_succ]
            exact HK (wc1.heap.size, wc19.heap.size, vX, AF, cF, vP, vC) _ ⟨kA, kB, hneAB, hgA, hgB, hvP, hvC, hnAP, hnBP, hnAC, hnBC, hB⟩
        · skip
          refine valD 10 (some 5) rfl rfl rfl (hal _ _ _ rfl) ⟨((ks.to hB).alloc _), ?_⟩
          have kB := Bk.new wn18 #[.slice none 0 0, .int .i64 0, .slice none 0 0, .slice none 0 0] 28
          have hcN := balloc (Below.refl _ wn18) (.cells #[.slice none 0 0, .int .i64 0, .slice none 0 0, .slice none 0 0] 28)
          have hgB : w2.heap.size ≤ wn18.heap.size := hB.size
          have hneAB : wc1.heap.size ≠ wn18.heap.size := Nat.ne_of_lt kA.lt
          generalize hw_wn24 : wn18.alloc (.cells #[.slice none 0 0, .int .i64 0, .slice none 0 0, .slice none 0 0] 28) = wn24 at *
          replace kA := kA.to hcN
          replace hvX := hvX.to hcN
          replace hB := hB.trans (hcN.mono hB.size)
          clear hcN
          try simp only [Act.put, List.setIfInBounds_toArray, List.set_cons_zero, List.set_cons_succ]
          refine wpAnyH_all (rs := [3]) (by kernel_rfl) (by simp) (fun i hiR => ?_)
          obtain rfl : i = 3 := by simpa using hiR
          refine callD 3 (some 24) rfl rfl rfl (f := 27) (args := #[.agg #[.slice AS rs.length cS, .int .i64 10, .slice LS ls.length clS, .slice BS es.length dS], .int .i64 100]) (run_call2 (vx := .agg #[.slice AS rs.length cS, .int .i64 10, .slice LS ls.length clS, .slice BS es.length dS]) (vy := .int .i64 100) (x := .tmp 23) (y := _) rfl rfl rfl rfl (hcf2 _ _) _) (HFr.out _ _ (SpV.to hvS (show Below w2.heap.size w2 wn24 from hB))) ?_
          rintro e wc25 ⟨AF, cF, rfl, hcF, hF, hb_wc25⟩
          refine ⟨_, rfl, ((ks.to hB).to hb_wc25), ?_⟩
          replace kA := kA.to hb_wc25
          replace kB := kB.to hb_wc25
          replace hvX := hvX.to hb_wc25
          replace hB := hB.trans (hb_wc25.mono hB.size)
          clear hb_wc25
          try simp only [Act.put, List.setIfInBounds_toArray, List.set_cons_zero, List.set_cons_succ]
          refine wpAnyH_all (rs := [4]) (by kernel_rfl) (by simp) (fun i hiR => ?_)
          obtain rfl : i = 4 := by simpa using hiR
          refine callD 4 (some 25) rfl rfl rfl (f := 16) (args := #[vX, .slice AF fr.length cF]) (run_call2 (vx := vX) (vy := .slice AF fr.length cF) (x := .tmp 22) (y := .tmp 24) rfl rfl rfl rfl (hcf3 _ _) _) (HFk.out _ _ _ _ hvX (hL.below (show Below w2.heap.size w2 wc25 from hB)) hF hcF) ?_
          rintro e wc26 ⟨vP, vC, rfl, hvP, hvC, hlP, hlC, hb_wc26⟩
          refine ⟨_, rfl, ((ks.to hB).to hb_wc26), ?_⟩
          have hnAP := SNo.loc hlP kA.lt
          have hnAC := SNo.loc hlC kA.lt
          have hnBP := SNo.loc hlP kB.lt
          have hnBC := SNo.loc hlC kB.lt
          clear hlP hlC
          replace kA := kA.to hb_wc26
          replace kB := kB.to hb_wc26
          replace hvX := hvX.to hb_wc26
          replace hF := hF.below hb_wc26 (Nat.le_refl _)
          replace hB := hB.trans (hb_wc26.mono hB.size)
          clear hb_wc26
          try simp only [Act.put, List.setIfInBounds_toArray, List.set_cons_zero, List.set_cons_succ]
          refine takeD 5 (some 20) (.tuple #[vP, vC, .int .i64 0]) rfl rfl (by kernel_rfl) (by kernel_rfl) (by kernel_rfl) (fun _ _ _ h => h) (.inl ⟨rfl, fun w' hS => by go_simp⟩) (ks.to hB) ?_
          try simp only [Act.put, List.setIfInBounds_toArray, List.set_cons_zero, List.set_cons_succ]
          refine takeD 6 (some 26) (vP) rfl rfl (by kernel_rfl) (by kernel_rfl) (by kernel_rfl) (fun _ _ _ h => h) (.inl ⟨rfl, fun w' hS => by go_simp⟩) (ks.to hB) ?_
          try simp only [Act.put, List.setIfInBounds_toArray, List.set_cons_zero, List.set_cons_succ]
          refine takeD 7 (some 27) (vC) rfl rfl (by kernel_rfl) (by kernel_rfl) (by kernel_rfl) (fun _ _ _ h => h) (.inl ⟨rfl, fun w' hS => by go_simp⟩) (ks.to hB) ?_
          try simp only [Act.put, List.setIfInBounds_toArray, List.set_cons_zero, List.set_cons_succ]
          refine takeD 8 (some 28) (.int .i64 0) rfl rfl (by kernel_rfl) (by kernel_rfl) (by kernel_rfl) (fun _ _ _ h => h) (.inl ⟨rfl, fun w' hS => by go_simp⟩) (ks.to hB) ?_
          try simp only [Act.put, List.setIfInBounds_toArray, List.set_cons_zero, List.set_cons_succ]
          exact HK (wc1.heap.size, wn18.heap.size, vX, AF, cF, vP, vC) _ ⟨kA, kB, hneAB, hgA, hgB, hvP, hvC, hnAP, hnBP, hnAC, hnBC, hB⟩
      · skip
        refine valD 10 (some 5) rfl rfl rfl (hal _ _ _ rfl) ⟨((ks.to hB).alloc _), ?_⟩
        have kB := Bk.new wc1 #[.slice none 0 0, .int .i64 0, .slice none 0 0, .slice none 0 0] 28
        have hcN := balloc (Below.refl _ wc1) (.cells #[.slice none 0 0, .int .i64 0, .slice none 0 0, .slice none 0 0] 28)
        have hgB : w2.heap.size ≤ wc1.heap.size := hB.size
        generalize hw_wn27 : wc1.alloc (.cells #[.slice none 0 0, .int .i64 0, .slice none 0 0, .slice none 0 0] 28) = wn27 at *
        replace hvX := hvX.to hcN
        replace hB := hB.trans (hcN.mono hB.size)
        clear hcN
        try simp only [Act.put, List.setIfInBounds_toArray, List.set_cons_zero, List.set_cons_succ]
        refine wpAnyH_all (rs := [3, 9]) (by kernel_rfl) (by simp) (fun i hiR => ?_)
        simp only [List.mem_cons, List.not_mem_nil, or_false] at hiR
        rcases hiR with rfl | rfl
        · skip
          refine callD 3 (some 24) rfl rfl rfl (f := 27) (args := #[.agg #[.slice AS rs.length cS, .int .i64 10, .slice LS ls.length clS, .slice BS es.length dS], .int .i64 100]) (run_call2 (vx := .agg #[.slice AS rs.length cS, .int .i64 10, .slice LS ls.length clS, .slice BS es.length dS]) (vy := .int .i64 100) (x := .tmp 23) (y := _) rfl rfl rfl rfl (hcf2 _ _) _) (HFr.out _ _ (SpV.to hvS (show Below w2.heap.size w2 wn27 from hB))) ?_
          rintro e wc28 ⟨AF, cF, rfl, hcF, hF, hb_wc28⟩
          refine ⟨_, rfl, ((ks.to hB).to hb_wc28), ?_⟩
          replace kB := kB.to hb_wc28
          replace hvX := hvX.to hb_wc28
          replace hB := hB.trans (hb_wc28.mono hB.size)
          clear hb_wc28
          try simp only [Act.put, List.setIfInBounds_toArray, List.set_cons_zero, List.set_cons_succ]
          refine wpAnyH_all (rs := [4, 9]) (by kernel_rfl) (by simp) (fun i hiR => ?_)
          simp only [List.mem_cons, List.not_mem_nil, or_false] at hiR
          rcases hiR with rfl | rfl
          · skip
            refine callD 4 (some 25) rfl rfl rfl (f := 16) (args := #[vX, .slice AF fr.length cF]) (run_call2 (vx := vX) (vy := .slice AF fr.length cF) (x := .tmp 22) (y := .tmp 24) rfl rfl rfl rfl (hcf3 _ _) _) (HFk.out _ _ _ _ hvX (hL.below (show Below w2.heap.size w2 wc28 from hB)) hF hcF) ?_
            rintro e wc29 ⟨vP, vC, rfl, hvP, hvC, hlP, hlC, hb_wc29⟩
            refine ⟨_, rfl, ((ks.to hB).to hb_wc29), ?_⟩
            have hnBP := SNo.loc hlP kB.lt
            have hnBC := SNo.loc hlC kB.lt
            clear hlP hlC
            replace kB := kB.to hb_wc29
            replace hvX := hvX.to hb_wc29
            replace hF := hF.below hb_wc29 (Nat.le_refl _)
            replace hB := hB.trans (hb_wc29.mono hB.size)
            clear hb_wc29
            try simp only [Act.put, List.setIfInBounds_toArray, List.set_cons_zero, List.set_cons_succ]
            refine takeD 5 (some 20) (.tuple #[vP, vC, .int .i64 0]) rfl rfl (by kernel_rfl) (by kernel_rfl) (by kernel_rfl) (fun _ _ _ h => h) (.inl ⟨rfl, fun w' hS => by go_simp⟩) (ks.to hB) ?_
            try simp only [Act.put, List.setIfInBounds_toArray, List.set_cons_zero, List.set_cons_succ]
            refine takeD 6 (some 26) (vP) rfl rfl (by kernel_rfl) (by kernel_rfl) (by kernel_rfl) (fun _ _ _ h => h) (.inl ⟨rfl, fun w' hS => by go_simp⟩) (ks.to hB) ?_
            try simp only [Act.put, List.setIfInBounds_toArray, List.set_cons_zero, List.set_cons_succ]
            refine takeD 7 (some 27) (vC) rfl rfl (by kernel_rfl) (by kernel_rfl) (by kernel_rfl) (fun _ _ _ h => h) (.inl ⟨rfl, fun w' hS => by go_simp⟩) (ks.to hB) ?_
            try simp only [Act.put, List.setIfInBounds_toArray, List.set_cons_zero, List.set_cons_succ]
            refine takeD 8 (some 28) (.int .i64 0) rfl rfl (by kernel_rfl) (by kernel_rfl) (by kernel_rfl) (fun _ _ _ h => h) (.inl ⟨rfl, fun w' hS => by go_simp⟩) (ks.to hB) ?_
            try simp only [Act.put, List.setIfInBounds_toArray, List.set_cons_zero, List.set_cons_succ]
            refine wpAnyH_all (rs := [9]) (by kernel_rfl) (by simp) (fun i hiR => ?_)
            obtain rfl : i = 9 := by simpa using hiR
            refine valD 9 (some 4) rfl rfl rfl (hal _ _ _ rfl) ⟨((ks.to hB).alloc _), ?_⟩
            have kA := Bk.new wc29 #[.slice none 0 0, .int .i64 0, .slice none 0 0, .slice none 0 0] 28
            have hcN := balloc (Below.refl _ wc29) (.cells #[.slice none 0 0, .int .i64 0, .slice none 0 0, .slice none 0 0] 28)
            have hgA : w2.heap.size ≤ wc29.heap.size := hB.size
            have hneAB : wc29.heap.size ≠ wc1.heap.size := (Nat.ne_of_lt kB.lt).symm
            have hnAP := SNo.new hvP (Nat.le_refl _)
            have hnAC := SNo.new hvC (Nat.le_refl _)
            generalize hw_wn30 : wc29.alloc (.cells #[.slice none 0 0, .int .i64 0, .slice none 0 0, .slice none 0 0] 28) = wn30 at *
            replace kB := kB.to hcN
            replace hvX := hvX.to hcN
            replace hF := hF.below hcN (Nat.le_refl _)
            replace hvP := hvP.to hcN
            replace hvC := hvC.to hcN
            replace hB := hB.trans (hcN.mono hB.size)
            clear hcN
            try simp only [Act.put, List.setIfInBounds_toArray, List.set_cons_zero, List.set_cons_succ]
            exact HK (wc29.heap.size, wc1.heap.size, vX, AF, cF, vP, vC) _ ⟨kA, kB, hneAB, hgA, hgB, hvP, hvC, hnAP, hnBP, hnAC, hnBC, hB⟩
          · skip
            refine valD 9 (some 4) rfl rfl rfl (hal _ _ _ rfl) ⟨((ks.to hB).alloc _), ?_⟩
            have kA := Bk.new wc28 #[.slice none 0 0, .int .i64 0, .slice none 0 0, .slice none 0 0] 28
            have hcN := balloc (Below.refl _ wc28) (.cells #[.slice none 0 0, .int .i64 0, .slice none 0 0, .slice none 0 0] 28)
            have hgA : w2.heap.size ≤ wc28.heap.size := hB.size
            have hneAB : wc28.heap.size ≠ wc1.heap.size := (Nat.ne_of_lt kB.lt).symm
            generalize hw_wn31 : wc28.alloc (.cells #[.slice none 0 0, .int .i64 0, .slice none 0 0, .slice none 0 0] 28) = wn31 at *
            replace kB := kB.to hcN
            replace hvX := hvX.to hcN
            replace hF := hF.below hcN (Nat.le_refl _)
            replace hB := hB.trans (hcN.mono hB.size)
            clear hcN
            try simp only [Act.put, List.setIfInBounds_toArray, List.set_cons_zero, List.set_cons_succ]
            refine wpAnyH_all (rs := [4]) (by kernel_rfl) (by simp) (fun i hiR => ?_)
            obtain rfl : i = 4 := by simpa using hiR
            refine callD 4 (some 25) rfl rfl rfl (f := 16) (args := #[vX, .slice AF fr.length cF]) (run_call2 (vx := vX) (vy := .slice AF fr.length cF) (x := .tmp 22) (y := .tmp 24) rfl rfl rfl rfl (hcf3 _ _) _) (HFk.out _ _ _ _ hvX (hL.below (show Below w2.heap.size w2 wn31 from hB)) hF hcF) ?_
            rintro e wc32 ⟨vP, vC, rfl, hvP, hvC, hlP, hlC, hb_wc32⟩
            refine ⟨_, rfl, ((ks.to hB).to hb_wc32), ?_⟩
            have hnBP := SNo.loc hlP kB.lt
            have hnBC := SNo.loc hlC kB.lt
            have hnAP := SNo.loc hlP kA.lt
            have hnAC := SNo.loc hlC kA.lt
            clear hlP hlC
            replace kB := kB.to hb_wc32
            replace kA := kA.to hb_wc32
            replace hvX := hvX.to hb_wc32
            replace hF := hF.below hb_wc32 (Nat.le_refl _)
            replace hB := hB.trans (hb_wc32.mono hB.size)
            clear hb_wc32
            try simp only [Act.put, List.setIfInBounds_toArray, List.set_cons_zero, List.set_cons_succ]
            refine takeD 5 (some 20) (.tuple #[vP, vC, .int .i64 0]) rfl rfl (by kernel_rfl) (by kernel_rfl) (by kernel_rfl) (fun _ _ _ h => h) (.inl ⟨rfl, fun w' hS => by go_simp⟩) (ks.to hB) ?_
            try simp only [Act.put, List.setIfInBounds_toArray, List.set_cons_zero, List.set_cons_succ]
            refine takeD 6 (some 26) (vP) rfl rfl (by kernel_rfl) (by kernel_rfl) (by kernel_rfl) (fun _ _ _ h => h) (.inl ⟨rfl, fun w' hS => by go_simp⟩) (ks.to hB) ?_
            try simp only [Act.put, List.setIfInBounds_toArray, List.set_cons_zero, List.set_cons_succ]
            refine takeD 7 (some 27) (vC) rfl rfl (by kernel_rfl) (by kernel_rfl) (by kernel_rfl) (fun _ _ _ h => h) (.inl ⟨rfl, fun w' hS => by go_simp⟩) (ks.to hB) ?_
            try simp only [Act.put, List.setIfInBounds_toArray, List.set_cons_zero, List.set_cons_succ]
            refine takeD 8 (some 28) (.int .i64 0) rfl rfl (by kernel_rfl) (by kernel_rfl) (by kernel_rfl) (fun _ _ _ h => h) (.inl ⟨rfl, fun w' hS => by go_simp⟩) (ks.to hB) ?_
            try simp only [Act.put, List.setIfInBounds_toArray, List.set_cons_zero, List.set_cons_succ]
            exact HK (wc28.heap.size, wc1.heap.size, vX, AF, cF, vP, vC) _ ⟨kA, kB, hneAB, hgA, hgB, hvP, hvC, hnAP, hnBP, hnAC, hnBC, hB⟩
        · skip
          refine valD 9 (some 4) rfl rfl rfl (hal _ _ _ rfl) ⟨((ks.to hB).alloc _), ?_⟩
          have kA := Bk.new wn27 #[.slice none 0 0, .int .i64 0, .slice none 0 0, .slice none 0 0] 28
          have hcN := balloc (Below.refl _ wn27) (.cells #[.slice none 0 0, .int .i64 0, .slice none 0 0, .slice none 0 0] 28)
          have hgA : w2.heap.size ≤ wn27.heap.size := hB.size
          have hneAB : wn27.heap.size ≠ wc1.heap.size := (Nat.ne_of_lt kB.lt).symm
          generalize hw_wn33 : wn27.alloc (.cells #[.slice none 0 0, .int .i64 0, .slice none 0 0, .slice none 0 0] 28) = wn33 at *
          replace kB := kB.to hcN
          replace hvX := hvX.to hcN
          replace hB := hB.trans (hcN.mono hB.size)
          clear hcN
          try simp only [Act.put, List.setIfInBounds_toArray, List.set_cons_zero, List.set_cons_succ]
          refine wpAnyH_all (rs := [3]) (by kernel_rfl) (by simp) (fun i hiR => ?_)
          obtain rfl : i = 3 := by simpa using hiR
          refine callD 3 (some 24) rfl rfl rfl (f := 27) (args := #[.agg #[.slice AS rs.length cS, .int .i64 10, .slice LS ls.length clS, .slice BS es.length dS], .int .i64 100]) (run_call2 (vx := .agg #[.slice AS rs.length cS, .int .i64 10, .slice LS ls.length clS, .slice BS es.length dS]) (vy := .int .i64 100) (x := .tmp 23) (y := _) rfl rfl rfl rfl (hcf2 _ _) _) (HFr.out _ _ (SpV.to hvS (show Below w2.heap.size w2 wn33 from hB))) ?_
          rintro e wc34 ⟨AF, cF, rfl, hcF, hF, hb_wc34⟩
          refine ⟨_, rfl, ((ks.to hB).to hb_wc34), ?_⟩
          replace kB := kB.to hb_wc34
          replace kA := kA.to hb_wc34
          replace hvX := hvX.to hb_wc34
          replace hB := hB.trans (hb_wc34.mono hB.size)
          clear hb_wc34
          try simp only [Act.put, List.setIfInBounds_toArray, List.set_cons_zero, List.set_cons_succ]
          refine wpAnyH_all (rs := [4]) (by kernel_rfl) (by simp) (fun i hiR => ?_)
          obtain rfl : i = 4 := by simpa using hiR
          refine callD 4 (some 25) rfl rfl rfl (f := 16) (args := #[vX, .slice AF fr.length cF]) (run_call2 (vx := vX) (vy := .slice AF fr.length cF) (x := .tmp 22) (y := .tmp 24) rfl rfl rfl rfl (hcf3 _ _) _) (HFk.out _ _ _ _ hvX (hL.below (show Below w2.heap.size w2 wc34 from hB)) hF hcF) ?_
          rintro e wc35 ⟨vP, vC, rfl, hvP, hvC, hlP, hlC, hb_wc35⟩
          refine ⟨_, rfl, ((ks.to hB).to hb_wc35), ?_⟩
          have hnBP := SNo.loc hlP kB.lt
          have hnBC := SNo.loc hlC kB.lt
          have hnAP := SNo.loc hlP kA.lt
          have hnAC := SNo.loc hlC kA.lt
          clear hlP hlC
          replace kB := kB.to hb_wc35
          replace kA := kA.to hb_wc35
          replace hvX := hvX.to hb_wc35
          replace hF := hF.below hb_wc35 (Nat.le_refl _)
          replace hB := hB.trans (hb_wc35.mono hB.size)
          clear hb_wc35
          try simp only [Act.put, List.setIfInBounds_toArray, List.set_cons_zero, List.set_cons_succ]
          refine takeD 5 (some 20) (.tuple #[vP, vC, .int .i64 0]) rfl rfl (by kernel_rfl) (by kernel_rfl) (by kernel_rfl) (fun _ _ _ h => h) (.inl ⟨rfl, fun w' hS => by go_simp⟩) (ks.to hB) ?_
          try simp only [Act.put, List.setIfInBounds_toArray, List.set_cons_zero, List.set_cons_succ]
          refine takeD 6 (some 26) (vP) rfl rfl (by kernel_rfl) (by kernel_rfl) (by kernel_rfl) (fun _ _ _ h => h) (.inl ⟨rfl, fun w' hS => by go_simp⟩) (ks.to hB) ?_
          try simp only [Act.put, List.setIfInBounds_toArray, List.set_cons_zero, List.set_cons_succ]
          refine takeD 7 (some 27) (vC) rfl rfl (by kernel_rfl) (by kernel_rfl) (by kernel_rfl) (fun _ _ _ h => h) (.inl ⟨rfl, fun w' hS => by go_simp⟩) (ks.to hB) ?_
          try simp only [Act.put, List.setIfInBounds_toArray, List.set_cons_zero, List.set_cons_succ]
          refine takeD 8 (some 28) (.int .i64 0) rfl rfl (by kernel_rfl) (by kernel_rfl) (by kernel_rfl) (fun _ _ _ h => h) (.inl ⟨rfl, fun w' hS => by go_simp⟩) (ks.to hB) ?_
          try simp only [Act.put, List.setIfInBounds_toArray, List.set_cons_zero, List.set_cons_succ]
          exact HK (wn27.heap.size, wc1.heap.size, vX, AF, cF, vP, vC) _ ⟨kA, kB, hneAB, hgA, hgB, hvP, hvC, hnAP, hnBP, hnAC, hnBC, hB⟩
    · skip
      refine valD 9 (some 4) rfl rfl rfl (hal _ _ _ rfl) ⟨((ks.to hB).alloc _), ?_⟩
      have kA := Bk.new wd #[.slice none 0 0, .int .i64 0, .slice none 0 0, .slice none 0 0] 28
      have hcN := balloc (Below.refl _ wd) (.cells #[.slice none 0 0, .int .i64 0, .slice none 0 0, .slice none 0 0] 28)
      have hgA : w2.heap.size ≤ wd.heap.size := hB.size
      generalize hw_wn36 : wd.alloc (.cells #[.slice none 0 0, .int .i64 0, .slice none 0 0, .slice none 0 0] 28) = wn36 at *
      replace hB := hB.trans (hcN.mono hB.size)
      clear hcN
      try simp only [Act.put, List.setIfInBounds_toArray, List.set_cons_zero, List.set_cons_succ]
      refine wpAnyH_all (rs := [1, 10]) (by kernel_rfl) (by simp) (fun i hiR => ?_)
      simp only [List.mem_cons, List.not_mem_nil, or_false] at hiR
      rcases hiR with rfl | rfl
      · skip
        refine callD 1 (some 22) rfl rfl rfl (f := 12) (args := #[.agg #[.slice AS rs.length cS, .int .i64 10, .slice LS ls.length clS, .slice BS es.length dS]]) (run_call1 (vx := .agg #[.slice AS rs.length cS, .int .i64 10, .slice LS ls.length clS, .slice BS es.length dS]) (x := .tmp 21) rfl rfl rfl (hcf1 _) _) (HOS.out _ _ (SpV.to hvS (show Below w2.heap.size w2 wn36 from hB))) ?_
        rintro e wc37 ⟨vX, rfl, hvX, hb_wc37⟩
        refine ⟨_, rfl, ((ks.to hB).to hb_wc37), ?_⟩
        replace kA := kA.to hb_wc37
        replace hB := hB.trans (hb_wc37.mono hB.size)
        clear hb_wc37
        try simp only [Act.put, List.setIfInBounds_toArray, List.set_cons_zero, List.set_cons_succ]
        refine wpAnyH_all (rs := [3, 10]) (by kernel_rfl) (by simp) (fun i hiR => ?_)
        simp only [List.mem_cons, List.not_mem_nil, or_false] at hiR
        rcases hiR with rfl | rfl
        · skip
          refine callD 3 (some 24) rfl rfl rfl (f := 27) (args := #[.agg #[.slice AS rs.length cS, .int .i64 10, .slice LS ls.length clS, .slice BS es.length dS], .int .i64 100]) (run_call2 (vx := .agg #[.slice AS rs.length cS, .int .i64 10, .slice LS ls.length clS, .slice BS es.length dS]) (vy := .int .i64 100) (x := .tmp 23) (y := _) rfl rfl rfl rfl (hcf2 _ _) _) (HFr.out _ _ (SpV.to hvS (show Below w2.heap.size w2 wc37 from hB))) ?_
          rintro e wc38 ⟨AF, cF, rfl, hcF, hF, hb_wc38⟩
          refine ⟨_, rfl, ((ks.to hB).to hb_wc38), ?_⟩
          replace kA := kA.to hb_wc38
          replace hvX := hvX.to hb_wc38
          replace hB := hB.trans (hb_wc38.mono hB.size)
          clear hb_wc38
          try simp only [Act.put, List.setIfInBounds_toArray, List.set_cons_zero, List.set_cons_succ]
          refine wpAnyH_all (rs := [4, 10]) (by kernel_rfl) (by simp) (fun i hiR => ?_)
          simp only [List.mem_cons, List.not_mem_nil, or_false] at hiR
          rcases hiR with rfl | rfl
          · skip
            refine callD 4 (some 25) rfl rfl rfl (f := 16) (args := #[vX, .slice AF fr.length cF]) (run_call2 (vx := vX) (vy := .slice AF fr.length cF) (x := .tmp 22) (y := .tmp 24) rfl rfl rfl rfl (hcf3 _ _) _) (HFk.out _ _ _ _ hvX (hL.below (show Below w2.heap.size w2 wc38 from hB)) hF hcF) ?_
            rintro e wc39 ⟨vP, vC, rfl, hvP, hvC, hlP, hlC, hb_wc39⟩
            refine ⟨_, rfl, ((ks.to hB).to hb_wc39), ?_⟩
            have hnAP := SNo.loc hlP kA.lt
            have hnAC := SNo.loc hlC kA.lt
            clear hlP hlC
            replace kA := kA.to hb_wc39
            replace hvX := hvX.to hb_wc39
            replace hF := hF.below hb_wc39 (Nat.le_refl _)
            replace hB := hB.trans (hb_wc39.mono hB.size)
            clear hb_wc39
            try simp only [Act.put, List.setIfInBounds_toArray, List.set_cons_zero, List.set_cons_succ]
            refine takeD 5 (some 20) (.tuple #[vP, vC, .int .i64 0]) rfl rfl (by kernel_rfl) (by kernel_rfl) (by kernel_rfl) (fun _ _ _ h => h) (.inl ⟨rfl, fun w' hS => by go_simp⟩) (ks.to hB) ?_
            try simp only [Act.put, List.setIfInBounds_toArray, List.set_cons_zero, List.set_cons_succ]
            refine takeD 6 (some 26) (vP) rfl rfl (by kernel_rfl) (by kernel_rfl) (by kernel_rfl) (fun _ _ _ h => h) (.inl ⟨rfl, fun w' hS => by go_simp⟩) (ks.to hB) ?_
            try simp only [Act.put, List.setIfInBounds_toArray, List.set_cons_zero, List.set_cons_succ]
            refine takeD 7 (some 27) (vC) rfl rfl (by kernel_rfl) (by kernel_rfl) (by kernel_rfl) (fun _ _ _ h => h) (.inl ⟨rfl, fun w' hS => by go_simp⟩) (ks.to hB) ?_
            try simp only [Act.put, List.setIfInBounds_toArray, List.set_cons_zero, List.set_cons_succ]
            refine takeD 8 (some 28) (.int .i64 0) rfl rfl (by kernel_rfl) (by kernel_rfl) (by kernel_rfl) (fun _ _ _ h => h) (.inl ⟨rfl, fun w' hS => by go_simp⟩) (ks.to hB) ?_
            try simp only [Act.put, List.setIfInBounds_toArray, List.set_cons_zero, List.set_cons_succ]
            refine wpAnyH_all (rs := [10]) (by kernel_rfl) (by simp) (fun i hiR => ?_)
            obtain rfl : i = 10 := by simpa using hiR
            refine valD 10 (some 5) rfl rfl rfl (hal _ _ _ rfl) ⟨((ks.to hB).alloc _), ?_⟩
            have kB := Bk.new wc39 #[.slice none 0 0, .int .i64 0, .slice none 0 0, .slice none 0 0] 28
            have hcN := balloc (Below.refl _ wc39) (.cells #[.slice none 0 0, .int .i64 0, .slice none 0 0, .slice none 0 0] 28)
            have hgB : w2.heap.size ≤ wc39.heap.size := hB.size
            have hneAB : wd.heap.size ≠ wc39.heap.size := Nat.ne_of_lt kA.lt
            have hnBP := SNo.new hvP (Nat.le_refl _)
            have hnBC := SNo.new hvC (Nat.le_refl _)
            generalize hw_wn40 : wc39.alloc (.cells #[.slice none 0 0, .int .i64 0, .slice none 0 0, .slice none 0 0] 28) = wn40 at *
            replace kA := kA.to hcN
            replace hvX := hvX.to hcN
            replace hF := hF.below hcN (Nat.le_refl _)
            replace hvP := hvP.to hcN
            replace hvC := hvC.to hcN
            replace hB := hB.trans (hcN.mono hB.size)
            clear hcN
            try simp only [Act.put, List.setIfInBounds_toArray, List.set_cons_zero, List.set_cons_succ]
            exact HK (wd.heap.size, wc39.heap.size, vX, AF, cF, vP, vC) _ ⟨kA, kB, hneAB, hgA, hgB, hvP, hvC, hnAP, hnBP, hnAC, hnBC, hB⟩
          · skip
            refine valD 10 (some 5) rfl rfl rfl (hal _ _ _ rfl) ⟨((ks.to hB).alloc _), ?_⟩
            have kB := Bk.new wc38 #[.slice none 0 0, .int .i64 0, .slice none 0 0, .slice none 0 0] 28
            have hcN := balloc (Below.refl _ wc38) (.cells #[.slice none 0 0, .int .i64 0, .slice none 0 0, .slice none 0 0] 28)
            have hgB : w2.heap.size ≤ wc38.heap.size := hB.size
            have hneAB : wd.heap.size ≠ wc38.heap.size := Nat.ne_of_lt kA.lt
            generalize hw_wn41 : wc38.alloc (.cells #[.slice none 0 0, .int .i64 0, .slice none 0 0, .slice none 0 0] 28) = wn41 at *
            replace kA := kA.to hcN
            replace hvX := hvX.to hcN
            replace hF := hF.below hcN (Nat.le_refl _)
            replace hB := hB.trans (hcN.mono hB.size)
            clear hcN
            try simp only [Act.put, List.setIfInBounds_toArray, List.set_cons_zero, List.set_cons_succ]
            refine wpAnyH_all (rs := [4]) (by kernel_rfl) (by simp) (fun i hiR => ?_)
            obtain rfl : i = 4 := by simpa using hiR
            refine callD 4 (some 25) rfl rfl rfl (f := 16) (args := #[vX, .slice AF fr.length cF]) (run_call2 (vx := vX) (vy := .slice AF fr.length cF) (x := .tmp 22) (y := .tmp 24) rfl rfl rfl rfl (hcf3 _ _) _) (HFk.out _ _ _ _ hvX (hL.below (show Below w2.heap.size w2 wn41 from hB)) hF hcF) ?_
            rintro e wc42 ⟨vP, vC, rfl, hvP, hvC, hlP, hlC, hb_wc42⟩
            refine ⟨_, rfl, ((ks.to hB).to hb_wc42), ?_⟩
            have hnAP := SNo.loc hlP kA.lt
            have hnAC := SNo.loc hlC kA.lt
            have hnBP := SNo.loc hlP kB.lt
            have hnBC := SNo.loc hlC kB.lt
            clear hlP hlC
            replace kA := kA.to hb_wc42
            replace kB := kB.to hb_wc42
            replace hvX := hvX.to hb_wc42
            replace hF := hF.below hb_wc42 (Nat.le_refl _)
            replace hB := hB.trans (hb_wc42.mono hB.size)
            clear hb_wc42
            try simp only [Act.put, List.setIfInBounds_toArray, List.set_cons_zero, List.set_cons_succ]
            refine takeD 5 (some 20) (.tuple #[vP, vC, .int .i64 0]) rfl rfl (by kernel_rfl) (by kernel_rfl) (by kernel_rfl) (fun _ _ _ h => h) (.inl ⟨rfl, fun w' hS => by go_simp⟩) (ks.to hB) ?_
            try simp only [Act.put, List.setIfInBounds_toArray, List.set_cons_zero, List.set_cons_succ]
            refine takeD 6 (some 26) (vP) rfl rfl (by kernel_rfl) (by kernel_rfl) (by kernel_rfl) (fun _ _ _ h => h) (.inl ⟨rfl, fun w' hS => by go_simp⟩) (ks.to hB) ?_
            try simp only [Act.put, List.setIfInBounds_toArray, List.set_cons_zero, List.set_cons_succ]
            refine takeD 7 (some 27) (vC) rfl rfl (by kernel_rfl) (by kernel_rfl) (by kernel_rfl) (fun _ _ _ h => h) (.inl ⟨rfl, fun w' hS => by go_simp⟩) (ks.to hB) ?_
            try simp only [Act.put, List.setIfInBounds_toArray, List.set_cons_zero, List.set_cons_succ]
            refine takeD 8 (some 28) (.int .i64 0) rfl rfl (by kernel_rfl) (by kernel_rfl) (by kernel_rfl) (fun _ _ _ h => h) (.inl ⟨rfl, fun w' hS => by go_simp⟩) (ks.to hB) ?_
            try simp only [Act.put, List.setIfInBounds_toArray, List.set_cons_zero, List.set_cons_succ]
            exact HK (wd.heap.size, wc38.heap.size, vX, AF, cF, vP, vC) _ ⟨kA, kB, hneAB, hgA, hgB, hvP, hvC, hnAP, hnBP, hnAC, hnBC, hB⟩
        · skip
          refine valD 10 (some 5) rfl rfl rfl (hal _ _ _ rfl) ⟨((ks.to hB).alloc _), ?_⟩
          have kB := Bk.new wc37 #[.slice none 0 0, .int .i64 0, .slice none 0 0, .slice none 0 0] 28
          have hcN := balloc (Below.refl _ wc37) (.cells #[.slice none 0 0, .int .i64 0, .slice none 0 0, .slice none 0 0] 28)
          have hgB : w2.heap.size ≤ wc37.heap.size := hB.size
          have hneAB : wd.heap.size ≠ wc37.heap.size := Nat.ne_of_lt kA.lt
          generalize hw_wn43 : wc37.alloc (.cells #[.slice none 0 0, .int .i64 0, .slice none 0 0, .slice none 0 0] 28) = wn43 at *
          replace kA := kA.to hcN
          replace hvX := hvX.to hcN
          replace hB := hB.trans (hcN.mono hB.size)
          clear hcN
          try simp only [Act.put, List.setIfInBounds_toArray, List.set_cons_zero, List.set_cons_succ]
          refine wpAnyH_all (rs := [3]) (by kernel_rfl) (by simp) (fun i hiR => ?_)
          obtain rfl : i = 3 := by simpa using hiR
          refine callD 3 (some 24) rfl rfl rfl (f := 27) (args := #[.agg #[.slice AS rs.length cS, .int .i64 10, .slice LS ls.length clS, .slice BS es.length dS], .int .i64 100]) (run_call2 (vx := .agg #[.slice AS rs.length cS, .int .i64 10, .slice LS ls.length clS, .slice BS es.length dS]) (vy := .int .i64 100) (x := .tmp 23) (y := _) rfl rfl rfl rfl (hcf2 _ _) _) (HFr.out _ _ (SpV.to hvS (show Below w2.heap.size w2 wn43 from hB))) ?_
          rintro e wc44 ⟨AF, cF, rfl, hcF, hF, hb_wc44⟩
          refine ⟨_, rfl, ((ks.to hB).to hb_wc44), ?_⟩
          replace kA := kA.to hb_wc44
          replace kB := kB.to hb_wc44
          replace hvX := hvX.to hb_wc44
          replace hB := hB.trans (hb_wc44.mono hB.size)
          clear hb_wc44
          try simp only [Act.put, List.setIfInBounds_toArray, List.set_cons_zero, List.set_cons_succ]
          refine wpAnyH_all (rs := [4]) (by kernel_rfl) (by simp) (fun i hiR => ?_)
          obtain rfl : i = 4 := by simpa using hiR
          refine callD 4 (some 25) rfl rfl rfl (f := 16) (args := #[vX, .slice AF fr.length cF]) (run_call2 (vx := vX) (vy := .slice AF fr.length cF) (x := .tmp 22) (y := .tmp 24) rfl rfl rfl rfl (hcf3 _ _) _) (HFk.out _ _ _ _ hvX (hL.below (show Below w2.heap.size w2 wc44 from hB)) hF hcF) ?_
          rintro e wc45 ⟨vP, vC, rfl, hvP, hvC, hlP, hlC, hb_wc45⟩
          refine ⟨_, rfl, ((ks.to hB).to hb_wc45), ?_⟩
          have hnAP := SNo.loc hlP kA.lt
          have hnAC := SNo.loc hlC kA.lt
          have hnBP := SNo.loc hlP kB.lt
          have hnBC := SNo.loc hlC kB.lt
          clear hlP hlC
          replace kA := kA.to hb_wc45
          replace kB := kB.to hb_wc45
          replace hvX := hvX.to hb_wc45
          replace hF := hF.below hb_wc45 (Nat.le_refl _)
          replace hB := hB.trans (hb_wc45.mono hB.size)
          clear hb_wc45
          try simp only [Act.put, List.setIfInBounds_toArray, List.set_cons_zero, List.set_cons_succ]
          refine takeD 5 (some 20) (.tuple #[vP, vC, .int .i64 0]) rfl rfl (by kernel_rfl) (by kernel_rfl) (by kernel_rfl) (fun _ _ _ h => h) (.inl ⟨rfl, fun w' hS => by go_simp⟩) (ks.to hB) ?_
          try simp only [Act.put, List.setIfInBounds_toArray, List.set_cons_zero, List.set_cons_succ]
          refine takeD 6 (some 26) (vP) rfl rfl (by kernel_rfl) (by kernel_rfl) (by kernel_rfl) (fun _ _ _ h => h) (.inl ⟨rfl, fun w' hS => by go_simp⟩) (ks.to hB) ?_
          try simp only [Act.put, List.setIfInBounds_toArray, List.set_cons_zero, List.set_cons_succ]
          refine takeD 7 (some 27) (vC) rfl rfl (by kernel_rfl) (by kernel_rfl) (by kernel_rfl) (fun _ _ _ h => h) (.inl ⟨rfl, fun w' hS => by go_simp⟩) (ks.to hB) ?_
          try simp only [Act.put, List.setIfInBounds_toArray, List.set_cons_zero, List.set_cons_succ]
          refine takeD 8 (some 28) (.int .i64 0) rfl rfl (by kernel_rfl) (by kernel_rfl) (by kernel_rfl) (fun _ _ _ h => h) (.inl ⟨rfl, fun w' hS => by go_simp⟩) (ks.to hB) ?_
          try simp only [Act.put, List.setIfInBounds_toArray, List.set_cons_zero, List.set_cons_succ]
          exact HK (wd.heap.size, wc37.heap.size, vX, AF, cF, vP, vC) _ ⟨kA, kB, hneAB, hgA, hgB, hvP, hvC, hnAP, hnBP, hnAC, hnBC, hB⟩
      · skip
        refine valD 10 (some 5) rfl rfl rfl (hal _ _ _ rfl) ⟨((ks.to hB).alloc _), ?_⟩
        have kB := Bk.new wn36 #[.slice none 0 0, .int .i64 0, .slice none 0 0, .slice none 0 0] 28
        have hcN := balloc (Below.refl _ wn36) (.cells #[.slice none 0 0, .int .i64 0, .slice none 0 0, .slice none 0 0] 28)
        have hgB : w2.heap.size ≤ wn36.heap.size := hB.size
        have hneAB : wd.heap.size ≠ wn36.heap.size := Nat.ne_of_lt kA.lt
        generalize hw_wn46 : wn36.alloc (.cells #[.slice none 0 0, .int .i64 0, .slice none 0 0, .slice none 0 0] 28) = wn46 at *
        replace kA := kA.to hcN
        replace hB := hB.trans (hcN.mono hB.size)
        clear hcN
        try simp only [Act.put, List.setIfInBounds_toArray, List.set_cons_zero, List.set_cons_succ]
        refine wpAnyH_all (rs := [1]) (by kernel_rfl) (by simp) (fun i hiR => ?_)
        obtain rfl : i = 1 := by simpa using hiR
        refine callD 1 (some 22) rfl rfl rfl (f := 12) (args := #[.agg #[.slice AS rs.length cS, .int .i64 10, .slice LS ls.length clS, .slice BS es.length dS]]) (run_call1 (vx := .agg #[.slice AS rs.length cS, .int .i64 10, .slice LS ls.length clS, .slice BS es.length dS]) (x := .tmp 21) rfl rfl rfl (hcf1 _) _) (HOS.out _ _ (SpV.to hvS (show Below w2.heap.size w2 wn46 from hB))) ?_
        rintro e wc47 ⟨vX, rfl, hvX, hb_wc47⟩
        refine ⟨_, rfl, ((ks.to hB).to hb_wc47), ?_⟩
        replace kA := kA.to hb_wc47
        replace kB := kB.to hb_wc47
        replace hB := hB.trans (hb_wc47.mono hB.size)
        clear hb_wc47
        try simp only [Act.put, List.setIfInBounds_toArray, List.set_cons_zero, List.set_cons_succ]
        refine wpAnyH_all (rs := [3]) (by kernel_rfl) (by simp) (fun i hiR => ?_)
        obtain rfl : i = 3 := by simpa using hiR
        refine callD 3 (some 24) rfl rfl rfl (f := 27) (args := #[.agg #[.slice AS rs.length cS, .int .i64 10, .slice LS ls.length clS, .slice BS es.length dS], .int .i64 100]) (run_call2 (vx := .agg #[.slice AS rs.length cS, .int .i64 10, .slice LS ls.length clS, .slice BS es.length dS]) (vy := .int .i64 100) (x := .tmp 23) (y := _) rfl rfl rfl rfl (hcf2 _ _) _) (HFr.out _ _ (SpV.to hvS (show Below w2.heap.size w2 wc47 from hB))) ?_
        rintro e wc48 ⟨AF, cF, rfl, hcF, hF, hb_wc48⟩
        refine ⟨_, rfl, ((ks.to hB).to hb_wc48), ?_⟩
        replace kA := kA.to hb_wc48
        replace kB := kB.to hb_wc48
        replace hvX := hvX.to hb_wc48
        replace hB := hB.trans (hb_wc48.mono hB.size)
        clear hb_wc48
        try simp only [Act.put, List.setIfInBounds_toArray, List.set_cons_zero, List.set_cons_succ]
        refine wpAnyH_all (rs := [4]) (by kernel_rfl) (by simp) (fun i hiR => ?_)
        obtain rfl : i = 4 := by simpa using hiR
        refine callD 4 (some 25) rfl rfl rfl (f := 16) (args := #[vX, .slice AF fr.length cF]) (run_call2 (vx := vX) (vy := .slice AF fr.length cF) (x := .tmp 22) (y := .tmp 24) rfl rfl rfl rfl (hcf3 _ _) _) (HFk.out _ _ _ _ hvX (hL.below (show Below w2.heap.size w2 wc48 from hB)) hF hcF) ?_
        rintro e wc49 ⟨vP, vC, rfl, hvP, hvC, hlP, hlC, hb_wc49⟩
        refine ⟨_, rfl, ((ks.to hB).to hb_wc49), ?_⟩
        have hnAP := SNo.loc hlP kA.lt
        have hnAC := SNo.loc hlC kA.lt
        have hnBP := SNo.loc hlP kB.lt
        have hnBC := SNo.loc hlC kB.lt
        clear hlP hlC
        replace kA := kA.to hb_wc49
        replace kB := kB.to hb_wc49
        replace hvX := hvX.to hb_wc49
        replace hF := hF.below hb_wc49 (Nat.le_refl _)
        replace hB := hB.trans (hb_wc49.mono hB.size)
        clear hb_wc49
        try simp only [Act.put, List.setIfInBounds_toArray, List.set_cons_zero, List.set_cons_succ]
        refine takeD 5 (some 20) (.tuple #[vP, vC, .int .i64 0]) rfl rfl (by kernel_rfl) (by kernel_rfl) (by kernel_rfl) (fun _ _ _ h => h) (.inl ⟨rfl, fun w' hS => by go_simp⟩) (ks.to hB) ?_
        try simp only [Act.put, List.setIfInBounds_toArray, List.set_cons_zero, List.set_cons_succ]
        refine takeD 6 (some 26) (vP) rfl rfl (by kernel_rfl) (by kernel_rfl) (by kernel_rfl) (fun _ _ _ h => h) (.inl ⟨rfl, fun w' hS => by go_simp⟩) (ks.to hB) ?_
        try simp only [Act.put, List.setIfInBounds_toArray, List.set_cons_zero, List.set_cons_succ]
        refine takeD 7 (some 27) (vC) rfl rfl (by kernel_rfl) (by kernel_rfl) (by kernel_rfl) (fun _ _ _ h => h) (.inl ⟨rfl, fun w' hS => by go_simp⟩) (ks.to hB) ?_
        try simp only [Act.put, List.setIfInBounds_toArray, List.set_cons_zero, List.set_cons_succ]
        refine takeD 8 (some 28) (.int .i64 0) rfl rfl (by kernel_rfl) (by kernel_rfl) (by kernel_rfl) (fun _ _ _ h => h) (.inl ⟨rfl, fun w' hS => by go_simp⟩) (ks.to hB) ?_
        try simp only [Act.put, List.setIfInBounds_toArray, List.set_cons_zero, List.set_cons_succ]
        exact HK (wd.heap.size, wn36.heap.size, vX, AF, cF, vP, vC) _ ⟨kA, kB, hneAB, hgA, hgB, hvP, hvC, hnAP, hnBP, hnAC, hnBC, hB⟩
    · skip
      refine valD 10 (some 5) rfl rfl rfl (hal _ _ _ rfl) ⟨((ks.to hB).alloc _), ?_⟩
      have kB := Bk.new wd #[.slice none 0 0, .int .i64 0, .slice none 0 0, .slice none 0 0] 28
      have hcN := balloc (Below.refl _ wd) (.cells #[.slice none 0 0, .int .i64 0, .slice none 0 0, .slice none 0 0] 28)
      have hgB : w2.heap.size ≤ wd.heap.size := hB.size
      generalize hw_wn50 : wd.alloc (.cells #[.slice none 0 0, .int .i64 0, .slice none 0 0, .slice none 0 0] 28) = wn50 at *
      replace hB := hB.trans (hcN.mono hB.size)
      clear hcN
      try simp only [Act.put, List.setIfInBounds_toArray, List.set_cons_zero, List.set_cons_succ]
      refine wpAnyH_all (rs := [1, 9]) (by kernel_rfl) (by simp) (fun i hiR => ?_)
      simp only [List.mem_cons, List.not_mem_nil, or_false] at hiR
      rcases hiR with rfl | rfl
      · skip
        refine callD 1 (some 22) rfl rfl rfl (f := 12) (args := #[.agg #[.slice AS rs.length cS, .int .i64 10, .slice LS ls.length clS, .slice BS es.length dS]]) (run_call1 (vx := .agg #[.slice AS rs.length cS, .int .i64 10, .slice LS ls.length clS, .slice BS es.length dS]) (x := .tmp 21) rfl rfl rfl (hcf1 _) _) (HOS.out _ _ (SpV.to hvS (show Below w2.heap.size w2 wn50 from hB))) ?_
        rintro e wc51 ⟨vX, rfl, hvX, hb_wc51⟩
        refine ⟨_, rfl, ((ks.to hB).to hb_wc51), ?_⟩
        replace kB := kB.to hb_wc51
        replace hB := hB.trans (hb_wc51.mono hB.size)
        clear hb_wc51
        try simp only [Act.put, List.setIfInBounds_toArray, List.set_cons_zero, List.set_cons_succ]
        refine wpAnyH_all (rs := [3, 9]) (by kernel_rfl) (by simp) (fun i hiR => ?_)
        simp only [List.mem_cons, List.not_mem_nil, or_false] at hiR
        rcases hiR with rfl | rfl
        · skip
          refine callD 3 (some 24) rfl rfl rfl (f := 27) (args := #[.agg #[.slice AS rs.length cS, .int .i64 10, .slice LS ls.length clS, .slice BS es.length dS], .int .i64 100]) (run_call2 (vx := .agg #[.slice AS rs.length cS, .int .i64 10, .slice LS ls.length clS, .slice BS es.length dS]) (vy := .int .i64 100) (x := .tmp 23) (y := _) rfl rfl rfl rfl (hcf2 _ _) _) (HFr.out _ _ (SpV.to hvS (show Below w2.heap.size w2 wc51 from hB))) ?_
          rintro e wc52 ⟨AF, cF, rfl, hcF, hF, hb_wc52⟩
          refine ⟨_, rfl, ((ks.to hB).to hb_wc52), ?_⟩
          replace kB := kB.to hb_wc52
          replace hvX := hvX.to hb_wc52
          replace hB := hB.trans (hb_wc52.mono hB.size)
          clear hb_wc52
          try simp only [Act.put, List.setIfInBounds_toArray, List.set_cons_zero, List.set_cons_succ]
          refine wpAnyH_all (rs := [4, 9]) (by kernel_rfl) (by simp) (fun i hiR => ?_)
          simp only [List.mem_cons, List.not_mem_nil, or_false] at hiR
          rcases hiR with rfl | rfl
          · skip
            refine callD 4 (some 25) rfl rfl rfl (f := 16) (args := #[vX, .slice AF fr.length cF]) (run_call2 (vx := vX) (vy := .slice AF fr.length cF) (x := .tmp 22) (y := .tmp 24) rfl rfl rfl rfl (hcf3 _ _) _) (HFk.out _ _ _ _ hvX (hL.below (show Below w2.heap.size w2 wc52 from hB)) hF hcF) ?_
            rintro e wc53 ⟨vP, vC, rfl, hvP, hvC, hlP, hlC, hb_wc53⟩
            refine ⟨_, rfl, ((ks.to hB).to hb_wc53), ?_⟩
            have hnBP := SNo.loc hlP kB.lt
            have hnBC := SNo.loc hlC kB.lt
            clear hlP hlC
            replace kB := kB.to hb_wc53
            replace hvX := hvX.to hb_wc53
            replace hF := hF.below hb_wc53 (Nat.le_refl _)
            replace hB := hB.trans (hb_wc53.mono hB.size)
            clear hb_wc53
            try simp only [Act.put, List.setIfInBounds_toArray, List.set_cons_zero, List.set_cons_succ]
            refine takeD 5 (some 20) (.tuple #[vP, vC, .int .i64 0]) rfl rfl (by kernel_rfl) (by kernel_rfl) (by kernel_rfl) (fun _ _ _ h => h) (.inl ⟨rfl, fun w' hS => by go_simp⟩) (ks.to hB) ?_
            try simp only [Act.put, List.setIfInBounds_toArray, List.set_cons_zero, List.set_cons_succ]
            refine takeD 6 (some 26) (vP) rfl rfl (by kernel_rfl) (by kernel_rfl) (by kernel_rfl) (fun _ _ _ h => h) (.inl ⟨rfl, fun w' hS => by go_simp⟩) (ks.to hB) ?_
            try simp only [Act.put, List.setIfInBounds_toArray, List.set_cons_zero, List.set_cons_succ]
            refine takeD 7 (some 27) (vC) rfl rfl (by kernel_rfl) (by kernel_rfl) (by kernel_rfl) (fun _ _ _ h => h) (.inl ⟨rfl, fun w' hS => by go_simp⟩) (ks.to hB) ?_
            try simp only [Act.put, List.setIfInBounds_toArray, List.set_cons_zero, List.set_cons_succ]
            refine takeD 8 (some 28) (.int .i64 0) rfl rfl (by kernel_rfl) (by kernel_rfl) (by kernel_rfl) (fun _ _ _ h => h) (.inl ⟨rfl, fun w' hS => by go_simp⟩) (ks.to hB) ?_
            try simp only [Act.put, List.setIfInBounds_toArray, List.set_cons_zero, List.set_cons_succ]
            refine wpAnyH_all (rs := [9]) (by kernel_rfl) (by simp) (fun i hiR => ?_)
            obtain rfl : i = 9 := by simpa using hiR
            refine valD 9 (some 4) rfl rfl rfl (hal _ _ _ rfl) ⟨((ks.to hB).alloc _), ?_⟩
            have kA := Bk.new wc53 #[.slice none 0 0, .int .i64 0, .slice none 0 0, .slice none 0 0] 28
            have hcN := balloc (Below.refl _ wc53) (.cells #[.slice none 0 0, .int .i64 0, .slice none 0 0, .slice none 0 0] 28)
            have hgA : w2.heap.size ≤ wc53.heap.size := hB.size
            have hneAB : wc53.heap.size ≠ wd.heap.size := (Nat.ne_of_lt kB.lt).symm
            have hnAP := SNo.new hvP (Nat.le_refl _)
            have hnAC := SNo.new hvC (Nat.le_refl _)
            generalize hw_wn54 : wc53.alloc (.cells #[.slice none 0 0, .int .i64 0, .slice none 0 0, .slice none 0 0] 28) = wn54 at *
            replace kB := kB.to hcN
            replace hvX := hvX.to hcN
            replace hF := hF.below hcN (Nat.le_refl _)
            replace hvP := hvP.to hcN
            replace hvC := hvC.to hcN
            replace hB := hB.trans (hcN.mono hB.size)
            clear hcN
            try simp only [Act.put, List.setIfInBounds_toArray, List.set_cons_zero, List.set_cons_succ]
            exact HK (wc53.heap.size, wd.heap.size, vX, AF, cF, vP, vC) _ ⟨kA, kB, hneAB, hgA, hgB, hvP, hvC, hnAP, hnBP, hnAC, hnBC, hB⟩
          · skip
            refine valD 9 (some 4) rfl rfl rfl (hal _ _ _ rfl) ⟨((ks.to hB).alloc _), ?_⟩
            have kA := Bk.new wc52 #[.slice none 0 0, .int .i64 0, .slice none 0 0, .slice none 0 0] 28
            have hcN := balloc (Below.refl _ wc52) (.cells #[.slice none 0 0, .int .i64 0, .slice none 0 0, .slice none 0 0] 28)
            have hgA : w2.heap.size ≤ wc52.heap.size := hB.size
            have hneAB : wc52.heap.size ≠ wd.heap.size := (Nat.ne_of_lt kB.lt).symm
            generalize hw_wn55 : wc52.alloc (.cells #[.slice none 0 0, .int .i64 0, .slice none 0 0, .slice none 0 0] 28) = wn55 at *
            replace kB := kB.to hcN
            replace hvX := hvX.to hcN
            replace hF := hF.below hcN (Nat.le_refl _)
            replace hB := hB.trans (hcN.mono hB.size)
            clear hcN
            try simp only [Act.put, List.setIfInBounds_toArray, List.set_cons_zero, List.set_cons_succ]
            refine wpAnyH_all (rs := [4]) (by kernel_rfl) (by simp) (fun i hiR => ?_)
            obtain rfl : i = 4 := by simpa using hiR
            refine callD 4 (some 25) rfl rfl rfl (f := 16) (args := #[vX, .slice AF fr.length cF]) (run_call2 (vx := vX) (vy := .slice AF fr.length cF) (x := .tmp 22) (y := .tmp 24) rfl rfl rfl rfl (hcf3 _ _) _) (HFk.out _ _ _ _ hvX (hL.below (show Below w2.heap.size w2 wn55 from hB)) hF hcF) ?_
            rintro e wc56 ⟨vP, vC, rfl, hvP, hvC, hlP, hlC, hb_wc56⟩
            refine ⟨_, rfl, ((ks.to hB).to hb_wc56), ?_⟩
            have hnBP := SNo.loc hlP kB.lt
            have hnBC := SNo.loc hlC kB.lt
            have hnAP := SNo.loc hlP kA.lt
            have hnAC := SNo.loc hlC kA.lt
            clear hlP hlC
            replace kB := kB.to hb_wc56
            replace kA := kA.to hb_wc56
            replace hvX := hvX.to hb_wc56
            replace hF := hF.below hb_wc56 (Nat.le_refl _)
            replace hB := hB.trans (hb_wc56.mono hB.size)
            clear hb_wc56
            try simp only [Act.put, List.setIfInBounds_toArray, List.set_cons_zero, List.set_cons_succ]
            refine takeD 5 (some 20) (.tuple #[vP, vC, .int .i64 0]) rfl rfl (by kernel_rfl) (by kernel_rfl) (by kernel_rfl) (fun _ _ _ h => h) (.inl ⟨rfl, fun w' hS => by go_simp⟩) (ks.to hB) ?_
            try simp only [Act.put, List.setIfInBounds_toArray, List.set_cons_zero, List.set_cons_succ]
            refine takeD 6 (some 26) (vP) rfl rfl (by kernel_rfl) (by kernel_rfl) (by kernel_rfl) (fun _ _ _ h => h) (.inl ⟨rfl, fun w' hS => by go_simp⟩) (ks.to hB) ?_
            try simp only [Act.put, List.setIfInBounds_toArray, List.set_cons_zero, List.set_cons_succ]
            refine takeD 7 (some 27) (vC) rfl rfl (by kernel_rfl) (by kernel_rfl) (by kernel_rfl) (fun _ _ _ h => h) (.inl ⟨rfl, fun w' hS => by go_simp⟩) (ks.to hB) ?_
            try simp only [Act.put, List.setIfInBounds_toArray, List.set_cons_zero, List.set_cons_succ]
            refine takeD 8 (some 28) (.int .i64 0) rfl rfl (by kernel_rfl) (by kernel_rfl) (by kernel_rfl) (fun _ _ _ h => h) (.inl ⟨rfl, fun w' hS => by go_simp⟩) (ks.to hB) ?_
            try simp only [Act.put, List.setIfInBounds_toArray, List.set_cons_zero, List.set_cons_succ]
            exact HK (wc52.heap.size, wd.heap.size, vX, AF, cF, vP, vC) _ ⟨kA, kB, hneAB, hgA, hgB, hvP, hvC, hnAP, hnBP, hnAC, hnBC, hB⟩
        · skip
          refine valD 9 (some 4) rfl rfl rfl (hal _ _ _ rfl) ⟨((ks.to hB).alloc _), ?_⟩
          have kA := Bk.new wc51 #[.slice none 0 0, .int .i64 0, .slice none 0 0, .slice none 0 0] 28
          have hcN := balloc (Below.refl _ wc51) (.cells #[.slice none 0 0, .int .i64 0, .slice none 0 0, .slice none 0 0] 28)
          have hgA : w2.heap.size ≤ wc51.heap.size := hB.size
          have hneAB : wc51.heap.size ≠ wd.heap.size := (Nat.ne_of_lt kB.lt).symm
          generalize hw_wn57 : wc51.alloc (.cells #[.slice none 0 0, .int .i64 0, .slice none 0 0, .slice none 0 0] 28) = wn57 at *
          replace kB := kB.to hcN
          replace hvX := hvX.to hcN
          replace hB := hB.trans (hcN.mono hB.size)
          clear hcN
          try simp only [Act.put, List.setIfInBounds_toArray, List.set_cons_zero, List.set_cons_succ]
          refine wpAnyH_all (rs := [3]) (by kernel_rfl) (by simp) (fun i hiR => ?_)
          obtain rfl : i = 3 := by simpa using hiR
          refine callD 3 (some 24) rfl rfl rfl (f := 27) (args := #[.agg #[.slice AS rs.length cS, .int .i64 10, .slice LS ls.length clS, .slice BS es.length dS], .int .i64 100]) (run_call2 (vx := .agg #[.slice AS rs.length cS, .int .i64 10, .slice LS ls.length clS, .slice BS es.length dS]) (vy := .int .i64 100) (x := .tmp 23) (y := _) rfl rfl rfl rfl (hcf2 _ _) _) (HFr.out _ _ (SpV.to hvS (show Below w2.heap.size w2 wn57 from hB))) ?_
          rintro e wc58 ⟨AF, cF, rfl, hcF, hF, hb_wc58⟩
          refine ⟨_, rfl, ((ks.to hB).to hb_wc58), ?_⟩
          replace kB := kB.to hb_wc58
          replace kA := kA.to hb_wc58
          replace hvX := hvX.to hb_wc58
          replace hB := hB.trans (hb_wc58.mono hB.size)
          clear hb_wc58
          try simp only [Act.put, List.setIfInBounds_toArray, List.set_cons_zero, List.set_cons_succ]
          refine wpAnyH_all (rs := [4]) (by kernel_rfl) (by simp) (fun i hiR => ?_)
          obtain rfl : i = 4 := by simpa using hiR
          refine callD 4 (some 25) rfl rfl rfl (f := 16) (args := #[vX, .slice AF fr.length cF]) (run_call2 (vx := vX) (vy := .slice AF fr.length cF) (x := .tmp 22) (y := .tmp 24) rfl rfl rfl rfl (hcf3 _ _) _) (HFk.out _ _ _ _ hvX (hL.below (show Below w2.heap.size w2 wc58 from hB)) hF hcF) ?_
          rintro e wc59 ⟨vP, vC, rfl, hvP, hvC, hlP, hlC, hb_wc59⟩
          refine ⟨_, rfl, ((ks.to hB).to hb_wc59), ?_⟩
          have hnBP := SNo.loc hlP kB.lt
          have hnBC := SNo.loc hlC kB.lt
          have hnAP := SNo.loc hlP kA.lt
          have hnAC := SNo.loc hlC kA.lt
          clear hlP hlC
          replace kB := kB.to hb_wc59
          replace kA := kA.to hb_wc59
          replace hvX := hvX.to hb_wc59
          replace hF := hF.below hb_wc59 (Nat.le_refl _)
          replace hB := hB.trans (hb_wc59.mono hB.size)
          clear hb_wc59
          try simp only [Act.put, List.setIfInBounds_toArray, List.set_cons_zero, List.set_cons_succ]
          refine takeD 5 (some 20) (.tuple #[vP, vC, .int .i64 0]) rfl rfl (by kernel_rfl) (by kernel_rfl) (by kernel_rfl) (fun _ _ _ h => h) (.inl ⟨rfl, fun w' hS => by go_simp⟩) (ks.to hB) ?_
          try simp only [Act.put, List.setIfInBounds_toArray, List.set_cons_zero, List.set_cons_succ]
          refine takeD 6 (some 26) (vP) rfl rfl (by kernel_rfl) (by kernel_rfl) (by kernel_rfl) (fun _ _ _ h => h) (.inl ⟨rfl, fun w' hS => by go_simp⟩) (ks.to hB) ?_
          try simp only [Act.put, List.setIfInBounds_toArray, List.set_cons_zero, List.set_cons_succ]
          refine takeD 7 (some 27) (vC) rfl rfl (by kernel_rfl) (by kernel_rfl) (by kernel_rfl) (fun _ _ _ h => h) (.inl ⟨rfl, fun w' hS => by go_simp⟩) (ks.to hB) ?_
          try simp only [Act.put, List.setIfInBounds_toArray, List.set_cons_zero, List.set_cons_succ]
          refine takeD 8 (some 28) (.int .i64 0) rfl rfl (by kernel_rfl) (by kernel_rfl) (by kernel_rfl) (fun _ _ _ h => h) (.inl ⟨rfl, fun w' hS => by go_simp⟩) (ks.to hB) ?_
          try simp only [Act.put, List.setIfInBounds_toArray, List.set_cons_zero, List.set_cons_succ]
          exact HK (wc51.heap.size, wd.heap.size, vX, AF, cF, vP, vC) _ ⟨kA, kB, hneAB, hgA, hgB, hvP, hvC, hnAP, hnBP, hnAC, hnBC, hB⟩
      · skip
        refine valD 9 (some 4) rfl rfl rfl (hal _ _ _ rfl) ⟨((ks.to hB).alloc _), ?_⟩
        have kA := Bk.new wn50 #[.slice none 0 0, .int .i64 0, .slice none 0 0, .slice none 0 0] 28
        have hcN := balloc (Below.refl _ wn50) (.cells #[.slice none 0 0, .int .i64 0, .slice none 0 0, .slice none 0 0] 28)
        have hgA : w2.heap.size ≤ wn50.heap.size := hB.size
        have hneAB : wn50.heap.size ≠ wd.heap.size := (Nat.ne_of_lt kB.lt).symm
        generalize hw_wn60 : wn50.alloc (.cells #[.slice none 0 0, .int .i64 0, .slice none 0 0, .slice none 0 0] 28) = wn60 at *
        replace kB := kB.to hcN
        replace hB := hB.trans (hcN.mono hB.size)
        clear hcN
        try simp only [Act.put, List.setIfInBounds_toArray, List.set_cons_zero, List.set_cons_succ]
        refine wpAnyH_all (rs := [1]) (by kernel_rfl) (by simp) (fun i hiR => ?_)
        obtain rfl : i = 1 := by simpa using hiR
        refine callD 1 (some 22) rfl rfl rfl (f := 12) (args := #[.agg #[.slice AS rs.length cS, .int .i64 10, .slice LS ls.length clS, .slice BS es.length dS]]) (run_call1 (vx := .agg #[.slice AS rs.length cS, .int .i64 10, .slice LS ls.length clS, .slice BS es.length dS]) (x := .tmp 21) rfl rfl rfl (hcf1 _) _) (HOS.out _ _ (SpV.to hvS (show Below w2.heap.size w2 wn60 from hB))) ?_
        rintro e wc61 ⟨vX, rfl, hvX, hb_wc61⟩
        refine ⟨_, rfl, ((ks.to hB).to hb_wc61), ?_⟩
        replace kB := kB.to hb_wc61
        replace kA := kA.to hb_wc61
        replace hB := hB.trans (hb_wc61.mono hB.size)
        clear hb_wc61
        try simp only [Act.put, List.setIfInBounds_toArray, List.set_cons_zero, List.set_cons_succ]
        refine wpAnyH_all (rs := [3]) (by kernel_rfl) (by simp) (fun i hiR => ?_)
        obtain rfl : i = 3 := by simpa using hiR
        refine callD 3 (some 24) rfl rfl rfl (f := 27) (args := #[.agg #[.slice AS rs.length cS, .int .i64 10, .slice LS ls.length clS, .slice BS es.length dS], .int .i64 100]) (run_call2 (vx := .agg #[.slice AS rs.length cS, .int .i64 10, .slice LS ls.length clS, .slice BS es.length dS]) (vy := .int .i64 100) (x := .tmp 23) (y := _) rfl rfl rfl rfl (hcf2 _ _) _) (HFr.out _ _ (SpV.to hvS (show Below w2.heap.size w2 wc61 from hB))) ?_
        rintro e wc62 ⟨AF, cF, rfl, hcF, hF, hb_wc62⟩
        refine ⟨_, rfl, ((ks.to hB).to hb_wc62), ?_⟩
        replace kB := kB.to hb_wc62
        replace kA := kA.to hb_wc62
        replace hvX := hvX.to hb_wc62
        replace hB := hB.trans (hb_wc62.mono hB.size)
        clear hb_wc62
        try simp only [Act.put, List.setIfInBounds_toArray, List.set_cons_zero, List.set_cons_succ]
        refine wpAnyH_all (rs := [4]) (by kernel_rfl) (by simp) (fun i hiR => ?_)
        obtain rfl : i = 4 := by simpa using hiR
        refine callD 4 (some 25) rfl rfl rfl (f := 16) (args := #[vX, .slice AF fr.length cF]) (run_call2 (vx := vX) (vy := .slice AF fr.length cF) (x := .tmp 22) (y := .tmp 24) rfl rfl rfl rfl (hcf3 _ _) _) (HFk.out _ _ _ _ hvX (hL.below (show Below w2.heap.size w2 wc62 from hB)) hF hcF) ?_
        rintro e wc63 ⟨vP, vC, rfl, hvP, hvC, hlP, hlC, hb_wc63⟩
        refine ⟨_, rfl, ((ks.to hB).to hb_wc63), ?_⟩
        have hnBP := SNo.loc hlP kB.lt
        have hnBC := SNo.loc hlC kB.lt
        have hnAP := SNo.loc hlP kA.lt
        have hnAC := SNo.loc hlC kA.lt
        clear hlP hlC
        replace kB := kB.to hb_wc63
        replace kA := kA.to hb_wc63
        replace hvX := hvX.to hb_wc63
        replace hF := hF.below hb_wc63 (Nat.le_refl _)
        replace hB := hB.trans (hb_wc63.mono hB.size)
        clear hb_wc63
        try simp only [Act.put, List.setIfInBounds_toArray, List.set_cons_zero, List.set_cons_succ]
        refine takeD 5 (some 20) (.tuple #[vP, vC, .int .i64 0]) rfl rfl (by kernel_rfl) (by kernel_rfl) (by kernel_rfl) (fun _ _ _ h => h) (.inl ⟨rfl, fun w' hS => by go_simp⟩) (ks.to hB) ?_
        try simp only [Act.put, List.setIfInBounds_toArray, List.set_cons_zero, List.set_cons_succ]
        refine takeD 6 (some 26) (vP) rfl rfl (by kernel_rfl) (by kernel_rfl) (by kernel_rfl) (fun _ _ _ h => h) (.inl ⟨rfl, fun w' hS => by go_simp⟩) (ks.to hB) ?_
        try simp only [Act.put, List.setIfInBounds_toArray, List.set_cons_zero, List.set_cons_succ]
        refine takeD 7 (some 27) (vC) rfl rfl (by kernel_rfl) (by kernel_rfl) (by kernel_rfl) (fun _ _ _ h => h) (.inl ⟨rfl, fun w' hS => by go_simp⟩) (ks.to hB) ?_
        try simp only [Act.put, List.setIfInBounds_toArray, List.set_cons_zero, List.set_cons_succ]
        refine takeD 8 (some 28) (.int .i64 0) rfl rfl (by kernel_rfl) (by kernel_rfl) (by kernel_rfl) (fun _ _ _ h => h) (.inl ⟨rfl, fun w' hS => by go_simp⟩) (ks.to hB) ?_
        try simp only [Act.put, List.setIfInBounds_toArray, List.set_cons_zero, List.set_cons_succ]
        exact HK (wn50.heap.size, wd.heap.size, vX, AF, cF, vP, vC) _ ⟨kA, kB, hneAB, hgA, hgB, hvP, hvC, hnAP, hnBP, hnAC, hnBC, hB⟩
  clear hcf2 hcf3 hal hcf1
  rintro ⟨gA, gB, vX, AF, cF, vP, vC⟩ W ⟨kA, kB, hneAB, hgA, hgB, hvP, hvC, hnAP, hnBP, hnAC, hnBC, hB⟩
  simp only at kA kB hneAB hgA hgB hvP hvC hnAP hnBP hnAC hnBC
  obtain ⟨AA, cA, LA, clA, BA, dA, rfl⟩ := hvP.cells
  obtain ⟨AB, cB, LB, clB, BB, dB, rfl⟩ := hvC.cells
  simp only at hvP hvC hnAP hnBP hnAC hnBC ⊢
  simp only [Act.put, List.setIfInBounds_toArray, List.set_cons_zero, List.set_cons_succ]
  have k9_ks := ks.to hB
  refine wpAnyH_all (rs := [11]) (by kernel_rfl) (by simp) (fun i hiR => ?_)
  obtain rfl : i = 11 := by simpa using hiR
  have kN := kA.row #[.slice AA rsP.length cA, .int .i64 rP, .slice LA lsP.length clA, .slice BA esP.length dA]
  have kO := kB.rowfar hneAB.symm #[.slice AA rsP.length cA, .int .i64 rP, .slice LA lsP.length clA, .slice BA esP.length dA]
  have hBn := below_row hB hgA #[.slice AA rsP.length cA, .int .i64 rP, .slice LA lsP.length clA, .slice BA esP.length dA]
  have nP := hvP.rowfar hnAP #[.slice AA rsP.length cA, .int .i64 rP, .slice LA lsP.length clA, .slice BA esP.length dA]
  have nC := hvC.rowfar hnAC #[.slice AA rsP.length cA, .int .i64 rP, .slice LA lsP.length clA, .slice BA esP.length dA]
  have n9_ks := k9_ks.rowfar (show w1.heap.size ≠ gA by omega) #[.slice AA rsP.length cA, .int .i64 rP, .slice LA lsP.length clA, .slice BA esP.length dA]
  refine storeD 11 rfl rfl rfl 28 _ _ rfl gA #[.slice AA rsP.length cA, .int .i64 rP, .slice LA lsP.length clA, .slice BA esP.length dA] rfl rfl 28 _ kA (by kernel_rfl) rfl (all_oneCell_toArray (fun v hv => by simp at hv; rcases hv with rfl | rfl | rfl | rfl <;> rfl)) ⟨(n9_ks), ?_⟩
  generalize World.setRow W gA #[.slice AA rsP.length cA, .int .i64 rP, .slice LA lsP.length clA, .slice BA esP.length dA] = wz64 at *
  replace kA := kN
  replace kB := kO
  replace hB := hBn
  replace hvP := nP
  replace hvC := nC
  replace k9_ks := n9_ks
  clear kN kO hBn nP nC n9_ks
  try simp only [Act.put, List.setIfInBounds_toArray, List.set_cons_zero, List.set_cons_succ]
  refine wpAnyH_all (rs := [12]) (by kernel_rfl) (by simp) (fun i hiR => ?_)
  obtain rfl : i = 12 := by simpa using hiR
  have kN := kB.row #[.slice AB rsC.length cB, .int .i64 rC, .slice LB lsC.length clB, .slice BB esC.length dB]
  have kO := kA.rowfar hneAB #[.slice AB rsC.length cB, .int .i64 rC, .slice LB lsC.length clB, .slice BB esC.length dB]
  have hBn := below_row hB hgB #[.slice AB rsC.length cB, .int .i64 rC, .slice LB lsC.length clB, .slice BB esC.length dB]
  have nP := hvP.rowfar hnBP #[.slice AB rsC.length cB, .int .i64 rC, .slice LB lsC.length clB, .slice BB esC.length dB]
  have nC := hvC.rowfar hnBC #[.slice AB rsC.length cB, .int .i64 rC, .slice LB lsC.length clB, .slice BB esC.length dB]
  have n9_ks := k9_ks.rowfar (show w1.heap.size ≠ gB by omega) #[.slice AB rsC.length cB, .int .i64 rC, .slice LB lsC.length clB, .slice BB esC.length dB]
  refine storeD 12 rfl rfl rfl 28 _ _ rfl gB #[.slice AB rsC.length cB, .int .i64 rC, .slice LB lsC.length clB, .slice BB esC.length dB] rfl rfl 28 _ kB (by kernel_rfl) rfl (all_oneCell_toArray (fun v hv => by simp at hv; rcases hv with rfl | rfl | rfl | rfl <;> rfl)) ⟨(n9_ks), ?_⟩
  generalize World.setRow wz64 gB #[.slice AB rsC.length cB, .int .i64 rC, .slice LB lsC.length clB, .slice BB esC.length dB] = wz65 at *
  replace kB := kN
  replace kA := kO
  replace hB := hBn
  replace hvP := nP
  replace hvC := nC
  replace k9_ks := n9_ks
  clear kN kO hBn nP nC n9_ks
  try simp only [Act.put, List.setIfInBounds_toArray, List.set_cons_zero, List.set_cons_succ]
  refine takeD 13 (some 6) (.int .i64 0) rfl rfl (by kernel_rfl) (by kernel_rfl) (by kernel_rfl) (fun _ _ _ h => h) (.inl ⟨rfl, fun w' hS => by go_simp⟩) (k9_ks) ?_
  try simp only [Act.put, List.setIfInBounds_toArray, List.set_cons_zero, List.set_cons_succ]
  clear k9_ks l9_ks hnAP hnBP hnAC hnBC hd hneAB hgA hgB hiR
  refine wpAnyH_done (by kernel_rfl) ?_ _
  replace hvS := hvS.to hB
  replace ks := ks.to hB
  replace hL := hL.below hB
  replace hB0 := bnext hB0 hB
  clear hB
  have hvA := hvP
  have hvB := hvC
  have kx1 := kA
  have kx2 := kB
  clear hvP hvC kA kB
  clear HOS HFr HFk hu hw_d
  try go_frame
  obtain ⟨c_ks, f_ks, l_ks⟩ := ks.facts
  obtain ⟨c_kx1, f_kx1, l_kx1⟩ := kx1.facts
  obtain ⟨c_kx2, f_kx2, l_kx2⟩ := kx2.facts
  go_wp2_with fail
  clear c_ks f_ks l_ks
  clear c_kx1 f_kx1 l_kx1
  clear c_kx2 f_kx2 l_kx2
  refine (HCP.out _ _ hvA).mono ?_
  rintro e w3 ⟨rfl, hb3⟩
  replace hvS := hvS.to hb3
  replace hvA := hvA.to hb3
  replace hvB := hvB.to hb3
  replace ks := ks.to hb3
  replace kx1 := kx1.to hb3
  replace kx2 := kx2.to hb3
  replace hL := hL.below hb3
  replace hB0 := bnext hB0 hb3
  clear hb3
  obtain ⟨c_ks, f_ks, l_ks⟩ := ks.facts
  obtain ⟨c_kx1, f_kx1, l_kx1⟩ := kx1.facts
  obtain ⟨c_kx2, f_kx2, l_kx2⟩ := kx2.facts
  go_wp2_with fail
  clear c_ks f_ks l_ks
  clear c_kx1 f_kx1 l_kx1
  clear c_kx2 f_kx2 l_kx2
  refine (HCC.out _ _ hvB).mono ?_
  rintro e w4 ⟨rfl, hb4⟩
  replace hvS := hvS.to hb4
  replace hvA := hvA.to hb4
  replace hvB := hvB.to hb4
  replace ks := ks.to hb4
  replace kx1 := kx1.to hb4
  replace kx2 := kx2.to hb4
  replace hL := hL.below hb4
  replace hB0 := bnext hB0 hb4
  clear hb4
  clear HCP HCC
  obtain ⟨c_ks, f_ks, l_ks⟩ := ks.facts
  obtain ⟨c_kx1, f_kx1, l_kx1⟩ := kx1.facts
  obtain ⟨c_kx2, f_kx2, l_kx2⟩ := kx2.facts
  go_upto_region 5 with fail
  clear c_ks f_ks l_ks
  clear c_kx1 f_kx1 l_kx1
  clear c_kx2 f_kx2 l_kx2
  have hB := below_drew (Below.refl w4.heap.size w4)
  have hu : (Tryd.prog.underlying 28).map (·.isRow) = some true := by kernel_rfl
  obtain ⟨dd, hu, hd⟩ := Option.map_eq_some_iff.1 hu
  have hal : ∀ (W : World) (ev : Operand → Value) (o : Oper), o.op = Op.alloc 28 → (execOp ev o).run Tryd.prog W = .ok (.value (.pointer (some ⟨W.heap.size, 0, none⟩))) (W.alloc (.cells #[.slice none 0 0, .int .i64 0, .slice none 0 0, .slice none 0 0] 28)) := fun W ev o ho => by unfold execOp; simp [ho, go_sem]
  have hcf2 : ∀ (x y : Value) (W : World), (callFunc 27 #[x, y]).run Tryd.prog W = .ok (.enter 27 #[x, y]) W := fun x y W => by go_simp
  have hcf3 : ∀ (x y : Value) (W : World), (callFunc 16 #[x, y]).run Tryd.prog W = .ok (.enter 16 #[x, y]) W := fun x y W => by go_simp
  have l9_kx2 := kx2.lt
  have l9_ks := ks.lt
  refine wp_region_held_drew (S := fun w' => Bk w' gB #[.slice AB rsC.length cB, .int .i64 rC, .slice LB lsC.length clB, .slice BB esC.length dB] 28 ∧ Bk w' w1.heap.size #[.slice AS rs.length cS, .int .i64 10, .slice LS ls.length clS, .slice BS es.length dS] 28) (by kernel_rfl) ⟨kx2.drew, ks.drew⟩ (fun _ => ?_)
  refine takeD 0 (some 42) (.agg #[.slice AB rsC.length cB, .int .i64 rC, .slice LB lsC.length clB, .slice BB esC.length dB]) rfl rfl (by kernel_rfl) (by kernel_rfl) (by kernel_rfl) (fun _ _ _ h => h) (yieldsIf_load_mid (by rfl) 28 _ rfl gB 0 rfl [.slice AB rsC.length cB, .int .i64 rC, .slice LB lsC.length clB, .slice BB esC.length dB] dd (fun w' e => e.1.range) hu hd (by kernel_rfl)) ⟨kx2.drew, ks.drew⟩ ?_
  try simp only [Act.put, List.setIfInBounds_toArray, List.set_cons_zero, List.set_cons_succ]
  refine takeD 1 (some 43) (.agg #[.slice AS rs.length cS, .int .i64 10, .slice LS ls.length clS, .slice BS es.length dS]) rfl rfl (by kernel_rfl) (by kernel_rfl) (by kernel_rfl) (fun _ _ _ h => h) (yieldsIf_load_mid (by rfl) 28 _ rfl w1.heap.size 0 rfl [.slice AS rs.length cS, .int .i64 10, .slice LS ls.length clS, .slice BS es.length dS] dd (fun w' e => e.2.range) hu hd (by kernel_rfl)) ⟨kx2.drew, ks.drew⟩ ?_
  try simp only [Act.put, List.setIfInBounds_toArray, List.set_cons_zero, List.set_cons_succ]
  generalize hw_d : w4.drew = wd at *
  refine shareD (X := Nat × Nat × Value × Option Addr × Nat × Value × Value) (fun x W => Bk W x.1 #[.slice none 0 0, .int .i64 0, .slice none 0 0, .slice none 0 0] 28 ∧ Bk W x.2.1 #[.slice none 0 0, .int .i64 0, .slice none 0 0, .slice none 0 0] 28 ∧ x.1 ≠ x.2.1 ∧ w4.heap.size ≤ x.1 ∧ w4.heap.size ≤ x.2.1 ∧ SpV W x.2.2.2.2.2.1 (rsQ, rQ, lsQ, esQ) ∧ SpV W x.2.2.2.2.2.2 (rsD, rD, lsD, esD) ∧ SNo x.1 x.2.2.2.2.2.1 ∧ SNo x.2.1 x.2.2.2.2.2.1 ∧ SNo x.1 x.2.2.2.2.2.2 ∧ SNo x.2.1 x.2.2.2.2.2.2 ∧ Below w4.heap.size w4 W) 3 #[true, true, true, true, true, true, true, true, true, true, false, false, false] (fun a x => ((((((((a.put (some 44) (.slice x.2.2.2.1 fr2.length x.2.2.2.2.1)).put (some 45) (.tuple #[x.2.2.2.2.2.1, x.2.2.2.2.2.2, .int .i64 0])).put (some 41) (.tuple #[x.2.2.2.2.2.1, x.2.2.2.2.2.2, .int .i64 0])).put (some 46) x.2.2.2.2.2.1).put (some 47) x.2.2.2.2.2.2).put (some 48) (.int .i64 0)).put (some 7) (.pointer (some ⟨x.1, 0, none⟩))).put (some 8) (.pointer (some ⟨x.2.1, 0, none⟩)))) ?_ ?_
  · intro HK
    simp only [Act.put, List.setIfInBounds_toArray, List.set_cons_zero, List.set_cons_succ] at HK
    refine wpAnyH_all (rs := [2, 8, 9]) (by kernel_rfl) (by simp) (fun i hiR => ?_)
    simp only [List.mem_cons, List.not_mem_nil, or_false] at hiR
    rcases hiR with rfl | rfl | rfl
    · skip
      refine callD 2 (some 44) rfl rfl rfl (f := 27) (args := #[.agg #[.slice AS rs.length cS, .int .i64 10, .slice LS ls.length clS, .slice BS es.length dS], .int .i64 120]) (run_call2 (vx := .agg #[.slice AS rs.length cS, .int .i64 10, .slice LS ls.length clS, .slice BS es.length dS]) (vy := .int .i64 120) (x := .tmp 43) (y := _) rfl rfl rfl rfl (hcf2 _ _) _) (HFr2.out _ _ (SpV.to hvS (show Below w4.heap.size w4 wd from hB))) ?_
      rintro e wc1 ⟨AF, cF, rfl, hcF, hF, hb_wc1⟩
      refine ⟨_, rfl, ⟨(kx2.to hB).to hb_wc1, (ks.to hB).to hb_wc1⟩, ?_⟩
      replace hB := hB.trans (hb_wc1.mono hB.size)
      clear hb_wc1
      try simp only [Act.put, List.setIfInBounds_toArray, List.set_cons_zero, List.set_cons_succ]
      refine wpAnyH_all (rs := [3, 8, 9]) (by kernel_rfl) (by simp) (fun i hiR => ?_)
      simp only [List.mem_cons, List.not_mem_nil, or_false] at hiR
      rcases hiR with rfl | rfl | rfl
      · skip
        refine callD 3 (some 45) rfl rfl rfl (f := 16) (args := #[.agg #[.slice AB rsC.length cB, .int .i64 rC, .slice LB lsC.length clB, .slice BB esC.length dB], .slice AF fr2.length cF]) (run_call2 (vx := .agg #[.slice AB rsC.length cB, .int .i64 rC, .slice LB lsC.length clB, .slice BB esC.length dB]) (vy := .slice AF fr2.length cF) (x := .tmp 42) (y := .tmp 44) rfl rfl rfl rfl (hcf3 _ _) _) (HFk2.out _ _ _ _ (SpV.to hvB (show Below w4.heap.size w4 wc1 from hB)) (hL.below (show Below w4.heap.size w4 wc1 from hB)) hF hcF) ?_
        rintro e wc2 ⟨vP, vC, rfl, hvP, hvC, hlP, hlC, hb_wc2⟩
        refine ⟨_, rfl, ⟨(kx2.to hB).to hb_wc2, (ks.to hB).to hb_wc2⟩, ?_⟩
        clear hlP hlC
        replace hF := hF.below hb_wc2 (Nat.le_refl _)
        replace hB := hB.trans (hb_wc2.mono hB.size)
        clear hb_wc2
        try simp only [Act.put, List.setIfInBounds_toArray, List.set_cons_zero, List.set_cons_succ]
        refine takeD 4 (some 41) (.tuple #[vP, vC, .int .i64 0]) rfl rfl (by kernel_rfl) (by kernel_rfl) (by kernel_rfl) (fun _ _ _ h => h) (.inl ⟨rfl, fun w' hS => by go_simp⟩) ⟨kx2.to hB, ks.to hB⟩ ?_
        try simp only [Act.put, List.setIfInBounds_toArray, List.set_cons_zero, List.set_cons_succ]
        refine takeD 5 (some 46) (vP) rfl rfl (by kernel_rfl) (by kernel_rfl) (by kernel_rfl) (fun _ _ _ h => h) (.inl ⟨rfl, fun w' hS => by go_simp⟩) ⟨kx2.to hB, ks.to hB⟩ ?_
        try simp only [Act.put, List.setIfInBounds_toArray, List.set_cons_zero, List.set_cons_succ]
        refine takeD 6 (some 47) (vC) rfl rfl (by kernel_rfl) (by kernel_rfl) (by kernel_rfl) (fun _ _ _ h => h) (.inl ⟨rfl, fun w' hS => by go_simp⟩) ⟨kx2.to hB, ks.to hB⟩ ?_
        try simp only [Act.put, List.setIfInBounds_toArray, List.set_cons_zero, List.set_cons_succ]
        refine takeD 7 (some 48) (.int .i64 0) rfl rfl (by kernel_rfl) (by kernel_rfl) (by kernel_rfl) (fun _ _ _ h => h) (.inl ⟨rfl, fun w' hS => by go_simp⟩) ⟨kx2.to hB, ks.to hB⟩ ?_
        try simp only [Act.put, List.setIfInBounds_toArray, List.set_cons_zero, List.set_cons_succ]
        refine wpAnyH_all (rs := [8, 9]) (by kernel_rfl) (by simp) (fun i hiR => ?_)
        simp only [List.mem_cons, List.not_mem_nil, or_false] at hiR
        rcases hiR with rfl | rfl
        · skip
          refine valD 8 (some 7) rfl rfl rfl (hal _ _ _ rfl) ⟨⟨(kx2.to hB).alloc _, (ks.to hB).alloc _⟩, ?_⟩
          have kA := Bk.new wc2 #[.slice none 0 0, .int .i64 0, .slice none 0 0, .slice none 0 0] 28
          have hcN := balloc (Below.refl _ wc2) (.cells #[.slice none 0 0, .int .i64 0, .slice none 0 0, .slice none 0 0] 28)
          have hgA : w4.heap.size ≤ wc2.heap.size := hB.size
          have hnAP := SNo.new hvP (Nat.le_refl _)
          have hnAC := SNo.new hvC (Nat.le_refl _)
          generalize hw_wn3 : wc2.alloc (.cells #[.slice none 0 0, .int .i64 0, .slice none 0 0, .slice none 0 0] 28) = wn3 at *
          replace hF := hF.below hcN (Nat.le_refl _)
          replace hvP := hvP.to hcN
          replace hvC := hvC.to hcN
          replace hB := hB.trans (hcN.mono hB.size)
          clear hcN
          try simp only [Act.put, List.setIfInBounds_toArray, List.set_cons_zero, List.set_cons_succ]
          refine wpAnyH_all (rs := [9]) (by kernel_rfl) (by simp) (fun i hiR => ?_)
          obtain rfl : i = 9 := by simpa using hiR
          refine valD 9 (some 8) rfl rfl rfl (hal _ _ _ rfl) ⟨⟨(kx2.to hB).alloc _, (ks.to hB).alloc _⟩, ?_⟩
          have kB := Bk.new wn3 #[.slice none 0 0, .int .i64 0, .slice none 0 0, .slice none 0 0] 28
          have hcN := balloc (Below.refl _ wn3) (.cells #[.slice none 0 0, .int .i64 0, .slice none 0 0, .slice none 0 0] 28)
          have hgB : w4.heap.size ≤ wn3.heap.size := hB.size
          have hneAB : wc2.heap.size ≠ wn3.heap.size := Nat.ne_of_lt kA.lt
          have hnBP := SNo.new hvP (Nat.le_refl _)
          have hnBC := SNo.new hvC (Nat.le_refl _)
          generalize hw_wn4 : wn3.alloc (.cells #[.slice none 0 0, .int .i64 0, .slice none 0 0, .slice none 0 0] 28) = wn4 at *
          replace kA := kA.to hcN
          replace hF := hF.below hcN (Nat.le_refl _)
          replace hvP := hvP.to hcN
          replace hvC := hvC.to hcN
          replace hB := hB.trans (hcN.mono hB.size)
          clear hcN
          try simp only [Act.put, List.setIfInBounds_toArray, List.set_cons_zero, List.set_cons_succ]
          exact HK (wc2.heap.size, wn3.heap.size, .bool true, AF, cF, vP, vC) _ ⟨kA, kB, hneAB, hgA, hgB, hvP, hvC, hnAP, hnBP, hnAC, hnBC, hB⟩
        · skip
          refine valD 9 (some 8) rfl rfl rfl (hal _ _ _ rfl) ⟨⟨(kx2.to hB).alloc _, (ks.to hB).alloc _⟩, ?_⟩
          have kB := Bk.new wc2 #[.slice none 0 0, .int .i64 0, .slice none 0 0, .slice none 0 0] 28
          have hcN := balloc (Below.refl _ wc2) (.cells #[.slice none 0 0, .int .i64 0, .slice none 0 0, .slice none 0 0] 28)
          have hgB : w4.heap.size ≤ wc2.heap.size := hB.size
          have hnBP := SNo.new hvP (Nat.le_refl _)
          have hnBC := SNo.new hvC (Nat.le_refl _)
          generalize hw_wn5 : wc2.alloc (.cells #[.slice none 0 0, .int .i64 0, .slice none 0 0, .slice none 0 0] 28) = wn5 at *
          replace hF := hF.below hcN (Nat.le_refl _)
          replace hvP := hvP.to hcN
          replace hvC := hvC.to hcN
          replace hB := hB.trans (hcN.mono hB.size)
          clear hcN
          try simp only [Act.put, List.setIfInBounds_toArray, List.set_cons_zero, List.set_cons_succ]
          refine wpAnyH_all (rs := [8]) (by kernel_rfl) (by simp) (fun i hiR => ?_)
          obtain rfl : i = 8 := by simpa using hiR
          refine valD 8 (some 7) rfl rfl rfl (hal _ _ _ rfl) ⟨⟨(kx2.to hB).alloc _, (ks.to hB).alloc _⟩, ?_⟩
          have kA := Bk.new wn5 #[.slice none 0 0, .int .i64 0, .slice none 0 0, .slice none 0 0] 28
          have hcN := balloc (Below.refl _ wn5) (.cells #[.slice none 0 0, .int .i64 0, .slice none 0 0, .slice none 0 0] 28)
          have hgA : w4.heap.size ≤ wn5.heap.size := hB.size
          have hneAB : wn5.heap.size ≠ wc2.heap.size := (Nat.ne_of_lt kB.lt).symm
          have hnAP := SNo.new hvP (Nat.le_refl _)
          have hnAC := SNo.new hvC (Nat.le_refl _)
          generalize hw_wn6 : wn5.alloc (.cells #[.slice none 0 0, .int .i64 0, .slice none 0 0, .slice none 0 0] 28) = wn6 at *
          replace kB := kB.to hcN
          replace hF := hF.below hcN (Nat.le_refl _)
          replace hvP := hvP.to hcN
          replace hvC := hvC.to hcN
          replace hB := hB.trans (hcN.mono hB.size)
          clear hcN
          try simp only [Act.put, List.setIfInBounds_toArray, List.set_cons_zero, List.set_cons_succ]
          exact HK (wn5.heap.size, wc2.heap.size, .bool true, AF, cF, vP, vC) _ ⟨kA, kB, hneAB, hgA, hgB, hvP, hvC, hnAP, hnBP, hnAC, hnBC, hB⟩
      · skip
        refine valD 8 (some 7) rfl rfl rfl (hal _ _ _ rfl) ⟨⟨(kx2.to hB).alloc _, (ks.to hB).alloc _⟩, ?_⟩
        have kA := Bk.new wc1 #[.slice none 0 0, .int .i64 0, .slice none 0 0, .slice none 0 0] 28
        have hcN := balloc (Below.refl _ wc1) (.cells #[.slice none 0 0, .int .i64 0, .slice none 0 0, .slice none 0 0] 28)
        have hgA : w4.heap.size ≤ wc1.heap.size := hB.size
        generalize hw_wn7 : wc1.alloc (.cells #[.slice none 0 0, .int .i64 0, .slice none 0 0, .slice none 0 0] 28) = wn7 at *
        replace hF := hF.below hcN (Nat.le_refl _)
        replace hB := hB.trans (hcN.mono hB.size)
        clear hcN
        try simp only [Act.put, List.setIfInBounds_toArray, List.set_cons_zero, List.set_cons_succ]
        refine wpAnyH_all (rs := [3, 9]) (by kernel_rfl) (by simp) (fun i hiR => ?_)
        simp only [List.mem_cons, List.not_mem_nil, or_false] at hiR
        rcases hiR with rfl | rfl
        · skip
          refine callD 3 (some 45) rfl rfl rfl (f := 16) (args := #[.agg #[.slice AB rsC.length cB, .int .i64 rC, .slice LB lsC.length clB, .slice BB esC.length dB], .slice AF fr2.length cF]) (run_call2 (vx := .agg #[.slice AB rsC.length cB, .int .i64 rC, .slice LB lsC.length clB, .slice BB esC.length dB]) (vy := .slice AF fr2.length cF) (x := .tmp 42) (y := .tmp 44) rfl rfl rfl rfl (hcf3 _ _) _) (HFk2.out _ _ _ _ (SpV.to hvB (show Below w4.heap.size w4 wn7 from hB)) (hL.below (show Below w4.heap.size w4 wn7 from hB)) hF hcF) ?_
          rintro e wc8 ⟨vP, vC, rfl, hvP, hvC, hlP, hlC, hb_wc8⟩
          refine ⟨_, rfl, ⟨(kx2.to hB).to hb_wc8, (ks.to hB).to hb_wc8⟩, ?_⟩
          have hnAP := SNo.loc hlP kA.lt
          have hnAC := SNo.loc hlC kA.lt
          clear hlP hlC
          replace kA := kA.to hb_wc8
          replace hF := hF.below hb_wc8 (Nat.le_refl _)
          replace hB := hB.trans (hb_wc8.mono hB.size)
          clear hb_wc8
          try simp only [Act.put, List.setIfInBounds_toArray, List.set_cons_zero, List.set_cons_succ]
          refine takeD 4 (some 41) (.tuple #[vP, vC, .int .i64 0]) rfl rfl (by kernel_rfl) (by kernel_rfl) (by kernel_rfl) (fun _ _ _ h => h) (.inl ⟨rfl, fun w' hS => by go_simp⟩) ⟨kx2.to hB, ks.to hB⟩ ?_
          try simp only [Act.put, List.setIfInBounds_toArray, List.set_cons_zero, List.set_cons_succ]
          refine takeD 5 (some 46) (vP) rfl rfl (by kernel_rfl) (by kernel_rfl) (by kernel_rfl) (fun _ _ _ h => h) (.inl ⟨rfl, fun w' hS => by go_simp⟩) ⟨kx2.to hB, ks.to hB⟩ ?_
          try simp only [Act.put, List.setIfInBounds_toArray, List.set_cons_zero, List.set_cons_succ]
          refine takeD 6 (some 47) (vC) rfl rfl (by kernel_rfl) (by kernel_rfl) (by kernel_rfl) (fun _ _ _ h => h) (.inl ⟨rfl, fun w' hS => by go_simp⟩) ⟨kx2.to hB, ks.to hB⟩ ?_
          try simp only [Act.put, List.setIfInBounds_toArray, List.set_cons_zero, List.set_cons_succ]
          refine takeD 7 (some 48) (.int .i64 0) rfl rfl (by kernel_rfl) (by kernel_rfl) (by kernel_rfl) (fun _ _ _ h => h) (.inl ⟨rfl, fun w' hS => by go_simp⟩) ⟨kx2.to hB, ks.to hB⟩ ?_
          try simp only [Act.put, List.setIfInBounds_toArray, List.set_cons_zero, List.set_cons_succ]
          refine wpAnyH_all (rs := [9]) (by kernel_rfl) (by simp) (fun i hiR => ?_)
          obtain rfl : i = 9 := by simpa using hiR
          refine valD 9 (some 8) rfl rfl rfl (hal _ _ _ rfl) ⟨⟨(kx2.to hB).alloc _, (ks.to hB).alloc _⟩, ?_⟩
          have kB := Bk.new wc8 #[.slice none 0 0, .int .i64 0, .slice none 0 0, .slice none 0 0] 28
          have hcN := balloc (Below.refl _ wc8) (.cells #[.slice none 0 0, .int .i64 0, .slice none 0 0, .slice none 0 0] 28)
          have hgB : w4.heap.size ≤ wc8.heap.size := hB.size
          have hneAB : wc1.heap.size ≠ wc8.heap.size := Nat.ne_of_lt kA.lt
          have hnBP := SNo.new hvP (Nat.le_refl _)
          have hnBC := SNo.new hvC (Nat.le_refl _)
          generalize hw_wn9 : wc8.alloc (.cells #[.slice none 0 0, .int .i64 0, .slice none 0 0, .slice none 0 0] 28) = wn9 at *
          replace kA := kA.to hcN
          replace hF := hF.below hcN (Nat.le_refl _)
          replace hvP := hvP.to hcN
          replace hvC := hvC.to hcN
          replace hB := hB.trans (hcN.mono hB.size)
          clear hcN
          try simp only [Act.put, List.setIfInBounds_toArray, List.set_cons_zero, List.set_cons_succ]
          exact HK (wc1.heap.size, wc8.heap.size, .bool true, AF, cF, vP, vC) _ ⟨kA, kB, hneAB, hgA, hgB, hvP, hvC, hnAP, hnBP, hnAC, hnBC, hB⟩
        · skip
          refine valD 9 (some 8) rfl rfl rfl (hal _ _ _ rfl) ⟨⟨(kx2.to hB).alloc _, (ks.to hB).alloc _⟩, ?_⟩
          have kB := Bk.new wn7 #[.slice none 0 0, .int .i64 0, .slice none 0 0, .slice none 0 0] 28
          have hcN := balloc (Below.refl _ wn7) (.cells #[.slice none 0 0, .int .i64 0, .slice none 0 0, .slice none 0 0] 28)
          have hgB : w4.heap.size ≤ wn7.heap.size := hB.size
          have hneAB : wc1.heap.size ≠ wn7.heap.size := Nat.ne_of_lt kA.lt
          generalize hw_wn10 : wn7.alloc (.cells #[.slice none 0 0, .int .i64 0, .slice none 0 0, .slice none 0 0] 28) = wn10 at *
          replace kA := kA.to hcN
          replace hF := hF.below hcN (Nat.le_refl _)
          replace hB := hB.trans (hcN.mono hB.size)
          clear hcN
          try simp only [Act.put, List.setIfInBounds_toArray, List.set_cons_zero, List.set_cons_succ]
          refine wpAnyH_all (rs := [3]) (by kernel_rfl) (by simp) (fun i hiR => ?_)
          obtain rfl : i = 3 := by simpa using hiR
          refine callD 3 (some 45) rfl rfl rfl (f := 16) (args := #[.agg #[.slice AB rsC.length cB, .int .i64 rC, .slice LB lsC.length clB, .slice BB esC.length dB], .slice AF fr2.length cF]) (run_call2 (vx := .agg #[.slice AB rsC.length cB, .int .i64 rC, .slice LB lsC.length clB, .slice BB esC.length dB]) (vy := .slice AF fr2.length cF) (x := .tmp 42) (y := .tmp 44) rfl rfl rfl rfl (hcf3 _ _) _) (HFk2.out _ _ _ _ (SpV.to hvB (show Below w4.heap.size w4 wn10 from hB)) (hL.below (show Below w4.heap.size w4 wn10 from hB)) hF hcF) ?_
          rintro e wc11 ⟨vP, vC, rfl, hvP, hvC, hlP, hlC, hb_wc11⟩
          refine ⟨_, rfl, ⟨(kx2.to hB).to hb_wc11, (ks.to hB).to hb_wc11⟩, ?_⟩
          have hnAP := SNo.loc hlP kA.lt
          have hnAC := SNo.loc hlC kA.lt
          have hnBP := SNo.loc hlP kB.lt
          have hnBC := SNo.loc hlC kB.lt
          clear hlP hlC
          replace kA := kA.to hb_wc11
          replace kB := kB.to hb_wc11
          replace hF := hF.below hb_wc11 (Nat.le_refl _)
          replace hB := hB.trans (hb_wc11.mono hB.size)
          clear hb_wc11
          try simp only [Act.put, List.setIfInBounds_toArray, List.set_cons_zero, List.set_cons_succ]
          refine takeD 4 (some 41) (.tuple #[vP, vC, .int .i64 0]) rfl rfl (by kernel_rfl) (by kernel_rfl) (by kernel_rfl) (fun _ _ _ h => h) (.inl ⟨rfl, fun w' hS => by go_simp⟩) ⟨kx2.to hB, ks.to hB⟩ ?_
          try simp only [Act.put, List.setIfInBounds_toArray, List.set_cons_zero, List.set_cons_succ]
          refine takeD 5 (some 46) (vP) rfl rfl (by kernel_rfl) (by kernel_rfl) (by kernel_rfl) (fun _ _ _ h => h) (.inl ⟨rfl, fun w' hS => by go_simp⟩) ⟨kx2.to hB, ks.to hB⟩ ?_
          try simp only [Act.put, List.setIfInBounds_toArray, List.set_cons_zero, List.set_cons_succ]
          refine takeD 6 (some 47) (vC) rfl rfl (by kernel_rfl) (by kernel_rfl) (by kernel_rfl) (fun _ _ _ h => h) (.inl ⟨rfl, fun w' hS => by go_simp⟩) ⟨kx2.to hB, ks.to hB⟩ ?_
          try simp only [Act.put, List.setIfInBounds_toArray, List.set_cons_zero, List.set_cons_succ]
          refine takeD 7 (some 48) (.int .i64 0) rfl rfl (by kernel_rfl) (by kernel_rfl) (by kernel_rfl) (fun _ _ _ h => h) (.inl ⟨rfl, fun w' hS => by go_simp⟩) ⟨kx2.to hB, ks.to hB⟩ ?_
          try simp only [Act.put, List.setIfInBounds_toArray, List.set_cons_zero, List.set_cons_succ]
          exact HK (wc1.heap.size, wn7.heap.size, .bool true, AF, cF, vP, vC) _ ⟨kA, kB, hneAB, hgA, hgB, hvP, hvC, hnAP, hnBP, hnAC, hnBC, hB⟩
      · skip
        refine valD 9 (some 8) rfl rfl rfl (hal _ _ _ rfl) ⟨⟨(kx2.to hB).alloc _, (ks.to hB).alloc _⟩, ?_⟩
        have kB := Bk.new wc1 #[.slice none 0 0, .int .i64 0, .slice none 0 0, .slice none 0 0] 28
        have hcN := balloc (Below.refl _ wc1) (.cells #[.slice none 0 0, .int .i64 0, .slice none 0 0, .slice none 0 0] 28)
        have hgB : w4.heap.size ≤ wc1.heap.size := hB.size
        generalize hw_wn12 : wc1.alloc (.cells #[.slice none 0 0, .int .i64 0, .slice none 0 0, .slice none 0 0] 28) = wn12 at *
        replace hF := hF.below hcN (Nat.le_refl _)
        replace hB := hB.trans (hcN.mono hB.size)
        clear hcN
        try simp only [Act.put, List.setIfInBounds_toArray, List.set_cons_zero, List.set_cons_succ]
        refine wpAnyH_all (rs := [3, 8]) (by kernel_rfl) (by simp) (fun i hiR => ?_)
        simp only [List.mem_cons, List.not_mem_nil, or_false] at hiR
        rcases hiR with rfl | rfl
        · skip
          refine callD 3 (some 45) rfl rfl rfl (f := 16) (args := #[.agg #[.slice AB rsC.length cB, .int .i64 rC, .slice LB lsC.length clB, .slice BB esC.length dB], .slice AF fr2.length cF]) (run_call2 (vx := .agg #[.slice AB rsC.length cB, .int .i64 rC, .slice LB lsC.length clB, .slice BB esC.length dB]) (vy := .slice AF fr2.length cF) (x := .tmp 42) (y := .tmp 44) rfl rfl rfl rfl (hcf3 _ _) _) (HFk2.out _ _ _ _ (SpV.to hvB (show Below w4.heap.size w4 wn12 from hB)) (hL.below (show Below w4.heap.size w4 wn12 from hB)) hF hcF) ?_
          rintro e wc13 ⟨vP, vC, rfl, hvP, hvC, hlP, hlC, hb_wc13⟩
          refine ⟨_, rfl, ⟨(kx2.to hB).to hb_wc13, (ks.to hB).to hb_wc13⟩, ?_⟩
          have hnBP := SNo.loc hlP kB.lt
          have hnBC := SNo.loc hlC kB.lt
          clear hlP hlC
          replace kB := kB.to hb_wc13
          replace hF := hF.below hb_wc13 (Nat.le_refl _)
          replace hB := hB.trans (hb_wc13.mono hB.size)
          clear hb_wc13
          try simp only [Act.put, List.setIfInBounds_toArray, List.set_cons_zero, List.set_cons_succ]
          refine takeD 4 (some 41) (.tuple #[vP, vC, .int .i64 0]) rfl rfl (by kernel_rfl) (by kernel_rfl) (by kernel_rfl) (fun _ _ _ h => h) (.inl ⟨rfl, fun w' hS => by go_simp⟩) ⟨kx2.to hB, ks.to hB⟩ ?_
          try simp only [Act.put, List.setIfInBounds_toArray, List.set_cons_zero, List.set_cons_succ]
          refine takeD 5 (some 46) (vP) rfl rfl (by kernel_rfl) (by kernel_rfl) (by kernel_rfl) (fun _ _ _ h => h) (.inl ⟨rfl, fun w' hS => by go_simp⟩) ⟨kx2.to hB, ks.to hB⟩ ?_
          try simp only [Act.put, List.setIfInBounds_toArray, List.set_cons_zero, List.set_cons_succ]
          refine takeD 6 (some 47) (vC) rfl rfl (by kernel_rfl) (by kernel_rfl) (by kernel_rfl) (fun _ _ _ h => h) (.inl ⟨rfl, fun w' hS => by go_simp⟩) ⟨kx2.to hB, ks.to hB⟩ ?_
          try simp only [Act.put, List.setIfInBounds_toArray, List.set_cons_zero, List.set_cons_succ]
          refine takeD 7 (some 48) (.int .i64 0) rfl rfl (by kernel_rfl) (by kernel_rfl) (by kernel_rfl) (fun _ _ _ h => h) (.inl ⟨rfl, fun w' hS => by go_simp⟩) ⟨kx2.to hB, ks.to hB⟩ ?_
          try simp only [Act.put, List.setIfInBounds_toArray, List.set_cons_zero, List.set_cons_succ]
          refine wpAnyH_all (rs := [8]) (by kernel_rfl) (by simp) (fun i hiR => ?_)
          obtain rfl : i = 8 := by simpa using hiR
          refine valD 8 (some 7) rfl rfl rfl (hal _ _ _ rfl) ⟨⟨(kx2.to hB).alloc _, (ks.to hB).alloc _⟩, ?_⟩
          have kA := Bk.new wc13 #[.slice none 0 0, .int .i64 0, .slice none 0 0, .slice none 0 0] 28
          have hcN := balloc (Below.refl _ wc13) (.cells #[.slice none 0 0, .int .i64 0, .slice none 0 0, .slice none 0 0] 28)
          have hgA : w4.heap.size ≤ wc13.heap.size := hB.size
          have hneAB : wc13.heap.size ≠ wc1.heap.size := (Nat.ne_of_lt kB.lt).symm
          have hnAP := SNo.new hvP (Nat.le_refl _)
          have hnAC := SNo.new hvC (Nat.le_refl _)
          generalize hw_wn14 : wc13.alloc (.cells #[.slice none 0 0, .int .i64 0, .slice none 0 0, .slice none 0 0] 28) = wn14 at *
          replace kB := kB.to hcN
          replace hF := hF.below hcN (Nat.le_refl _)
          replace hvP := hvP.to hcN
          replace hvC := hvC.to hcN
          replace hB := hB.trans (hcN.mono hB.size)
          clear hcN
          try simp only [Act.put, List.setIfInBounds_toArray, List.set_cons_zero, List.set_cons_succ]
          exact HK (wc13.heap.size, wc1.heap.size, .bool true, AF, cF, vP, vC) _ ⟨kA, kB, hneAB, hgA, hgB, hvP, hvC, hnAP, hnBP, hnAC, hnBC, hB⟩
        · skip
          refine valD 8 (some 7) rfl rfl rfl (hal _ _ _ rfl) ⟨⟨(kx2.to hB).alloc _, (ks.to hB).alloc _⟩, ?_⟩
          have kA := Bk.new wn12 #[.slice none 0 0, .int .i64 0, .slice none 0 0, .slice none 0 0] 28
          have hcN := balloc (Below.refl _ wn12) (.cells #[.slice none 0 0, .int .i64 0, .slice none 0 0, .slice none 0 0] 28)
          have hgA : w4.heap.size ≤ wn12.heap.size := hB.size
          have hneAB : wn12.heap.size ≠ wc1.heap.size := (Nat.ne_of_lt kB.lt).symm
          generalize hw_wn15 : wn12.alloc (.cells #[.slice none 0 0, .int .i64 0, .slice none 0 0, .slice none 0 0] 28) = wn15 at *
          replace kB := kB.to hcN
          replace hF := hF.below hcN (Nat.le_refl _)
          replace hB := hB.trans (hcN.mono hB.size)
          clear hcN
          try simp only [Act.put, List.setIfInBounds_toArray, List.set_cons_zero, List.set_cons_succ]
          refine wpAnyH_all (rs := [3]) (by kernel_rfl) (by simp) (fun i hiR => ?_)
          obtain rfl : i = 3 := by simpa using hiR
          refine callD 3 (some 45) rfl rfl rfl (f := 16) (args := #[.agg #[.slice AB rsC.length cB, .int .i64 rC, .slice LB lsC.length clB, .slice BB esC.length dB], .slice AF fr2.length cF]) (run_call2 (vx := .agg #[.slice AB rsC.length cB, .int .i64 rC, .slice LB lsC.length clB, .slice BB esC.length dB]) (vy := .slice AF fr2.length cF) (x := .tmp 42) (y := .tmp 44) rfl rfl rfl rfl (hcf3 _ _) _) (HFk2.out _ _ _ _ (SpV.to hvB (show Below w4.heap.size w4 wn15 from hB)) (hL.below (show Below w4.heap.size w4 wn15 from hB)) hF hcF) ?_
          rintro e wc16 ⟨vP, vC, rfl, hvP, hvC, hlP, hlC, hb_wc16⟩
          refine ⟨_, rfl, ⟨(kx2.to hB).to hb_wc16, (ks.to hB).to hb_wc16⟩, ?_⟩
          have hnBP := SNo.loc hlP kB.lt
          have hnBC := SNo.loc hlC kB.lt
          have hnAP := SNo.loc hlP kA.lt
          have hnAC := SNo.loc hlC kA.lt
          clear hlP hlC
          replace kB := kB.to hb_wc16
          replace kA := kA.to hb_wc16
          replace hF := hF.below hb_wc16 (Nat.le_refl _)
          replace hB := hB.trans (hb_wc16.mono hB.size)
          clear hb_wc16
          try simp only [Act.put, List.setIfInBounds_toArray, List.set_cons_zero, List.set_cons_succ]
          refine takeD 4 (some 41) (.tuple #[vP, vC, .int .i64 0]) rfl rfl (by kernel_rfl) (by kernel_rfl) (by kernel_rfl) (fun _ _ _ h => h) (.inl ⟨rfl, fun w' hS => by go_simp⟩) ⟨kx2.to hB, ks.to hB⟩ ?_
          try simp only [Act.put, List.setIfInBounds_toArray, List.set_cons_zero, List.set_cons_succ]
          refine takeD 5 (some 46) (vP) rfl rfl (by kernel_rfl) (by kernel_rfl) (by kernel_rfl) (fun _ _ _ h => h) (.inl ⟨rfl, fun w' hS => by go_simp⟩) ⟨kx2.to hB, ks.to hB⟩ ?_
          try simp only [Act.put, List.setIfInBounds_toArray, List.set_cons_zero, List.set_cons_succ]
          refine takeD 6 (some 47) (vC) rfl rfl (by kernel_rfl) (by kernel_rfl) (by kernel_rfl) (fun _ _ _ h => h) (.inl ⟨rfl, fun w' hS => by go_simp⟩) ⟨kx2.to hB, ks.to hB⟩ ?_
          try simp only [Act.put, List.setIfInBounds_toArray, List.set_cons_zero, List.set_cons_succ]
          refine takeD 7 (some 48) (.int .i64 0) rfl rfl (by kernel_rfl) (by kernel_rfl) (by kernel_rfl) (fun _ _ _ h => h) (.inl ⟨rfl, fun w' hS => by go_simp⟩) ⟨kx2.to hB, ks.to hB⟩ ?_
          try simp only [Act.put, List.setIfInBounds_toArray, List.set_cons_zero, List.set_cons_succ]
          exact HK (wn12.heap.size, wc1.heap.size, .bool true, AF, cF, vP, vC) _ ⟨kA, kB, hneAB, hgA, hgB, hvP, hvC, hnAP, hnBP, hnAC, hnBC, hB⟩
    · skip
      refine valD 8 (some 7) rfl rfl rfl (hal _ _ _ rfl) ⟨⟨(kx2.to hB).alloc _, (ks.to hB).alloc _⟩, ?_⟩
      have kA := Bk.new wd #[.slice none 0 0, .int .i64 0, .slice none 0 0, .slice none 0 0] 28
      have hcN := balloc (Below.refl _ wd) (.cells #[.slice none 0 0, .int .i64 0, .slice none 0 0, .slice none 0 0] 28)
      have hgA : w4.heap.size ≤ wd.heap.size := hB.size
      generalize hw_wn17 : wd.alloc (.cells #[.slice none 0 0, .int .i64 0, .slice none 0 0, .slice none 0 0] 28) = wn17 at *
      replace hB := hB.trans (hcN.mono hB.size)
      clear hcN
      try simp only [Act.put, List.setIfInBounds_toArray, List.set_cons_zero, List.set_cons_succ]
      refine wpAnyH_all (rs := [2, 9]) (by kernel_rfl) (by simp) (fun i hiR => ?_)
      simp only [List.mem_cons, List.not_mem_nil, or_false] at hiR
      rcases hiR with rfl | rfl
      · skip
        refine callD 2 (some 44) rfl rfl rfl (f := 27) (args := #[.agg #[.slice AS rs.length cS, .int .i64 10, .slice LS ls.length clS, .slice BS es.length dS], .int .i64 120]) (run_call2 (vx := .agg #[.slice AS rs.length cS, .int .i64 10, .slice LS ls.length clS, .slice BS es.length dS]) (vy := .int .i64 120) (x := .tmp 43) (y := _) rfl rfl rfl rfl (hcf2 _ _) _) (HFr2.out _ _ (SpV.to hvS (show Below w4.heap.size w4 wn17 from hB))) ?_
        rintro e wc18 ⟨AF, cF, rfl, hcF, hF, hb_wc18⟩
        refine ⟨_, rfl, ⟨(kx2.to hB).to hb_wc18, (ks.to hB).to hb_wc18⟩, ?_⟩
        replace kA := kA.to hb_wc18
        replace hB := hB.trans (hb_wc18.mono hB.size)
        clear hb_wc18
        try simp only [Act.put, List.setIfInBounds_toArray, List.set_cons_zero, List.set_cons_succ]
        refine wpAnyH_all (rs := [3, 9]) (by kernel_rfl) (by simp) (fun i hiR => ?_)
        simp only [List.mem_cons, List.not_mem_nil, or_false] at hiR
        rcases hiR with rfl | rfl
        · skip
          refine callD 3 (some 45) rfl rfl rfl (f := 16) (args := #[.agg #[.slice AB rsC.length cB, .int .i64 rC, .slice LB lsC.length clB, .slice BB esC.length dB], .slice AF fr2.length cF]) (run_call2 (vx := .agg #[.slice AB rsC.length cB, .int .i64 rC, .slice LB lsC.length clB, .slice BB esC.length dB]) (vy := .slice AF fr2.length cF) (x := .tmp 42) (y := .tmp 44) rfl rfl rfl rfl (hcf3 _ _) _) (HFk2.out _ _ _ _ (SpV.to hvB (show Below w4.heap.size w4 wc18 from hB)) (hL.below (show Below w4.heap.size w4 wc18 from hB)) hF hcF) ?_
          rintro e wc19 ⟨vP, vC, rfl, hvP, hvC, hlP, hlC, hb_wc19⟩
          refine ⟨_, rfl, ⟨(kx2.to hB).to hb_wc19, (ks.to hB).to hb_wc19⟩, ?_⟩
          have hnAP := SNo.loc hlP kA.lt
          have hnAC := SNo.loc hlC kA.lt
          clear hlP hlC
          replace kA := kA.to hb_wc19
          replace hF := hF.below hb_wc19 (Nat.le_refl _)
          replace hB := hB.trans (hb_wc19.mono hB.size)
          clear hb_wc19
          try simp only [Act.put, List.setIfInBounds_toArray, List.set_cons_zero, List.set_cons_succ]
          refine takeD 4 (some 41) (.tuple #[vP, vC, .int .i64 0]) rfl rfl (by kernel_rfl) (by kernel_rfl) (by kernel_rfl) (fun _ _ _ h => h) (.inl ⟨rfl, fun w' hS => by go_simp⟩) ⟨kx2.to hB, ks.to hB⟩ ?_
          try simp only [Act.put, List.setIfInBounds_toArray, List.set_cons_zero, List.set_cons_succ]
          refine takeD 5 (some 46) (vP) rfl rfl (by kernel_rfl) (by kernel_rfl) (by kernel_rfl) (fun _ _ _ h => h) (.inl ⟨rfl, fun w' hS => by go_simp⟩) ⟨kx2.to hB, ks.to hB⟩ ?_
          try simp only [Act.put, List.setIfInBounds_toArray, List.set_cons_zero, List.set_cons_succ]
          refine takeD 6 (some 47) (vC) rfl rfl (by kernel_rfl) (by kernel_rfl) (by kernel_rfl) (fun _ _ _ h => h) (.inl ⟨rfl, fun w' hS => by go_simp⟩) ⟨kx2.to hB, ks.to hB⟩ ?_
          try simp only [Act.put, List.setIfInBounds_toArray, List.set_cons_zero, List.set_cons_succ]
          refine takeD 7 (some 48) (.int .i64 0) rfl rfl (by kernel_rfl) (by kernel_rfl) (by kernel_rfl) (fun _ _ _ h => h) (.inl ⟨rfl, fun w' hS => by go_simp⟩) ⟨kx2.to hB, ks.to hB⟩ ?_
          try simp only [Act.put, List.setIfInBounds_toArray, List.set_cons_zero, List.set_cons_succ]
          refine wpAnyH_all (rs := [9]) (by kernel_rfl) (by simp) (fun i hiR => ?_)
          obtain rfl : i = 9 := by simpa using hiR
          refine valD 9 (some 8) rfl rfl rfl (hal _ _ _ rfl) ⟨⟨(kx2.to hB).alloc _, (ks.to hB).alloc _⟩, ?_⟩
          have kB := Bk.new wc19 #[.slice none 0 0, .int .i64 0, .slice none 0 0, .slice none 0 0] 28
          have hcN := balloc (Below.refl _ wc19) (.cells #[.slice none 0 0, .int .i64 0, .slice none 0 0, .slice none 0 0] 28)
          have hgB : w4.heap.size ≤ wc19.heap.size := hB.size
          have hneAB : wd.heap.size ≠ wc19.heap.size := Nat.ne_of_lt kA.lt
          have hnBP := SNo.new hvP (Nat.le_refl _)
          have hnBC := SNo.new hvC (Nat.le_refl _)
          generalize hw_wn20 : wc19.alloc (.cells #[.slice none 0 0, .int .i64 0, .slice none 0 0, .slice none 0 0] 28) = wn20 at *
          replace kA := kA.to hcN
          replace hF := hF.below hcN (Nat.le_refl _)
          replace hvP := hvP.to hcN
          replace hvC := hvC.to hcN
          replace hB := hB.trans (hcN.mono hB.size)
          clear hcN
          try simp only [Act.put, List.setIfInBounds_toArray, List.set_cons_zero, List.set_cons_succ]
          exact HK (wd.heap.size, wc19.heap.size, .bool true, AF, cF, vP, vC) _ ⟨kA, kB, hneAB, hgA, hgB, hvP, hvC, hnAP, hnBP, hnAC, hnBC, hB⟩
        · skip
          refine valD 9 (some 8) rfl rfl rfl (hal _ _ _ rfl) ⟨⟨(kx2.to hB).alloc _, (ks.to hB).alloc _⟩, ?_⟩
          have kB := Bk.new wc18 #[.slice none 0 0, .int .i64 0, .slice none 0 0, .slice none 0 0] 28
          have hcN := balloc (Below.refl _ wc18) (.cells #[.slice none 0 0, .int .i64 0, .slice none 0 0, .slice none 0 0] 28)
          have hgB : w4.heap.size ≤ wc18.heap.size := hB.size
          have hneAB : wd.heap.size ≠ wc18.heap.size := Nat.ne_of_lt kA.lt
          generalize hw_wn21 : wc18.alloc (.cells #[.slice none 0 0, .int .i64 0, .slice none 0 0, .slice none 0 0] 28) = wn21 at *
          replace kA := kA.to hcN
          replace hF := hF.below hcN (Nat.le_refl _)
          replace hB := hB.trans (hcN.mono hB.size)
          clear hcN
          try simp only [Act.put, List.setIfInBounds_toArray, List.set_cons_zero, List.set_cons_succ]
          refine wpAnyH_all (rs := [3]) (by kernel_rfl) (by simp) (fun i hiR => ?_)
          obtain rfl : i = 3 := by simpa using hiR
          refine callD 3 (some 45) rfl rfl rfl (f := 16) (args := #[.agg #[.slice AB rsC.length cB, .int .i64 rC, .slice LB lsC.length clB, .slice BB esC.length dB], .slice AF fr2.length cF]) (run_call2 (vx := .agg #[.slice AB rsC.length cB, .int .i64 rC, .slice LB lsC.length clB, .slice BB esC.length dB]) (vy := .slice AF fr2.length cF) (x := .tmp 42) (y := .tmp 44) rfl rfl rfl rfl (hcf3 _ _) _) (HFk2.out _ _ _ _ (SpV.to hvB (show Below w4.heap.size w4 wn21 from hB)) (hL.below (show Below w4.heap.size w4 wn21 from hB)) hF hcF) ?_
          rintro e wc22 ⟨vP, vC, rfl, hvP, hvC, hlP, hlC, hb_wc22⟩
          refine ⟨_, rfl, ⟨(kx2.to hB).to hb_wc22, (ks.to hB).to hb_wc22⟩, ?_⟩
          have hnAP := SNo.loc hlP kA.lt
          have hnAC := SNo.loc hlC kA.lt
          have hnBP := SNo.loc hlP kB.lt
          have hnBC := SNo.loc hlC kB.lt
          clear hlP hlC
          replace kA := kA.to hb_wc22
          replace kB := kB.to hb_wc22
          replace hF := hF.below hb_wc22 (Nat.le_refl _)
          replace hB := hB.trans (hb_wc22.mono hB.size)
          clear hb_wc22
          try simp only [Act.put, List.setIfInBounds_toArray, List.set_cons_zero, List.set_cons_succ]
          refine takeD 4 (some 41) (.tuple #[vP, vC, .int .i64 0]) rfl rfl (by kernel_rfl) (by kernel_rfl) (by kernel_rfl) (fun _ _ _ h => h) (.inl ⟨rfl, fun w' hS => by go_simp⟩) ⟨kx2.to hB, ks.to hB⟩ ?_
          try simp only [Act.put, List.setIfInBounds_toArray, List.set_cons_zero, List.set_cons_succ]
          refine takeD 5 (some 46) (vP) rfl rfl (by kernel_rfl) (by kernel_rfl) (by kernel_rfl) (fun _ _ _ h => h) (.inl ⟨rfl, fun w' hS => by go_simp⟩) ⟨kx2.to hB, ks.to hB⟩ ?_
          try simp only [Act.put, List.setIfInBounds_toArray, List.set_cons_zero, List.set_cons_succ]
          refine takeD 6 (some 47) (vC) rfl rfl (by kernel_rfl) (by kernel_rfl) (by kernel_rfl) (fun _ _ _ h => h) (.inl ⟨rfl, fun w' hS => by go_simp⟩) ⟨kx2.to hB, ks.to hB⟩ ?_
          try simp only [Act.put, List.setIfInBounds_toArray, List.set_cons_zero, List.set_cons_succ]
          refine takeD 7 (some 48) (.int .i64 0) rfl rfl (by kernel_rfl) (by kernel_rfl) (by kernel_rfl) (fun _ _ _ h => h) (.inl ⟨rfl, fun w' hS => by go_simp⟩) ⟨kx2.to hB, ks.to hB⟩ ?_
          try simp only [Act.put, List.setIfInBounds_toArray, List.set_cons_zero, List.set_cons_succ]
          exact HK (wd.heap.size, wc18.heap.size, .bool true, AF, cF, vP, vC) _ ⟨kA, kB, hneAB, hgA, hgB, hvP, hvC, hnAP, hnBP, hnAC, hnBC, hB⟩
      · skip
        refine valD 9 (some 8) rfl rfl rfl (hal _ _ _ rfl) ⟨⟨(kx2.to hB).alloc _, (ks.to hB).alloc _⟩, ?_⟩
        have kB := Bk.new wn17 #[.slice none 0 0, .int .i64 0, .slice none 0 0, .slice none 0 0] 28
        have hcN := balloc (Below.refl _ wn17) (.cells #[.slice none 0 0, .int .i64 0, .slice none 0 0, .slice none 0 0] 28)
        have hgB : w4.heap.size ≤ wn17.heap.size := hB.size
        have hneAB : wd.heap.size ≠ wn17.heap.size := Nat.ne_of_lt kA.lt
        generalize hw_wn23 : wn17.alloc (.cells #[.slice none 0 0, .int .i64 0, .slice none 0 0, .slice none 0 0] 28) = wn23 at *
        replace kA := kA.to hcN
        replace hB := hB.trans (hcN.mono hB.size)
        clear hcN
        try simp only [Act.put, List.setIfInBounds_toArray, List.set_cons_zero, List.set_cons_succ]
        refine wpAnyH_all (rs := [2]) (by kernel_rfl) (by simp) (fun i hiR => ?_)
        obtain rfl : i = 2 := by simpa using hiR
        refine callD 2 (some 44) rfl rfl rfl (f := 27) (args := #[.agg #[.slice AS rs.length cS, .int .i64 10, .slice LS ls.length clS, .slice BS es.length dS], .int .i64 120]) (run_call2 (vx := .agg #[.slice AS rs.length cS, .int .i64 10, .slice LS ls.length clS, .slice BS es.length dS]) (vy := .int .i64 120) (x := .tmp 43) (y := _) rfl rfl rfl rfl (hcf2 _ _) _) (HFr2.out _ _ (SpV.to hvS (show Below w4.heap.size w4 wn23 from hB))) ?_
        rintro e wc24 ⟨AF, cF, rfl, hcF, hF, hb_wc24⟩
        refine ⟨_, rfl, ⟨(kx2.to hB).to hb_wc24, (ks.to hB).to hb_wc24⟩, ?_⟩
        replace kA := kA.to hb_wc24
        replace kB := kB.to hb_wc24
        replace hB := hB.trans (hb_wc24.mono hB.size)
        clear hb_wc24
        try simp only [Act.put, List.setIfInBounds_toArray, List.set_cons_zero, List.set_cons_succ]
        refine wpAnyH_all (rs := [3]) (by kernel_rfl) (by simp) (fun i hiR => ?_)
        obtain rfl : i = 3 := by simpa using hiR
        refine callD 3 (some 45) rfl rfl rfl (f := 16) (args := #[.agg #[.slice AB rsC.length cB, .int .i64 rC, .slice LB lsC.length clB, .slice BB esC.length dB], .slice AF fr2.length cF]) (run_call2 (vx := .agg #[.slice AB rsC.length cB, .int .i64 rC, .slice LB lsC.length clB, .slice BB esC.length dB]) (vy := .slice AF fr2.length cF) (x := .tmp 42) (y := .tmp 44) rfl rfl rfl rfl (hcf3 _ _) _) (HFk2.out _ _ _ _ (SpV.to hvB (show Below w4.heap.size w4 wc24 from hB)) (hL.below (show Below w4.heap.size w4 wc24 from hB)) hF hcF) ?_
        rintro e wc25 ⟨vP, vC, rfl, hvP, hvC, hlP, hlC, hb_wc25⟩
        refine ⟨_, rfl, ⟨(kx2.to hB).to hb_wc25, (ks.to hB).to hb_wc25⟩, ?_⟩
        have hnAP := SNo.loc hlP kA.lt
        have hnAC := SNo.loc hlC kA.lt
        have hnBP := SNo.loc hlP kB.lt
        have hnBC := SNo.loc hlC kB.lt
        clear hlP hlC
        replace kA := kA.to hb_wc25
        replace kB := kB.to hb_wc25
        replace hF := hF.below hb_wc25 (Nat.le_refl _)
        replace hB := hB.trans (hb_wc25.mono hB.size)
        clear hb_wc25
        try simp only [Act.put, List.setIfInBounds_toArray, List.set_cons_zero, List.set_cons_succ]
        refine takeD 4 (some 41) (.tuple #[vP, vC, .int .i64 0]) rfl rfl (by kernel_rfl) (by kernel_rfl) (by kernel_rfl) (fun _ _ _ h => h) (.inl ⟨rfl, fun w' hS => by go_simp⟩) ⟨kx2.to hB, ks.to hB⟩ ?_
        try simp only [Act.put, List.setIfInBounds_toArray, List.set_cons_zero, List.set_cons_succ]
        refine takeD 5 (some 46) (vP) rfl rfl (by kernel_rfl) (by kernel_rfl) (by kernel_rfl) (fun _ _ _ h => h) (.inl ⟨rfl, fun w' hS => by go_simp⟩) ⟨kx2.to hB, ks.to hB⟩ ?_
        try simp only [Act.put, List.setIfInBounds_toArray, List.set_cons_zero, List.set_cons_succ]
        refine takeD 6 (some 47) (vC) rfl rfl (by kernel_rfl) (by kernel_rfl) (by kernel_rfl) (fun _ _ _ h => h) (.inl ⟨rfl, fun w' hS => by go_simp⟩) ⟨kx2.to hB, ks.to hB⟩ ?_
        try simp only [Act.put, List.setIfInBounds_toArray, List.set_cons_zero, List.set_cons_succ]
        refine takeD 7 (some 48) (.int .i64 0) rfl rfl (by kernel_rfl) (by kernel_rfl) (by kernel_rfl) (fun _ _ _ h => h) (.inl ⟨rfl, fun w' hS => by go_simp⟩) ⟨kx2.to hB, ks.to hB⟩ ?_
        try simp only [Act.put, List.setIfInBounds_toArray, List.set_cons_zero, List.set_cons_succ]
        exact HK (wd.heap.size, wn17.heap.size, .bool true, AF, cF, vP, vC) _ ⟨kA, kB, hneAB, hgA, hgB, hvP, hvC, hnAP, hnBP, hnAC, hnBC, hB⟩
    · skip
      refine valD 9 (some 8) rfl rfl rfl (hal _ _ _ rfl) ⟨⟨(kx2.to hB).alloc _, (ks.to hB).alloc _⟩, ?_⟩
      have kB := Bk.new wd #[.slice none 0 0, .int .i64 0, .slice none 0 0, .slice none 0 0] 28
      have hcN := balloc (Below.refl _ wd) (.cells #[.slice none 0 0, .int .i64 0, .slice none 0 0, .slice none 0 0] 28)
      have hgB : w4.heap.size ≤ wd.heap.size := hB.size
      generalize hw_wn26 : wd.alloc (.cells #[.slice none 0 0, .int .i64 0, .slice none 0 0, .slice none 0 0] 28) = wn26 at *
      replace hB := hB.trans (hcN.mono hB.size)
      clear hcN
      try simp only [Act.put, List.setIfInBounds_toArray, List.set_cons_zero, List.set_cons_succ]
      refine wpAnyH_all (rs := [2, 8]) (by kernel_rfl) (by simp) (fun i hiR => ?_)
      simp only [List.mem_cons, List.not_mem_nil, or_false] at hiR
      rcases hiR with rfl | rfl
      · skip
        refine callD 2 (some 44) rfl rfl rfl (f := 27) (args := #[.agg #[.slice AS rs.length cS, .int .i64 10, .slice LS ls.length clS, .slice BS es.length dS], .int .i64 120]) (run_call2 (vx := .agg #[.slice AS rs.length cS, .int .i64 10, .slice LS ls.length clS, .slice BS es.length dS]) (vy := .int .i64 120) (x := .tmp 43) (y := _) rfl rfl rfl rfl (hcf2 _ _) _) (HFr2.out _ _ (SpV.to hvS (show Below w4.heap.size w4 wn26 from hB))) ?_
        rintro e wc27 ⟨AF, cF, rfl, hcF, hF, hb_wc27⟩
        refine ⟨_, rfl, ⟨(kx2.to hB).to hb_wc27, (ks.to hB).to hb_wc27⟩, ?_⟩
        replace kB := kB.to hb_wc27
        replace hB := hB.trans (hb_wc27.mono hB.size)
        clear hb_wc27
        try simp only [Act.put, List.setIfInBounds_toArray, List.set_cons_zero, List.set_cons_succ]
        refine wpAnyH_all (rs := [3, 8]) (by kernel_rfl) (by simp) (fun i hiR => ?_)
        simp only [List.mem_cons, List.not_mem_nil, or_false] at hiR
        rcases hiR with rfl | rfl
        · skip
          refine callD 3 (some 45) rfl rfl rfl (f := 16) (args := #[.agg #[.slice AB rsC.length cB, .int .i64 rC, .slice LB lsC.length clB, .slice BB esC.length dB], .slice AF fr2.length cF]) (run_call2 (vx := .agg #[.slice AB rsC.length cB, .int .i64 rC, .slice LB lsC.length clB, .slice BB esC.length dB]) (vy := .slice AF fr2.length cF) (x := .tmp 42) (y := .tmp 44) rfl rfl rfl rfl (hcf3 _ _) _) (HFk2.out _ _ _ _ (SpV.to hvB (show Below w4.heap.size w4 wc27 from hB)) (hL.below (show Below w4.heap.size w4 wc27 from hB)) hF hcF) ?_
          rintro e wc28 ⟨vP, vC, rfl, hvP, hvC, hlP, hlC, hb_wc28⟩
          refine ⟨_, rfl, ⟨(kx2.to hB).to hb_wc28, (ks.to hB).to hb_wc28⟩, ?_⟩
          have hnBP := SNo.loc hlP kB.lt
          have hnBC := SNo.loc hlC kB.lt
          clear hlP hlC
          replace kB := kB.to hb_wc28
          replace hF := hF.below hb_wc28 (Nat.le_refl _)
          replace hB := hB.trans (hb_wc28.mono hB.size)
          clear hb_wc28
          try simp only [Act.put, List.setIfInBounds_toArray, List.set_cons_zero, List.set_cons_succ]
          refine takeD 4 (some 41) (.tuple #[vP, vC, .int .i64 0]) rfl rfl (by kernel_rfl) (by kernel_rfl) (by kernel_rfl) (fun _ _ _ h => h) (.inl ⟨rfl, fun w' hS => by go_simp⟩) ⟨kx2.to hB, ks.to hB⟩ ?_
          try simp only [Act.put, List.setIfInBounds_toArray, List.set_cons_zero, List.set_cons_succ]
          refine takeD 5 (some 46) (vP) rfl rfl (by kernel_rfl) (by kernel_rfl) (by kernel_rfl) (fun _ _ _ h => h) (.inl ⟨rfl, fun w' hS => by go_simp⟩) ⟨kx2.to hB, ks.to hB⟩ ?_
          try simp only [Act.put, List.setIfInBounds_toArray, List.set_cons_zero, List.set_cons_succ]
          refine takeD 6 (some 47) (vC) rfl rfl (by kernel_rfl) (by kernel_rfl) (by kernel_rfl) (fun _ _ _ h => h) (.inl ⟨rfl, fun w' hS => by go_simp⟩) ⟨kx2.to hB, ks.to hB⟩ ?_
          try simp only [Act.put, List.setIfInBounds_toArray, List.set_cons_zero, List.set_cons_succ]
          refine takeD 7 (some 48) (.int .i64 0) rfl rfl (by kernel_rfl) (by kernel_rfl) (by kernel_rfl) (fun _ _ _ h => h) (.inl ⟨rfl, fun w' hS => by go_simp⟩) ⟨kx2.to hB, ks.to hB⟩ ?_
          try simp only [Act.put, List.setIfInBounds_toArray, List.set_cons_zero, List.set_cons_succ]
          refine wpAnyH_all (rs := [8]) (by kernel_rfl) (by simp) (fun i hiR => ?_)
          obtain rfl : i = 8 := by simpa using hiR
          refine valD 8 (some 7) rfl rfl rfl (hal _ _ _ rfl) ⟨⟨(kx2.to hB).alloc _, (ks.to hB).alloc _⟩, ?_⟩
          have kA := Bk.new wc28 #[.slice none 0 0, .int .i64 0, .slice none 0 0, .slice none 0 0] 28
          have hcN := balloc (Below.refl _ wc28) (.cells #[.slice none 0 0, .int .i64 0, .slice none 0 0, .slice none 0 0] 28)
          have hgA : w4.heap.size ≤ wc28.heap.size := hB.size
          have hneAB : wc28.heap.size ≠ wd.heap.size := (Nat.ne_of_lt kB.lt).symm
          have hnAP := SNo.new hvP (Nat.le_refl _)
          have hnAC := SNo.new hvC (Nat.le_refl _)
          generalize hw_wn29 : wc28.alloc (.cells #[.slice none 0 0, .int .i64 0, .slice none 0 0, .slice none 0 0] 28) = wn29 at *
          replace kB := kB.to hcN
          replace hF := hF.below hcN (Nat.le_refl _)
          replace hvP := hvP.to hcN
          replace hvC := hvC.to hcN
          replace hB := hB.trans (hcN.mono hB.size)
          clear hcN
          try simp only [Act.put, List.setIfInBounds_toArray, List.set_cons_zero, List.set_cons_succ]
          exact HK (wc28.heap.size, wd.heap.size, .bool true, AF, cF, vP, vC) _ ⟨kA, kB, hneAB, hgA, hgB, hvP, hvC, hnAP, hnBP, hnAC, hnBC, hB⟩
        · skip
          refine valD 8 (some 7) rfl rfl rfl (hal _ _ _ rfl) ⟨⟨(kx2.to hB).alloc _, (ks.to hB).alloc _⟩, ?_⟩
          have kA := Bk.new wc27 #[.slice none 0 0, .int .i64 0, .slice none 0 0, .slice none 0 0] 28
          have hcN := balloc (Below.refl _ wc27) (.cells #[.slice none 0 0, .int .i64 0, .slice none 0 0, .slice none 0 0] 28)
          have hgA : w4.heap.size ≤ wc27.heap.size := hB.size
          have hneAB : wc27.heap.size ≠ wd.heap.size := (Nat.ne_of_lt kB.lt).symm
          generalize hw_wn30 : wc27.alloc (.cells #[.slice none 0 0, .int .i64 0, .slice none 0 0, .slice none 0 0] 28) = wn30 at *
          replace kB := kB.to hcN
          replace hF := hF.below hcN (Nat.le_refl _)
          replace hB := hB.trans (hcN.mono hB.size)
          clear hcN
          try simp only [Act.put, List.setIfInBounds_toArray, List.set_cons_zero, List.set_cons_succ]
          refine wpAnyH_all (rs := [3]) (by kernel_rfl) (by simp) (fun i hiR => ?_)
          obtain rfl : i = 3 := by simpa using hiR
          refine callD 3 (some 45) rfl rfl rfl (f := 16) (args := #[.agg #[.slice AB rsC.length cB, .int .i64 rC, .slice LB lsC.length clB, .slice BB esC.length dB], .slice AF fr2.length cF]) (run_call2 (vx := .agg #[.slice AB rsC.length cB, .int .i64 rC, .slice LB lsC.length clB, .slice BB esC.length dB]) (vy := .slice AF fr2.length cF) (x := .tmp 42) (y := .tmp 44) rfl rfl rfl rfl (hcf3 _ _) _) (HFk2.out _ _ _ _ (SpV.to hvB (show Below w4.heap.size w4 wn30 from hB)) (hL.below (show Below w4.heap.size w4 wn30 from hB)) hF hcF) ?_
          rintro e wc31 ⟨vP, vC, rfl, hvP, hvC, hlP, hlC, hb_wc31⟩
          refine ⟨_, rfl, ⟨(kx2.to hB).to hb_wc31, (ks.to hB).to hb_wc31⟩, ?_⟩
          have hnBP := SNo.loc hlP kB.lt
          have hnBC := SNo.loc hlC kB.lt
          have hnAP := SNo.loc hlP kA.lt
          have hnAC := SNo.loc hlC kA.lt
          clear hlP hlC
          replace kB := kB.to hb_wc31
          replace kA := kA.to hb_wc31
          replace hF := hF.below hb_wc31 (Nat.le_refl _)
          replace hB := hB.trans (hb_wc31.mono hB.size)
          clear hb_wc31
          try simp only [Act.put, List.setIfInBounds_toArray, List.set_cons_zero, List.set_cons_succ]
          refine takeD 4 (some 41) (.tuple #[vP, vC, .int .i64 0]) rfl rfl (by kernel_rfl) (by kernel_rfl) (by kernel_rfl) (fun _ _ _ h => h) (.inl ⟨rfl, fun w' hS => by go_simp⟩) ⟨kx2.to hB, ks.to hB⟩ ?_
          try simp only [Act.put, List.setIfInBounds_toArray, List.set_cons_zero, List.set_cons_succ]
          refine takeD 5 (some 46) (vP) rfl rfl (by kernel_rfl) (by kernel_rfl) (by kernel_rfl) (fun _ _ _ h => h) (.inl ⟨rfl, fun w' hS => by go_simp⟩) ⟨kx2.to hB, ks.to hB⟩ ?_
          try simp only [Act.put, List.setIfInBounds_toArray, List.set_cons_zero, List.set_cons_succ]
          refine takeD 6 (some 47) (vC) rfl rfl (by kernel_rfl) (by kernel_rfl) (by kernel_rfl) (fun _ _ _ h => h) (.inl ⟨rfl, fun w' hS => by go_simp⟩) ⟨kx2.to hB, ks.to hB⟩ ?_
          try simp only [Act.put, List.setIfInBounds_toArray, List.set_cons_zero, List.set_cons_succ]
          refine takeD 7 (some 48) (.int .i64 0) rfl rfl (by kernel_rfl) (by kernel_rfl) (by kernel_rfl) (fun _ _ _ h => h) (.inl ⟨rfl, fun w' hS => by go_simp⟩) ⟨kx2.to hB, ks.to hB⟩ ?_
          try simp only [Act.put, List.setIfInBounds_toArray, List.set_cons_zero, List.set_cons_succ]
          exact HK (wc27.heap.size, wd.heap.size, .bool true, AF, cF, vP, vC) _ ⟨kA, kB, hneAB, hgA, hgB, hvP, hvC, hnAP, hnBP, hnAC, hnBC, hB⟩
      · skip
        refine valD 8 (some 7) rfl rfl rfl (hal _ _ _ rfl) ⟨⟨(kx2.to hB).alloc _, (ks.to hB).alloc _⟩, ?_⟩
        have kA := Bk.new wn26 #[.slice none 0 0, .int .i64 0, .slice none 0 0, .slice none 0 0] 28
        have hcN := balloc (Below.refl _ wn26) (.cells #[.slice none 0 0, .int .i64 0, .slice none 0 0, .slice none 0 0] 28)
        have hgA : w4.heap.size ≤ wn26.heap.size := hB.size
        have hneAB : wn26.heap.size ≠ wd.heap.size := (Nat.ne_of_lt kB.lt).symm
        generalize hw_wn32 : wn26.alloc (.cells #[.slice none 0 0, .int .i64 0, .slice none 0 0, .slice none 0 0] 28) = wn32 at *
        replace kB := kB.to hcN
        replace hB := hB.trans (hcN.mono hB.size)
        clear hcN
        try simp only [Act.put, List.setIfInBounds_toArray, List.set_cons_zero, List.set_cons_succ]
        refine wpAnyH_all (rs := [2]) (by kernel_rfl) (by simp) (fun i hiR => ?_)
        obtain rfl : i = 2 := by simpa using hiR
        refine callD 2 (some 44) rfl rfl rfl (f := 27) (args := #[.agg #[.slice AS rs.length cS, .int .i64 10, .slice LS ls.length clS, .slice BS es.length dS], .int .i64 120]) (run_call2 (vx := .agg #[.slice AS rs.length cS, .int .i64 10, .slice LS ls.length clS, .slice BS es.length dS]) (vy := .int .i64 120) (x := .tmp 43) (y := _) rfl rfl rfl rfl (hcf2 _ _) _) (HFr2.out _ _ (SpV.to hvS (show Below w4.heap.size w4 wn32 from hB))) ?_
        rintro e wc33 ⟨AF, cF, rfl, hcF, hF, hb_wc33⟩
        refine ⟨_, rfl, ⟨(kx2.to hB).to hb_wc33, (ks.to hB).to hb_wc33⟩, ?_⟩
        replace kB := kB.to hb_wc33
        replace kA := kA.to hb_wc33
        replace hB := hB.trans (hb_wc33.mono hB.size)
        clear hb_wc33
        try simp only [Act.put, List.setIfInBounds_toArray, List.set_cons_zero, List.set_cons_succ]
        refine wpAnyH_all (rs := [3]) (by kernel_rfl) (by simp) (fun i hiR => ?_)
        obtain rfl : i = 3 := by simpa using hiR
        refine callD 3 (some 45) rfl rfl rfl (f := 16) (args := #[.agg #[.slice AB rsC.length cB, .int .i64 rC, .slice LB lsC.length clB, .slice BB esC.length dB], .slice AF fr2.length cF]) (run_call2 (vx := .agg #[.slice AB rsC.length cB, .int .i64 rC, .slice LB lsC.length clB, .slice BB esC.length dB]) (vy := .slice AF fr2.length cF) (x := .tmp 42) (y := .tmp 44) rfl rfl rfl rfl (hcf3 _ _) _) (HFk2.out _ _ _ _ (SpV.to hvB (show Below w4.heap.size w4 wc33 from hB)) (hL.below (show Below w4.heap.size w4 wc33 from hB)) hF hcF) ?_
        rintro e wc34 ⟨vP, vC, rfl, hvP, hvC, hlP, hlC, hb_wc34⟩
        refine ⟨_, rfl, ⟨(kx2.to hB).to hb_wc34, (ks.to hB).to hb_wc34⟩, ?_⟩
        have hnBP := SNo.loc hlP kB.lt
        have hnBC := SNo.loc hlC kB.lt
        have hnAP := SNo.loc hlP kA.lt
        have hnAC := SNo.loc hlC kA.lt
        clear hlP hlC
        replace kB := kB.to hb_wc34
        replace kA := kA.to hb_wc34
        replace hF := hF.below hb_wc34 (Nat.le_refl _)
        replace hB := hB.trans (hb_wc34.mono hB.size)
        clear hb_wc34
        try simp only [Act.put, List.setIfInBounds_toArray, List.set_cons_zero, List.set_cons_succ]
        refine takeD 4 (some 41) (.tuple #[vP, vC, .int .i64 0]) rfl rfl (by kernel_rfl) (by kernel_rfl) (by kernel_rfl) (fun _ _ _ h => h) (.inl ⟨rfl, fun w' hS => by go_simp⟩) ⟨kx2.to hB, ks.to hB⟩ ?_
        try simp only [Act.put, List.setIfInBounds_toArray, List.set_cons_zero, List.set_cons_succ]
        refine takeD 5 (some 46) (vP) rfl rfl (by kernel_rfl) (by kernel_rfl) (by kernel_rfl) (fun _ _ _ h => h) (.inl ⟨rfl, fun w' hS => by go_simp⟩) ⟨kx2.to hB, ks.to hB⟩ ?_
        try simp only [Act.put, List.setIfInBounds_toArray, List.set_cons_zero, List.set_cons_succ]
        refine takeD 6 (some 47) (vC) rfl rfl (by kernel_rfl) (by kernel_rfl) (by kernel_rfl) (fun _ _ _ h => h) (.inl ⟨rfl, fun w' hS => by go_simp⟩) ⟨kx2.to hB, ks.to hB⟩ ?_
        try simp only [Act.put, List.setIfInBounds_toArray, List.set_cons_zero, List.set_cons_succ]
        refine takeD 7 (some 48) (.int .i64 0) rfl rfl (by kernel_rfl) (by kernel_rfl) (by kernel_rfl) (fun _ _ _ h => h) (.inl ⟨rfl, fun w' hS => by go_simp⟩) ⟨kx2.to hB, ks.to hB⟩ ?_
        try simp only [Act.put, List.setIfInBounds_toArray, List.set_cons_zero, List.set_cons_succ]
        exact HK (wn26.heap.size, wd.heap.size, .bool true, AF, cF, vP, vC) _ ⟨kA, kB, hneAB, hgA, hgB, hvP, hvC, hnAP, hnBP, hnAC, hnBC, hB⟩
  clear hcf2 hcf3 hal
  rintro ⟨gQ, gD, vX, AF, cF, vP, vC⟩ W ⟨kQ, kD, hneAB, hgA, hgB, hvP, hvC, hnAP, hnBP, hnAC, hnBC, hB⟩
  simp only at kQ kD hneAB hgA hgB hvP hvC hnAP hnBP hnAC hnBC
  obtain ⟨AQ, cQ, LQ, clQ, BQ, dQ, rfl⟩ := hvP.cells
  obtain ⟨AD, cD, LD, clD, BD, dD, rfl⟩ := hvC.cells
  simp only at hvP hvC hnAP hnBP hnAC hnBC ⊢
  simp only [Act.put, List.setIfInBounds_toArray, List.set_cons_zero, List.set_cons_succ]
  have k9_kx2 := kx2.to hB
  have k9_ks := ks.to hB
  refine wpAnyH_all (rs := [10]) (by kernel_rfl) (by simp) (fun i hiR => ?_)
  obtain rfl : i = 10 := by simpa using hiR
  have kN := kQ.row #[.slice AQ rsQ.length cQ, .int .i64 rQ, .slice LQ lsQ.length clQ, .slice BQ esQ.length dQ]
  have kO := kD.rowfar hneAB.symm #[.slice AQ rsQ.length cQ, .int .i64 rQ, .slice LQ lsQ.length clQ, .slice BQ esQ.length dQ]
  have hBn := below_row hB hgA #[.slice AQ rsQ.length cQ, .int .i64 rQ, .slice LQ lsQ.length clQ, .slice BQ esQ.length dQ]
  have nP := hvP.rowfar hnAP #[.slice AQ rsQ.length cQ, .int .i64 rQ, .slice LQ lsQ.length clQ, .slice BQ esQ.length dQ]
  have nC := hvC.rowfar hnAC #[.slice AQ rsQ.length cQ, .int .i64 rQ, .slice LQ lsQ.length clQ, .slice BQ esQ.length dQ]
  have n9_kx2 := k9_kx2.rowfar (show gB ≠ gQ by omega) #[.slice AQ rsQ.length cQ, .int .i64 rQ, .slice LQ lsQ.length clQ, .slice BQ esQ.length dQ]
  have n9_ks := k9_ks.rowfar (show w1.heap.size ≠ gQ by omega) #[.slice AQ rsQ.length cQ, .int .i64 rQ, .slice LQ lsQ.length clQ, .slice BQ esQ.length dQ]
  refine storeD 10 rfl rfl rfl 28 _ _ rfl gQ #[.slice AQ rsQ.length cQ, .int .i64 rQ, .slice LQ lsQ.length clQ, .slice BQ esQ.length dQ] rfl rfl 28 _ kQ (by kernel_rfl) rfl (all_oneCell_toArray (fun v hv => by simp at hv; rcases hv with rfl | rfl | rfl | rfl <;> rfl)) ⟨⟨n9_kx2, n9_ks⟩, ?_⟩
  generalize World.setRow W gQ #[.slice AQ rsQ.length cQ, .int .i64 rQ, .slice LQ lsQ.length clQ, .slice BQ esQ.length dQ] = wz35 at *
  replace kQ := kN
  replace kD := kO
  replace hB := hBn
  replace hvP := nP
  replace hvC := nC
  replace k9_kx2 := n9_kx2
  replace k9_ks := n9_ks
  clear kN kO hBn nP nC n9_kx2 n9_ks
  try simp only [Act.put, List.setIfInBounds_toArray, List.set_cons_zero, List.set_cons_succ]
  refine wpAnyH_all (rs := [11]) (by kernel_rfl) (by simp) (fun i hiR => ?_)
  obtain rfl : i = 11 := by simpa using hiR
  have kN := kD.row #[.slice AD rsD.length cD, .int .i64 rD, .slice LD lsD.length clD, .slice BD esD.length dD]
  have kO := kQ.rowfar hneAB #[.slice AD rsD.length cD, .int .i64 rD, .slice LD lsD.length clD, .slice BD esD.length dD]
  have hBn := below_row hB hgB #[.slice AD rsD.length cD, .int .i64 rD, .slice LD lsD.length clD, .slice BD esD.length dD]
  have nP := hvP.rowfar hnBP #[.slice AD rsD.length cD, .int .i64 rD, .slice LD lsD.length clD, .slice BD esD.length dD]
  have nC := hvC.rowfar hnBC #[.slice AD rsD.length cD, .int .i64 rD, .slice LD lsD.length clD, .slice BD esD.length dD]
  have n9_kx2 := k9_kx2.rowfar (show gB ≠ gD by omega) #[.slice AD rsD.length cD, .int .i64 rD, .slice LD lsD.length clD, .slice BD esD.length dD]
  have n9_ks := k9_ks.rowfar (show w1.heap.size ≠ gD by omega) #[.slice AD rsD.length cD, .int .i64 rD, .slice LD lsD.length clD, .slice BD esD.length dD]
  refine storeD 11 rfl rfl rfl 28 _ _ rfl gD #[.slice AD rsD.length cD, .int .i64 rD, .slice LD lsD.length clD, .slice BD esD.length dD] rfl rfl 28 _ kD (by kernel_rfl) rfl (all_oneCell_toArray (fun v hv => by simp at hv; rcases hv with rfl | rfl | rfl | rfl <;> rfl)) ⟨⟨n9_kx2, n9_ks⟩, ?_⟩
  generalize World.setRow wz35 gD #[.slice AD rsD.length cD, .int .i64 rD, .slice LD lsD.length clD, .slice BD esD.length dD] = wz36 at *
  replace kD := kN
  replace kQ := kO
  replace hB := hBn
  replace hvP := nP
  replace hvC := nC
  replace k9_kx2 := n9_kx2
  replace k9_ks := n9_ks
  clear kN kO hBn nP nC n9_kx2 n9_ks
  try simp only [Act.put, List.setIfInBounds_toArray, List.set_cons_zero, List.set_cons_succ]
  refine takeD 12 (some 6) (.int .i64 0) rfl rfl (by kernel_rfl) (by kernel_rfl) (by kernel_rfl) (fun _ _ _ h => h) (.inl ⟨rfl, fun w' hS => by go_simp⟩) ⟨k9_kx2, k9_ks⟩ ?_
  try simp only [Act.put, List.setIfInBounds_toArray, List.set_cons_zero, List.set_cons_succ]
  clear k9_kx2 l9_kx2 k9_ks l9_ks hnAP hnBP hnAC hnBC hd hneAB hgA hgB hiR
  refine wpAnyH_done (by kernel_rfl) ?_ _
  replace hvS := hvS.to hB
  replace hvA := hvA.to hB
  replace hvB := hvB.to hB
  replace ks := ks.to hB
  replace kx1 := kx1.to hB
  replace kx2 := kx2.to hB
  replace hL := hL.below hB
  replace hB0 := bnext hB0 hB
  clear hB
  have hvD := hvC
  clear hvC hvP kQ
  clear HFr2 HFk2 hu hw_d
  try go_frame
  obtain ⟨c_ks, f_ks, l_ks⟩ := ks.facts
  obtain ⟨c_kx1, f_kx1, l_kx1⟩ := kx1.facts
  obtain ⟨c_kx2, f_kx2, l_kx2⟩ := kx2.facts
  obtain ⟨c_kD, f_kD, l_kD⟩ := kD.facts
  go_wp2_with fail
  clear c_ks f_ks l_ks
  clear c_kx1 f_kx1 l_kx1
  clear c_kx2 f_kx2 l_kx2
  clear c_kD f_kD l_kD
  refine (HCD.out _ _ hvD).mono ?_
  rintro e w5 ⟨rfl, hb5⟩
  replace hvS := hvS.to hb5
  replace hvA := hvA.to hb5
  replace hvB := hvB.to hb5
  replace hvD := hvD.to hb5
  replace ks := ks.to hb5
  replace kx1 := kx1.to hb5
  replace kx2 := kx2.to hb5
  replace kD := kD.to hb5
  replace hL := hL.below hb5
  replace hB0 := bnext hB0 hb5
  clear hb5
  obtain ⟨c_ks, f_ks, l_ks⟩ := ks.facts
  obtain ⟨c_kx1, f_kx1, l_kx1⟩ := kx1.facts
  obtain ⟨c_kx2, f_kx2, l_kx2⟩ := kx2.facts
  obtain ⟨c_kD, f_kD, l_kD⟩ := kD.facts
  go_wp2_with fail
  clear c_ks f_ks l_ks
  clear c_kx1 f_kx1 l_kx1
  clear c_kx2 f_kx2 l_kx2
  clear c_kD f_kD l_kD
  have kl := Bk.new w5 #[.slice AA rsP.length cA, .int .i64 rP, .slice LA lsP.length clA, .slice BA esP.length dA, .slice AB rsC.length cB, .int .i64 rC, .slice LB lsC.length clB, .slice BB esC.length dB, .slice AD rsD.length cD, .int .i64 rD, .slice LD lsD.length clD, .slice BD esD.length dD] 28
  have hcN := balloc (Below.refl _ w5) (.cells #[.slice AA rsP.length cA, .int .i64 rP, .slice LA lsP.length clA, .slice BA esP.length dA, .slice AB rsC.length cB, .int .i64 rC, .slice LB lsC.length clB, .slice BB esC.length dB, .slice AD rsD.length cD, .int .i64 rD, .slice LD lsD.length clD, .slice BD esD.length dD] 28)
  generalize w5.alloc (.cells #[.slice AA rsP.length cA, .int .i64 rP, .slice LA lsP.length clA, .slice BA esP.length dA, .slice AB rsC.length cB, .int .i64 rC, .slice LB lsC.length clB, .slice BB esC.length dB, .slice AD rsD.length cD, .int .i64 rD, .slice LD lsD.length clD, .slice BD esD.length dD] 28) = w6 at *
  replace hvS := hvS.to hcN
  replace hvA := hvA.to hcN
  replace hvB := hvB.to hcN
  replace hvD := hvD.to hcN
  replace ks := ks.to hcN
  replace kx1 := kx1.to hcN
  replace kx2 := kx2.to hcN
  replace kD := kD.to hcN
  replace hL := hL.below hcN
  replace hB0 := bnext hB0 hcN
  clear hcN
  have hSp := sps_three (a := (rsP, rP, lsP, esP)) (b := (rsC, rC, lsC, esC)) (c := (rsD, rD, lsD, esD)) kl hvA hvB hvD
  clear kl kx1 kx2 kD hvA hvB hvD
  go_loopw [61] (fun i wr => ShwI 3 w6 i wr) (fun i _ => 3 - (intOf i).toNat)
  case atStart => exact ⟨0, by omega, rfl, Below.refl _ _⟩
  case round =>
    obtain ⟨k, hk, rfl, hBx⟩ := hrel
    by_cases hlt : k < 3
    · have hkI : (k : Int) < 3 := by omega
      have hkN : (0 : Int) ≤ k := by omega
      obtain ⟨b, off, A', c', L, cl, B, d, hbe, x0, x1, x2, x3, hv⟩ := (hSp.to hBx).get (k := k) hlt
      injection hbe with hbe
      injection hbe with hb1 hb2
      subst hb1 hb2
      have hX := HX.out k hlt
      generalize [(rsP, rP, lsP, esP), (rsC, rC, lsC, esC), (rsD, rD, lsD, esD)].getD k sp0 = sX at *
      obtain ⟨rsX, rX, lsX, esX⟩ := sX
      obtain ⟨hXl, hXs, hXt, hX64, hXsm, hXd, hXn⟩ := hX
      simp only at hXl hXs hXt hX64 hXn x0 x1 x2 x3 hv
      simp only [Nat.zero_add] at x0 x1 x2 x3
      have HSm := Lib.hid (fun v v2 W h h2 hl => fSame_any rs 10 ls es v rsX rX lsX esX v2 W h h2 (by have := Hrl.out; omega) (by omega) Hsm.out hXs hl)
      rw [hXsm] at HSm
      have HDf := Lib.hid (fun v v2 W h h2 hl => fDiffer_any rsX rX lsX esX v rs 10 ls es v2 W h h2 (by omega) (by have := Hrl.out; omega) hXs Hsm.out hl)
      rw [hXd] at HDf
      obtain ⟨_, _, _, _, _, _, e', -, -, hrX, -⟩ := id hv
      simp only [spcV, Value.agg.injEq, Array.mk.injEq, List.cons.injEq, Value.slice.injEq] at e'
      obtain ⟨⟨rfl, -, rfl⟩, -, ⟨rfl, -, rfl⟩, ⟨rfl, -, rfl⟩, -⟩ := e'
      simp only at hrX
      have HX64 := Lib.hid hX64
      have HXs := Lib.hid hXs
      have HXt := Lib.hid hXt
      have HXn := Lib.hid hXn
      have hvS9 := hvS.to hBx
      have ks9 := ks.to hBx
      have hL9 := hL.below hBx
      clear hXl hXs hXt hX64 hXsm hXd hXn hSp
      go_upto_region 11 with fail
      have kx := Bk.new wr #[.slice A' rsX.length c', .int .i64 rX, .slice L lsX.length cl, .slice B esX.length d] 28
      have hcN := balloc (Below.refl _ wr) (.cells #[.slice A' rsX.length c', .int .i64 rX, .slice L lsX.length cl, .slice B esX.length d] 28)
      generalize wr.alloc (.cells #[.slice A' rsX.length c', .int .i64 rX, .slice L lsX.length cl, .slice B esX.length d] 28) = wx at *
      replace hv := hv.to hcN
      replace hvS9 := hvS9.to hcN
      replace ks9 := ks9.to hcN
      replace hL9 := hL9.below hcN
      replace hBx := bnext hBx hcN
      replace hrX := hrX.below hcN (Nat.le_refl _)
      clear hcN x0 x1 x2 x3
      obtain ⟨c_s, f_s, l_s⟩ := ks9.facts
      obtain ⟨c_x, f_x, l_x⟩ := kx.facts
      go_wp2_with fail
      clear c_s f_s l_s c_x f_x l_x
      refine (HSm.out _ _ _ hvS9 hv hL9).mono ?_
      rintro e w5K ⟨rfl, hb5⟩
      replace kx := kx.to hb5
      replace hv := hv.to hb5
      replace hvS9 := hvS9.to hb5
      replace ks9 := ks9.to hb5
      replace hL9 := hL9.below hb5
      replace hBx := bnext hBx hb5
      replace hrX := hrX.below hb5 (Nat.le_refl _)
      clear hb5 HSm
      obtain ⟨c_s, f_s, l_s⟩ := ks9.facts
      obtain ⟨c_x, f_x, l_x⟩ := kx.facts
      go_wp2_with fail
      clear c_s f_s l_s c_x f_x l_x
      refine (HDf.out _ _ _ hv hvS9 hL9).mono ?_
      rintro e w6K ⟨vd, rfl, ⟨AJ, cJ, rfl, -⟩, hb6⟩
      replace kx := kx.to hb6
      replace hBx := bnext hBx hb6
      replace hrX := hrX.below hb6 (Nat.le_refl _)
      clear hb6 HDf hv hvS9 ks9 hL9
      have h64 := HX64.out
      rw [h64] at hrX kx
      clear h64
      go_wp2_with fail
      go_loopw [15] (fun i wy => ShwI 64 w6K i wy) (fun i _ => 64 - (intOf i).toNat)
      case atStart => exact ⟨0, by omega, rfl, Below.refl _ _⟩
      case round =>
        obtain ⟨p, hp, rfl, hBy⟩ := hrel
        by_cases hlp : p < 64
        · have hpI : (p : Int) < 64 := by omega
          have hpN : (0 : Int) ≤ p := by omega
          obtain ⟨bS, oS, rfl, hcS⟩ := word_at hrX HX64.out hlp
          replace hcS := cell_later hBy hcS
          rcases hee : entP esX p with ⟨k1, n1, a1, b1, d1⟩
          have hw := HXn.out p hlp
          rw [hee] at hw
          simp only at hw
          subst hw
          have hx := getD_small28 HXs.out HX64.out p hlp
          have hu : unpR (esX.getD p 0) = ((k1, n1, false, b1, d1), 0) := Prod.ext hee (unp_in HXt.out p hlp)
          have HU := Lib.hid (fun W => rUnpack_any (esX.getD p 0) W hx)
          rw [hu] at HU
          generalize esX.getD p 0 = x at *
          have kxr := kx.to hBy
          clear hu hee hx hrX
          obtain ⟨c_x, f_x, l_x⟩ := kxr.facts
          go_wp2_with fail
          refine (HU.out _).mono ?_
          rintro e w7K ⟨rfl, hb7⟩
          replace hBy := bnext hBy hb7
          clear c_x f_x l_x kxr hcS HU hb7
          go_upto_region 19 with fail
          have kE := Bk.new w7K #[.int .i64 k1, .int .i64 n1, .bool false, .bool b1, .bool d1] 52
          have hcN := balloc (Below.refl _ w7K) (.cells #[.int .i64 k1, .int .i64 n1, .bool false, .bool b1, .bool d1] 52)
          generalize w7K.alloc (.cells #[.int .i64 k1, .int .i64 n1, .bool false, .bool b1, .bool d1] 52) = w8K at *
          replace hBy := bnext hBy hcN
          clear hcN
          obtain ⟨c_e, f_e, l_e⟩ := kE.facts
          go_wp2_with fail
          go_roundw
          case rel => exact ⟨p + 1, by omega, by go_num, hBy⟩
          case measure => simp [intOf]; omega
        · obtain rfl : p = 64 := by omega
          go_wp2_with fail
          go_roundw
          case rel => exact ⟨k + 1, by omega, by go_num, bnext hBx hBy⟩
          case measure => simp [intOf]; omega
    · obtain rfl : k = 3 := by omega
      replace hL := hL.below hBx
      go_wp2_with fail
      refine (awake28_any _ hL).mono ?_
      rintro e w8K ⟨rfl, hb8⟩
      go_wp2_with fail
      go_ret
      exact ⟨rfl, bnext (bnext hB0 hBx) hb8⟩
end Go.Proofs.YtmjahjdnfijpkaaDoor
