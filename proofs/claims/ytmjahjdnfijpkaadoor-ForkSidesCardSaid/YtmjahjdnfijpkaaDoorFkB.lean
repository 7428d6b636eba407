/- fork.Fork returns both sides. -/
import Derived.Test.YtmjahjdnfijpkaaDoorHD
import Derived.Test.YtmjahjdnfijpkaaDoorFkA
import Derived.Test.YtmjahjdnfijpkaaDoorHK
import Derived.Deep.RegionLaw
import Derived.Deep.RegionHeld3
import Derived.Deep.DeepCutAuto
namespace Go.Proofs.YtmjahjdnfijpkaaDoor
open Go Go.Proofs Go.RowKit
set_option linter.unusedSimpArgs false
set_option linter.unusedVariables false
set_option maxRecDepth 100000

theorem drop_cons {fr : List Int} {k : Nat} (h : k < fr.length) : fr.drop k = fr.getD k 0 :: fr.drop (k + 1) := by
  rw [List.drop_eq_getElem_cons h, List.getD_eq_getElem?_getD, List.getElem?_eq_getElem h]
  rfl
/-- The slices of a table lie behind RP, and not in TP. -/
def TLocN (RP TP : Nat) (v : Value) : Prop := ∀ r A n c B m d, v = tabV r A n c B m d → (∀ b off, 0 < n → A = some ⟨b, off, none⟩ → RP < b ∧ b ≠ TP) ∧ (∀ b off, 0 < m → B = some ⟨b, off, none⟩ → RP < b ∧ b ≠ TP)
theorem TLocN.far {RP TP : Nat} {v : Value} {t : Tb} {W : World} (hl : TLocN RP TP v) (h : TbV W v t) {p : Addr} (hp : p.block ≤ RP ∨ p.block = TP) (u : Value) : TbV (W.setCell p u) v t := by
  obtain ⟨A, c, B, d, rfl, h1, h2, h3⟩ := h
  obtain ⟨l1, l2⟩ := hl _ _ _ _ _ _ _ rfl
  exact ⟨A, c, B, d, rfl, h1.far (fun b off h0 e => by have := l1 b off h0 e; omega) u, h2.far (fun b off h0 e => by have := l2 b off h0 e; omega) u, h3⟩
theorem TLocN.of {RP TP lo : Nat} {v : Value} (h : TLoc lo v) (h1 : RP < lo) (h2 : TP < lo) : TLocN RP TP v := fun r A n c B m d e => by
  obtain ⟨l1, l2⟩ := h r A n c B m d e
  exact ⟨fun b off h0 e => by have := l1 b off h0 e; omega, fun b off h0 e => by have := l2 b off h0 e; omega⟩
theorem TLocN.new {RP lo : Nat} {v : Value} {t : Tb} {W : World} (h : TLoc lo v) (hv : TbV W v t) (h1 : RP < lo) : TLocN RP W.heap.size v := fun r A n c B m d e => by
  obtain ⟨l1, l2⟩ := h r A n c B m d e
  obtain ⟨A', c', B', d', e', k1, k2, _⟩ := hv
  rw [e] at e'
  simp only [tabV, Value.agg.injEq, Array.mk.injEq, List.cons.injEq, Value.slice.injEq] at e'
  obtain ⟨_, ⟨rfl, rfl, _⟩, ⟨rfl, rfl, _⟩, _⟩ := e'
  refine ⟨fun b off h0 e => ?_, fun b off h0 e => ?_⟩
  · have := l1 b off h0 e
    obtain ⟨b', o', e2, hb, _⟩ := k1.2 h0
    rw [e] at e2
    injection e2 with e2
    injection e2 with e2
    omega
  · have := l2 b off h0 e
    obtain ⟨b', o', e2, hb, _⟩ := k2.2 h0
    rw [e] at e2
    injection e2 with e2
    injection e2 with e2
    omega
/-- The child's table in its box. -/
def ChB (W : World) (RP TP : Nat) (r : Int) (ls : List Int) (es : List Nat) : Prop := ∃ A c B d, Bk W TP #[.int .i64 r, .slice A 8 c, .slice B 64 d] 26 ∧ TbV W (.agg #[.int .i64 r, .slice A 8 c, .slice B 64 d]) (r, ls, es) ∧ TLocN RP TP (.agg #[.int .i64 r, .slice A 8 c, .slice B 64 d])

theorem own_cap {W : World} {base sz n m c : Nat} {e : TypeId} {A : Option Addr} {xs : List Value} (h : W.ownsRow base e sz (.slice A m c) n xs) (h0 : 0 < n) : n ≤ c := by
  rcases h.2 with ⟨_, h1⟩ | ⟨g2, cap2, cur, h1, _, _, hnc, _⟩
  · omega
  · injection h1 with _ _ h3
    omega
/-- A slice that reads as xs and lies behind RP, and not in TP. -/
def RdL (RP TP : Nat) (W : World) (sz : Nat) (A : Option Addr) (n : Nat) (xs : List Value) : Prop := Rd W sz A n xs ∧ ∀ b off, 0 < n → A = some ⟨b, off, none⟩ → RP < b ∧ b ≠ TP
theorem RdL.to {RP TP sz n : Nat} {W W' : World} {A : Option Addr} {xs : List Value} (h : RdL RP TP W sz A n xs) (hb : Below W.heap.size W W') : RdL RP TP W' sz A n xs := ⟨h.1.below hb (Nat.le_refl _), h.2⟩
theorem RdL.far {RP TP sz n : Nat} {W : World} {A : Option Addr} {xs : List Value} (h : RdL RP TP W sz A n xs) {p : Addr} (hp : p.block ≤ RP ∨ p.block = TP) (u : Value) : RdL RP TP (W.setCell p u) sz A n xs :=
  ⟨h.1.far (fun b off h0 e => by have := h.2 b off h0 e; omega) u, h.2⟩
theorem RdL.own {RP TP base sz n c : Nat} {W : World} {A : Option Addr} {e : TypeId} {xs : List Value} (h : W.ownsRow base e sz (.slice A n c) n xs) (h1 : RP < base) (h2 : TP < base) : RdL RP TP W sz A n xs :=
  ⟨Rd.own h, fun b off _ e => by have := own_loc2 h b off none e; omega⟩

set_option maxHeartbeats 4000000 in
theorem Fork_ok (rs : List (Int × Int)) (r : Int) (ls : List Int) (es : List Nat) (v : Value) (fr : List Int) (F : Option Addr) (cf : Nat) (w : World) (hv : SpV w v (rs, r, ls, es)) (hn : rs.length ≤ 1000000) (hs : wsmall es) (hL : LayOK w) (hF : Rd w 1 F fr.length (iw fr)) (hcf : fr.length ≤ cf) (hfn : fr.length ≤ 1000) (hE : forE (rs, r, ls, es) fr = 0) :
    Calls Tryd.prog 16 #[v, .slice F fr.length cf] w fun e w' => FkRes w w' (parS (rs, r, ls, es)) (chiS (rs, r, ls, es) fr) 0 e := by
  obtain ⟨hR, hE2⟩ := orE_zero hE
  obtain ⟨hc, hfit⟩ := orE_zero hE2
  have hc : fr.length = neeN ls := by
    refine Classical.byContradiction fun h => ?_
    rw [if_neg h] at hc
    exact absurd hc (by decide)
  obtain ⟨hok, _⟩ := fit_ok hfit hc
  have hT := (spc_zero (roo_zero hR).1).2.1
  simp only at hT hok
  have h8 := (tab_zero hT).1
  have h64 := (tab_zero hT).2.1
  obtain ⟨A, c, L, cl, B, d, hve, hA, hLs, hB, hcc⟩ := id hv
  subst hve
  unfold spcV at hv ⊢
  simp only at hv ⊢ hA hLs hB hcc
  have hN2 : neeR (rs, r, ls, es) = ((fr.length : Int), 0) := by unfold neeR; rw [if_neg (by simpa using hR), hc]
  have HN := Lib.hid (fun W (hb : Below w.heap.size w W) => Needs_any rs r ls es _ W (hv.to hb) hn hs (hL.below hb))
  rw [hN2] at HN
  have HFt := Lib.hid (fun W (hb : Below w.heap.size w W) => fits_any rs r ls es _ fr F cf W (hv.to hb) hs (hL.below hb) hR (hF.below hb (Nat.le_refl _)) hfn)
  rw [hfit] at HFt
  have HSd := Lib.hid (fun W (hb : Below w.heap.size w W) => sides_any rs r ls es _ W (hv.to hb) hs (hL.below hb) hT)
  have HOK := Lib.hid hok
  have H8 := Lib.hid h8
  have H64 := Lib.hid h64
  have HLy := Lib.hid hL
  have HLm := Lib.hid hLs
  have HAm := Lib.hid hA
  have h0 : 0 < fr.length := by rw [hc]; unfold neeN; omega
  rw [h8] at HN HFt HSd HLm ⊢
  rw [h64] at HN HFt HSd ⊢
  have kS := ((Bk.new w #[.slice A rs.length c, .int .i64 r, .slice L 8 cl, .slice B 64 d] 28).alloc (.cells #[.slice none 0 0, .int .i64 0, .slice none 0 0, .slice none 0 0] 28)).alloc (.cells #[.slice none 0 0, .int .i64 0, .slice none 0 0, .slice none 0 0] 28)
  have kR := (Bk.new (w.alloc (.cells #[.slice A rs.length c, .int .i64 r, .slice L 8 cl, .slice B 64 d] 28)) #[.slice none 0 0, .int .i64 0, .slice none 0 0, .slice none 0 0] 28).alloc (.cells #[.slice none 0 0, .int .i64 0, .slice none 0 0, .slice none 0 0] 28)
  have kH := Bk.new ((w.alloc (.cells #[.slice A rs.length c, .int .i64 r, .slice L 8 cl, .slice B 64 d] 28)).alloc (.cells #[.slice none 0 0, .int .i64 0, .slice none 0 0, .slice none 0 0] 28)) #[.slice none 0 0, .int .i64 0, .slice none 0 0, .slice none 0 0] 28
  simp only [World.size_alloc] at kR kH
  have hB1 := balloc (balloc (balloc (Below.refl _ w) (.cells #[.slice A rs.length c, .int .i64 r, .slice L 8 cl, .slice B 64 d] 28)) (.cells #[.slice none 0 0, .int .i64 0, .slice none 0 0, .slice none 0 0] 28)) (.cells #[.slice none 0 0, .int .i64 0, .slice none 0 0, .slice none 0 0] 28)
  generalize hw1 : ((w.alloc (.cells #[.slice A rs.length c, .int .i64 r, .slice L 8 cl, .slice B 64 d] 28)).alloc (.cells #[.slice none 0 0, .int .i64 0, .slice none 0 0, .slice none 0 0] 28)).alloc (.cells #[.slice none 0 0, .int .i64 0, .slice none 0 0, .slice none 0 0] 28) = w1 at *
  have hlF : ∀ b o, 0 < fr.length → F = some ⟨b, o, none⟩ → b < w.heap.size := fun b o hp e => by
    obtain ⟨b', o', e', hb', _⟩ := hF.2 hp
    rw [e] at e'
    injection e' with e'
    injection e' with e1
    omega
  have HlF := Lib.hid hlF
  have HFm := Lib.hid hF
  have HPS : Hid (parS (rs, r, ls, es) = (rs, r, ls, es.map parW)) := Lib.hid rfl
  have HCS : Hid (chiS (rs, r, ls, es) fr = (rs, fr.getD 0 0, chiL fr ls, es.map chiW)) := Lib.hid rfl
  generalize parS (rs, r, ls, es) = sP at *
  generalize chiS (rs, r, ls, es) fr = sC at *
  obtain ⟨n, hnn⟩ : ∃ n, n = fr.length := ⟨_, rfl⟩
  rw [← hnn] at HN HFt h0 hcf hfn ⊢
  have HNN := Lib.hid hnn
  clear hR hE hE2 hc hfit hok hT h8 h64 hlF hF hv hnn hLs hB hcc hL hA hN2
  obtain ⟨cS, fS, lS⟩ := kS.facts
  go_enter Tryd.func16, Tryd.ntmps16
  go_wp2_with fail
  refine (HN.out _ hB1).mono ?_
  rintro e w2 ⟨rfl, hb2⟩
  replace kS := kS.to hb2
  replace kR := kR.to hb2
  replace kH := kH.to hb2
  replace hB1 := bnext hB1 hb2
  clear cS fS lS hb2 hw1
  obtain ⟨cS, fS, lS⟩ := kS.facts
  go_wp2_with fail
  refine (HFt.out _ hB1).mono ?_
  rintro e w3 ⟨rfl, hb3⟩
  replace kS := kS.to hb3
  replace kR := kR.to hb3
  replace kH := kH.to hb3
  replace hB1 := bnext hB1 hb3
  clear cS fS lS hb3
  go_upto_region 11 with fail
  have kP := Bk.new w3 #[.slice F n cf] 23
  have hcN := balloc (Below.refl _ w3) (.cells #[.slice F n cf] 23)
  have hs4 : (w3.alloc (.cells #[.slice F n cf] 23)).heap.size = w3.heap.size + 1 := by simp
  generalize w3.alloc (.cells #[.slice F n cf] 23) = w4 at *
  have hkH := kH.lt
  obtain ⟨RP, hRP⟩ : ∃ RP, RP = w3.heap.size := ⟨_, rfl⟩
  rw [← hRP] at kP hcN hs4 hkH ⊢
  replace kS := kS.below hcN (by omega)
  replace kR := kR.below hcN (by omega)
  replace kH := kH.below hcN (by omega)
  replace hB1 : Below w.heap.size w w4 := hB1.trans (hcN.mono (by omega))
  have HB4 := Lib.hid (show ∀ W, Below RP w4 W → Below w.heap.size w W from fun W h => hB1.trans (h.mono (by omega)))
  have hRest : RestI w4 RP w.heap.size fr := ⟨F, cf, by rw [← HNN.out]; exact kP, by rw [← HNN.out]; exact hcf, HFm.out.below hB1 (Nat.le_refl _), HlF.out⟩
  have hd0 := drop_cons (fr := fr) (k := 0) (by rw [← HNN.out]; exact h0)
  rw [List.drop_zero] at hd0
  have hR4 : RP < w4.heap.size := by omega
  have hwR : w.heap.size + 1 + 1 < RP := hkH
  have hfr0 := HOK.out.rng 0 (by rw [← HNN.out]; exact h0)
  have hnew : newR (fr.getD 0 0) = ((fr.getD 0 0, List.replicate 8 (-1), List.replicate 64 0), 0) := by unfold newR badF; rw [if_neg (by omega)]
  rw [hd0] at hRest
  have HRest := Lib.hid (next_rest RP w.heap.size (fr.getD 0 0) (fr.drop 1) w4 hRest (by omega) (by rw [List.length_drop]; have := HNN.out; omega))
  have HNw := Lib.hid (fun W => TNew_any (fr.getD 0 0) W)
  rw [hnew] at HNw
  clear hs4 hRP hRest hd0 hnew hfr0 kP hcN
  generalize hf0 : fr.getD 0 0 = f0 at *
  have HF0 := Lib.hid hf0
  clear hf0
  go_wp2_with fail
  refine HRest.out.mono ?_
  rintro e w5 ⟨rfl, hR5, _, hb5⟩
  clear HRest
  have hs45 := hb5.size
  go_wp2_with fail
  refine (HNw.out _).mono ?_
  rintro e w6 ⟨v6, rfl, hv6, hl6, hb6⟩
  have hln6 := TLocN.new hl6 hv6 (show RP < w5.heap.size by omega)
  obtain ⟨A6, c6, B6, d6, rfl, _, _, _⟩ := id hv6
  simp only [tabV] at hv6 hln6 ⊢
  have hR6 := hR5.to hb6
  have hB6 : Below RP w4 w6 := hb5.trans (hb6.mono (by omega))
  have hs56 := hb6.size
  clear hl6 hR5 hb5 HNw
  go_upto_region 12 with fail
  have hv6' : TbV w6 (.agg #[.int .i64 f0, .slice A6 8 c6, .slice B6 64 d6]) (f0, chP fr ls 0, List.replicate 64 0) := by rw [chP_zero]; exact hv6
  have hln6' : TLocN RP w6.heap.size (.agg #[.int .i64 f0, .slice A6 8 c6, .slice B6 64 d6]) := hln6
  have kT := Bk.new w6 #[.int .i64 f0, .slice A6 8 c6, .slice B6 64 d6] 26
  have hcN := balloc (Below.refl _ w6) (.cells #[.int .i64 f0, .slice A6 8 c6, .slice B6 64 d6] 26)
  have hC7 : ChB _ RP w6.heap.size f0 (chP fr ls 0) (List.replicate 64 0) := ⟨A6, c6, B6, d6, kT, hv6'.to hcN, hln6'⟩
  have hs67 : (w6.alloc (.cells #[.int .i64 f0, .slice A6 8 c6, .slice B6 64 d6] 26)).heap.size = w6.heap.size + 1 := by simp
  generalize w6.alloc (.cells #[.int .i64 f0, .slice A6 8 c6, .slice B6 64 d6] 26) = w7 at *
  obtain ⟨TP, hTP⟩ : ∃ TP, TP = w6.heap.size := ⟨_, rfl⟩
  rw [← hTP] at hC7 ⊢
  have hR7 := hR6.to hcN
  have hB7 : Below RP w4 w7 := hB6.trans (hcN.mono (by omega))
  have hTR : RP < TP := by omega
  have hT7 : TP < w7.heap.size := by omega
  replace kS := kS.below hB7 (by omega)
  replace kR := kR.below hB7 (by omega)
  replace kH := kH.below hB7 (by omega)
  replace HB4 := Lib.hid (show ∀ W, Below RP w7 W → Below w.heap.size w W from fun W h => HB4.out _ (hB7.trans h))
  have hRs : fr.drop (1 + (frmL ls 0).length) = fr.drop 1 := rfl
  rw [← hRs] at hR7
  clear hRs hR6 hB6 hB7 hv6 hv6' hln6 hln6' kT hcN hs67 hTP hs45 hs56
  obtain ⟨cS, fS, lS⟩ := kS.facts
  go_wp2_with fail
  clear cS fS lS
  go_loopw [6, 52] (fun er i wr => ∃ k : Nat, k ≤ 8 ∧ i = .int .i64 k ∧ er = .int .i64 0 ∧ RestI wr RP w.heap.size (fr.drop (1 + (frmL ls k).length)) ∧ ChB wr RP TP f0 (chP fr ls k) (List.replicate 64 0) ∧ Below RP w7 wr ∧ TP < wr.heap.size) (fun _ i _ => 8 - (intOf i).toNat)
  case atStart => exact ⟨0, by omega, rfl, rfl, hR7, hC7, Below.refl _ _, hT7⟩
  case round =>
    obtain ⟨k, hk, rfl, rfl, hRk, hCk, hBx, hTk⟩ := hrel
    have hBw := HB4.out _ hBx
    by_cases hlt : k < 8
    · obtain ⟨g, off, z, rfl, hg, hz, hc⟩ := (HLm.out.below hBw (Nat.le_refl _)).numb hlt
      have HS := Lib.hid (cnt_succ ls H8.out k hlt)
      rw [hz] at HS
      by_cases hz1 : z = -1
      · have hz2' : (z != -1) = false := by simp [hz1]
        have HS2 : Hid ((frmL ls (k + 1)).length = (frmL ls k).length ∧ chP fr ls (k + 1) = chP fr ls k) := Lib.hid ⟨by rw [HS.out, if_pos hz1, Nat.add_zero], chP_skip fr ls k hlt (by rw [hz]; exact hz1)⟩
        clear hz1 hz HS
        go_wp2_with fail
        refine ⟨⟨k + 1, by omega, by go_num, rfl, by rw [HS2.out.1]; exact hRk, by rw [HS2.out.2]; exact hCk, hBx, hTk⟩, by simp [intOf]; omega⟩
      · have hz2' : (z != -1) = true := by simp [hz1]
        have hni : ls.getD k 0 ≠ -1 := by rw [hz]; exact hz1
        obtain ⟨_, hlen⟩ := chiA_idx H8.out HOK.out hlt hni
        have HS2 : Hid ((frmL ls (k + 1)).length = (frmL ls k).length + 1) := Lib.hid (by rw [HS.out, if_neg hz1])
        have hlf := chP_leaf H8.out HOK.out k hlt hni
        rw [HF0.out] at hlf
        rw [drop_cons hlen] at hRk
        have hdl : (fr.drop (1 + (frmL ls k).length + 1)).length ≤ 1000 := by rw [List.length_drop]; have := HNN.out; omega
        have hdd : fr.drop (1 + (frmL ls k).length + 1) = fr.drop (1 + (frmL ls (k + 1)).length) := by rw [HS2.out, Nat.add_assoc]
        rw [hdd] at hRk hdl
        generalize fr.getD (1 + (frmL ls k).length) 0 = zf at *
        generalize hgr : fr.drop (1 + (frmL ls (k + 1)).length) = rest at *
        have HGR := Lib.hid hgr
        clear hgr
        have HNx := Lib.hid (fun W h => next_rest RP w.heap.size zf rest W h (by omega) hdl)
        have hzs : wsmall (List.replicate 64 0) := by unfold wsmall; decide
        have HLf := Lib.hid (fun v W h hl => TSetLeaf_any f0 (chP fr ls k) (List.replicate 64 0) v k zf W h hzs hl)
        rw [hlf] at HLf
        have hp8 := chP_len fr ls k
        have hp8' := chP_len fr ls (k + 1)
        have HP8 := Lib.hid hp8
        have HP8' := Lib.hid hp8'
        obtain ⟨A7, c7, B7, d7, kT, hvT, hlT⟩ := hCk
        have t0 := kT.cell 0
        have t1 := kT.cell 1
        have t2 := kT.cell 2
        simp at t0 t1 t2
        have hkI : (k : Int) < 8 := by omega
        generalize chP fr ls k = lk at *
        generalize hgl : chP fr ls (k + 1) = lk1 at *
        have HGL := Lib.hid hgl
        clear hgl
        clear hz1 hz HS hni hlen hlf hdd hzs hp8 hp8' hdl
        go_upto_region 16 with fail
        have hTPne : TP ≠ RP := by omega
        have hTPne' : RP ≠ TP := by omega
        go_region_law
          (first
            | (go_simp; go_at_call 46; refine (HNx.out _ (by repeat (with_reducible first | exact hRk | refine RestI.to ?_ (below_drew (Below.refl _ _))))).mono ?_; rintro e wP ⟨rfl, hRP, ⟨uP, rfl⟩, hbP⟩)
            | (go_simp; go_at_call 48; have _h := hbP
               refine (HLf.out _ _ (hlT.far (hvT.to (below_drew (Below.refl _ _))) (p := ⟨RP, 0, none⟩) (.inl (Nat.le_refl _)) uP) (HLy.out.below (HB4.out _ ((below_drew hBx).trans hbP)))).mono ?_
               rintro e wQ ⟨vQ, rfl, hvQ, hlQ, hbQ⟩
               have kTQ := (kT.drew.far (p := ⟨RP, 0, none⟩) (by show TP ≠ RP; omega) uP).to hbQ
               obtain ⟨AQ, cQ, BQ, dQ, rfl, _, _, _⟩ := id hvQ
               simp only [tabV, HP8'.out, List.length_replicate] at hvQ hlQ ⊢
               obtain ⟨cT, fT, lT⟩ := kTQ.facts))
        all_goals
          go_wp2_with fail
          have hszQ : wr.heap.size ≤ wQ.heap.size := by have := hbQ.size; simpa using this
          have hlQ2 : TLocN RP TP (.agg #[.int .i64 f0, .slice AQ 8 cQ, .slice BQ 64 dQ]) := TLocN.of hlQ (by simp; omega) (by simp; omega)
          have hRQ := hRP.to hbQ
          have hBQ : Below RP w7 wQ := ((below_drew hBx).trans hbP).trans (hbQ.mono (by simp; omega))
          refine ⟨⟨k + 1, by omega, by go_num, rfl, ?_, ?_, ?_, by simp; omega⟩, by simp [intOf]; omega⟩
          · rw [HGR.out]; exact ((hRQ.far (p := ⟨TP, 0, none⟩) (by show RP ≠ TP; omega) (by show w.heap.size ≤ TP; omega) _).far (p := ⟨TP, 1, none⟩) (by show RP ≠ TP; omega) (by show w.heap.size ≤ TP; omega) _).far (p := ⟨TP, 2, none⟩) (by show RP ≠ TP; omega) (by show w.heap.size ≤ TP; omega) _
          · rw [HGL.out]; exact ⟨AQ, cQ, BQ, dQ, kTQ.put3 _ _ _, hlQ2.far (hlQ2.far (hlQ2.far hvQ (p := ⟨TP, 0, none⟩) (.inr rfl) _) (p := ⟨TP, 1, none⟩) (.inr rfl) _) (p := ⟨TP, 2, none⟩) (.inr rfl) _, hlQ2⟩
          · exact ((hBQ.setCell (p := ⟨TP, 0, none⟩) (by show RP ≤ TP; omega) _).setCell (p := ⟨TP, 1, none⟩) (by show RP ≤ TP; omega) _).setCell (p := ⟨TP, 2, none⟩) (by show RP ≤ TP; omega) _
    · obtain rfl : k = 8 := by omega
      rw [chP_all] at hCk
      have kS9 := kS.below hBx (by omega)
      have kR9 := kR.below hBx (by omega)
      have kH9 := kH.below hBx (by omega)
      have hm1 : (es.map parW).length = 64 := by rw [List.length_map]; exact H64.out
      have hm2 : (es.map chiW).length = 64 := by rw [List.length_map]; exact H64.out
      obtain ⟨wP, hwP⟩ : ∃ wP, wP = es.map parW := ⟨_, rfl⟩
      obtain ⟨wC, hwC⟩ : ∃ wC, wC = es.map chiW := ⟨_, rfl⟩
      rw [← hwP] at HSd HPS hm1
      rw [← hwC] at HSd HCS hm2
      have HM1 := Lib.hid hm1
      have HM2 := Lib.hid hm2
      have hz1 : (uw wP).toArray.size = 64 := by simp [uw_len, hm1]
      have hz2 : (uw wC).toArray.size = 64 := by simp [uw_len, hm2]
      have hl1 : (uw wP).length = 64 := by rw [uw_len]; exact hm1
      have hl2 : (uw wC).length = 64 := by rw [uw_len]; exact hm2
      have HRd1 : Hid (∀ (W : World) (P : Nat), Bk W P (uw wP).toArray 76 → Rd W 1 (some ⟨P, 0, none⟩) 64 (uw wP)) := Lib.hid (fun W P k => ⟨by omega, fun _ => ⟨P, 0, rfl, k.lt, fun j u hu => by rw [Nat.zero_add, k.cell j]; simpa using hu⟩⟩)
      have HRd2 : Hid (∀ (W : World) (P : Nat), Bk W P (uw wC).toArray 76 → Rd W 1 (some ⟨P, 0, none⟩) 64 (uw wC)) := Lib.hid (fun W P k => ⟨by omega, fun _ => ⟨P, 0, rfl, k.lt, fun j u hu => by rw [Nat.zero_add, k.cell j]; simpa using hu⟩⟩)
      clear hm1 hm2 hwP hwC
      obtain ⟨cS, fS, lS⟩ := kS9.facts
      go_wp2_with fail
      refine (HSd.out _ hBw).mono ?_
      rintro e w8 ⟨rfl, hb8⟩
      clear cS fS lS
      have kX := (Bk.new w8 #[.int .u64 0, .int .u64 0, .int .u64 0, .int .u64 0, .int .u64 0, .int .u64 0, .int .u64 0, .int .u64 0, .int .u64 0, .int .u64 0, .int .u64 0, .int .u64 0, .int .u64 0, .int .u64 0, .int .u64 0, .int .u64 0, .int .u64 0, .int .u64 0, .int .u64 0, .int .u64 0, .int .u64 0, .int .u64 0, .int .u64 0, .int .u64 0, .int .u64 0, .int .u64 0, .int .u64 0, .int .u64 0, .int .u64 0, .int .u64 0, .int .u64 0, .int .u64 0, .int .u64 0, .int .u64 0, .int .u64 0, .int .u64 0, .int .u64 0, .int .u64 0, .int .u64 0, .int .u64 0, .int .u64 0, .int .u64 0, .int .u64 0, .int .u64 0, .int .u64 0, .int .u64 0, .int .u64 0, .int .u64 0, .int .u64 0, .int .u64 0, .int .u64 0, .int .u64 0, .int .u64 0, .int .u64 0, .int .u64 0, .int .u64 0, .int .u64 0, .int .u64 0, .int .u64 0, .int .u64 0, .int .u64 0, .int .u64 0, .int .u64 0, .int .u64 0] 76).alloc (.cells #[.int .u64 0, .int .u64 0, .int .u64 0, .int .u64 0, .int .u64 0, .int .u64 0, .int .u64 0, .int .u64 0, .int .u64 0, .int .u64 0, .int .u64 0, .int .u64 0, .int .u64 0, .int .u64 0, .int .u64 0, .int .u64 0, .int .u64 0, .int .u64 0, .int .u64 0, .int .u64 0, .int .u64 0, .int .u64 0, .int .u64 0, .int .u64 0, .int .u64 0, .int .u64 0, .int .u64 0, .int .u64 0, .int .u64 0, .int .u64 0, .int .u64 0, .int .u64 0, .int .u64 0, .int .u64 0, .int .u64 0, .int .u64 0, .int .u64 0, .int .u64 0, .int .u64 0, .int .u64 0, .int .u64 0, .int .u64 0, .int .u64 0, .int .u64 0, .int .u64 0, .int .u64 0, .int .u64 0, .int .u64 0, .int .u64 0, .int .u64 0, .int .u64 0, .int .u64 0, .int .u64 0, .int .u64 0, .int .u64 0, .int .u64 0, .int .u64 0, .int .u64 0, .int .u64 0, .int .u64 0, .int .u64 0, .int .u64 0, .int .u64 0, .int .u64 0] 76)
      have kY := Bk.new (w8.alloc (.cells #[.int .u64 0, .int .u64 0, .int .u64 0, .int .u64 0, .int .u64 0, .int .u64 0, .int .u64 0, .int .u64 0, .int .u64 0, .int .u64 0, .int .u64 0, .int .u64 0, .int .u64 0, .int .u64 0, .int .u64 0, .int .u64 0, .int .u64 0, .int .u64 0, .int .u64 0, .int .u64 0, .int .u64 0, .int .u64 0, .int .u64 0, .int .u64 0, .int .u64 0, .int .u64 0, .int .u64 0, .int .u64 0, .int .u64 0, .int .u64 0, .int .u64 0, .int .u64 0, .int .u64 0, .int .u64 0, .int .u64 0, .int .u64 0, .int .u64 0, .int .u64 0, .int .u64 0, .int .u64 0, .int .u64 0, .int .u64 0, .int .u64 0, .int .u64 0, .int .u64 0, .int .u64 0, .int .u64 0, .int .u64 0, .int .u64 0, .int .u64 0, .int .u64 0, .int .u64 0, .int .u64 0, .int .u64 0, .int .u64 0, .int .u64 0, .int .u64 0, .int .u64 0, .int .u64 0, .int .u64 0, .int .u64 0, .int .u64 0, .int .u64 0, .int .u64 0] 76)) #[.int .u64 0, .int .u64 0, .int .u64 0, .int .u64 0, .int .u64 0, .int .u64 0, .int .u64 0, .int .u64 0, .int .u64 0, .int .u64 0, .int .u64 0, .int .u64 0, .int .u64 0, .int .u64 0, .int .u64 0, .int .u64 0, .int .u64 0, .int .u64 0, .int .u64 0, .int .u64 0, .int .u64 0, .int .u64 0, .int .u64 0, .int .u64 0, .int .u64 0, .int .u64 0, .int .u64 0, .int .u64 0, .int .u64 0, .int .u64 0, .int .u64 0, .int .u64 0, .int .u64 0, .int .u64 0, .int .u64 0, .int .u64 0, .int .u64 0, .int .u64 0, .int .u64 0, .int .u64 0, .int .u64 0, .int .u64 0, .int .u64 0, .int .u64 0, .int .u64 0, .int .u64 0, .int .u64 0, .int .u64 0, .int .u64 0, .int .u64 0, .int .u64 0, .int .u64 0, .int .u64 0, .int .u64 0, .int .u64 0, .int .u64 0, .int .u64 0, .int .u64 0, .int .u64 0, .int .u64 0, .int .u64 0, .int .u64 0, .int .u64 0, .int .u64 0] 76
      simp only [World.size_alloc] at kY
      have hbA := balloc (balloc (Below.refl _ w8) (.cells #[.int .u64 0, .int .u64 0, .int .u64 0, .int .u64 0, .int .u64 0, .int .u64 0, .int .u64 0, .int .u64 0, .int .u64 0, .int .u64 0, .int .u64 0, .int .u64 0, .int .u64 0, .int .u64 0, .int .u64 0, .int .u64 0, .int .u64 0, .int .u64 0, .int .u64 0, .int .u64 0, .int .u64 0, .int .u64 0, .int .u64 0, .int .u64 0, .int .u64 0, .int .u64 0, .int .u64 0, .int .u64 0, .int .u64 0, .int .u64 0, .int .u64 0, .int .u64 0, .int .u64 0, .int .u64 0, .int .u64 0, .int .u64 0, .int .u64 0, .int .u64 0, .int .u64 0, .int .u64 0, .int .u64 0, .int .u64 0, .int .u64 0, .int .u64 0, .int .u64 0, .int .u64 0, .int .u64 0, .int .u64 0, .int .u64 0, .int .u64 0, .int .u64 0, .int .u64 0, .int .u64 0, .int .u64 0, .int .u64 0, .int .u64 0, .int .u64 0, .int .u64 0, .int .u64 0, .int .u64 0, .int .u64 0, .int .u64 0, .int .u64 0, .int .u64 0] 76)) (.cells #[.int .u64 0, .int .u64 0, .int .u64 0, .int .u64 0, .int .u64 0, .int .u64 0, .int .u64 0, .int .u64 0, .int .u64 0, .int .u64 0, .int .u64 0, .int .u64 0, .int .u64 0, .int .u64 0, .int .u64 0, .int .u64 0, .int .u64 0, .int .u64 0, .int .u64 0, .int .u64 0, .int .u64 0, .int .u64 0, .int .u64 0, .int .u64 0, .int .u64 0, .int .u64 0, .int .u64 0, .int .u64 0, .int .u64 0, .int .u64 0, .int .u64 0, .int .u64 0, .int .u64 0, .int .u64 0, .int .u64 0, .int .u64 0, .int .u64 0, .int .u64 0, .int .u64 0, .int .u64 0, .int .u64 0, .int .u64 0, .int .u64 0, .int .u64 0, .int .u64 0, .int .u64 0, .int .u64 0, .int .u64 0, .int .u64 0, .int .u64 0, .int .u64 0, .int .u64 0, .int .u64 0, .int .u64 0, .int .u64 0, .int .u64 0, .int .u64 0, .int .u64 0, .int .u64 0, .int .u64 0, .int .u64 0, .int .u64 0, .int .u64 0, .int .u64 0] 76)
      generalize hwA : (w8.alloc (.cells #[.int .u64 0, .int .u64 0, .int .u64 0, .int .u64 0, .int .u64 0, .int .u64 0, .int .u64 0, .int .u64 0, .int .u64 0, .int .u64 0, .int .u64 0, .int .u64 0, .int .u64 0, .int .u64 0, .int .u64 0, .int .u64 0, .int .u64 0, .int .u64 0, .int .u64 0, .int .u64 0, .int .u64 0, .int .u64 0, .int .u64 0, .int .u64 0, .int .u64 0, .int .u64 0, .int .u64 0, .int .u64 0, .int .u64 0, .int .u64 0, .int .u64 0, .int .u64 0, .int .u64 0, .int .u64 0, .int .u64 0, .int .u64 0, .int .u64 0, .int .u64 0, .int .u64 0, .int .u64 0, .int .u64 0, .int .u64 0, .int .u64 0, .int .u64 0, .int .u64 0, .int .u64 0, .int .u64 0, .int .u64 0, .int .u64 0, .int .u64 0, .int .u64 0, .int .u64 0, .int .u64 0, .int .u64 0, .int .u64 0, .int .u64 0, .int .u64 0, .int .u64 0, .int .u64 0, .int .u64 0, .int .u64 0, .int .u64 0, .int .u64 0, .int .u64 0] 76)).alloc (.cells #[.int .u64 0, .int .u64 0, .int .u64 0, .int .u64 0, .int .u64 0, .int .u64 0, .int .u64 0, .int .u64 0, .int .u64 0, .int .u64 0, .int .u64 0, .int .u64 0, .int .u64 0, .int .u64 0, .int .u64 0, .int .u64 0, .int .u64 0, .int .u64 0, .int .u64 0, .int .u64 0, .int .u64 0, .int .u64 0, .int .u64 0, .int .u64 0, .int .u64 0, .int .u64 0, .int .u64 0, .int .u64 0, .int .u64 0, .int .u64 0, .int .u64 0, .int .u64 0, .int .u64 0, .int .u64 0, .int .u64 0, .int .u64 0, .int .u64 0, .int .u64 0, .int .u64 0, .int .u64 0, .int .u64 0, .int .u64 0, .int .u64 0, .int .u64 0, .int .u64 0, .int .u64 0, .int .u64 0, .int .u64 0, .int .u64 0, .int .u64 0, .int .u64 0, .int .u64 0, .int .u64 0, .int .u64 0, .int .u64 0, .int .u64 0, .int .u64 0, .int .u64 0, .int .u64 0, .int .u64 0, .int .u64 0, .int .u64 0, .int .u64 0, .int .u64 0] 76) = wA at *
      have s1 := kX.storeC (P := Tryd.prog) 76 (uw wP).toArray (by rw [hz1]; kernel_rfl) (by rw [hz1]; rfl) (all_oneCell_toArray (oneCells_uw wP))
      have kX2 := kX.row (uw wP).toArray
      have kY2 := kY.rowfar (g := w8.heap.size) (by omega) (uw wP).toArray
      have hbB := below_row hbA (Nat.le_refl _) (uw wP).toArray
      generalize hwB : wA.setRow w8.heap.size (uw wP).toArray = wB at *
      have s2 := kY2.storeC (P := Tryd.prog) 76 (uw wC).toArray (by rw [hz2]; kernel_rfl) (by rw [hz2]; rfl) (all_oneCell_toArray (oneCells_uw wC))
      have kX3 := kX2.rowfar (g := w8.heap.size + 1) (by omega) (uw wC).toArray
      have kY3 := kY2.row (uw wC).toArray
      have hbC := below_row hbB (Nat.le_succ _) (uw wC).toArray
      generalize hwC : wB.setRow (w8.heap.size + 1) (uw wC).toArray = wD at *
      simp only at s1 s2
      clear hz1 hz2 kX kY kX2 kY2 hbA hbB hwB hwC
      go_upto_region 21 with fail
      -- TAIL
      obtain ⟨A7, c7, B7, d7, kT, hvT, hlT⟩ := hCk
      have hs8 := hb8.size
      have hsD := hbC.size
      have kS := (kS9.to hb8).below hbC (by omega)
      have kR := (kR9.to hb8).below hbC (by omega)
      have kH := (kH9.to hb8).below hbC (by omega)
      replace kT := (kT.to hb8).below hbC (by omega)
      have kX := kX3
      have hcl : RdL RP TP wr 1 A7 8 (iw (chiL fr ls)) := by
        have hl8 : (chiL fr ls).length = 8 := by simp [chiL]
        obtain ⟨hlA, _⟩ := hlT _ _ _ _ _ _ _ rfl
        obtain ⟨_, _, _, _, e', q1, _, _⟩ := hvT
        simp only [tabV, Value.agg.injEq, Array.mk.injEq, List.cons.injEq, Value.slice.injEq] at e'
        obtain ⟨_, ⟨rfl, _, rfl⟩, _⟩ := e'
        rw [hl8] at q1
        exact ⟨q1, hlA⟩
      replace hcl := (hcl.to hb8).to hbC
      have hBX := (HB4.out _ hBx)
      replace hBX := (hBX.trans (hb8.mono (by have := hBw.size; omega))).trans (hbC.mono (by have := hBw.size; omega))
      have hc7 : 8 ≤ c7 := by
        obtain ⟨_, _, _, _, e', _, _, q⟩ := hvT
        simp only [tabV, Value.agg.injEq, Array.mk.injEq, List.cons.injEq, Value.slice.injEq] at e'
        obtain ⟨_, ⟨_, _, rfl⟩, _⟩ := e'
        simpa [chiL] using q
      have hrY := HRd2.out _ _ kY3
      have hTD : TP < wD.heap.size := by omega
      clear hvT hlT s1 s2 kX3 kY3 kS9 kR9 kH9 hRk hBx hBw hb8 hbC hl1 hl2
      obtain ⟨ckS, fkS, lkS⟩ := kS.facts
      go_wp2_with fail
      refine (listW_any _ 64 64 wC _ hrY (by omega)).mono ?_
      rintro e wE ⟨vE, rfl, hoE, hbE⟩
      obtain ⟨AE, cE, rfl, _⟩ := own_slice hoE
      clear ckS fkS lkS
      have hsE := hbE.size
      have hE := RdL.own (RP := RP) (TP := TP) hoE (by omega) (by omega)
      replace kS := kS.to hbE
      replace kR := kR.to hbE
      replace kH := kH.to hbE
      replace kT := kT.to hbE
      replace kX := kX.to hbE
      replace hcl := hcl.to hbE
      replace hBX := hBX.trans (hbE.mono (by omega))
      clear hoE hrY hbE
      obtain ⟨ckT, fkT, lkT⟩ := kT.facts
      obtain ⟨ckS, fkS, lkS⟩ := kS.facts
      go_upto_region 22 with fail
      clear ckT fkT lkT
      clear ckS fkS lkS
      replace kS := kS.far (p := ⟨TP, 2, none⟩) (by show w.heap.size ≠ TP; omega) (.slice AE 64 cE)
      replace kR := kR.far (p := ⟨TP, 2, none⟩) (by show (w.heap.size + 1) ≠ TP; omega) (.slice AE 64 cE)
      replace kH := kH.far (p := ⟨TP, 2, none⟩) (by show (w.heap.size + 1 + 1) ≠ TP; omega) (.slice AE 64 cE)
      replace kT := kT.put 2 (.slice AE 64 cE)
      replace kX := kX.far (p := ⟨TP, 2, none⟩) (by show w8.heap.size ≠ TP; omega) (.slice AE 64 cE)
      replace hcl := hcl.far (p := ⟨TP, 2, none⟩) (.inr rfl) (.slice AE 64 cE)
      replace hE := hE.far (p := ⟨TP, 2, none⟩) (.inr rfl) (.slice AE 64 cE)
      replace hBX := hBX.setCell (p := ⟨TP, 2, none⟩) (by show w.heap.size ≤ TP; omega) (.slice AE 64 cE)
      have hz_w21 : (wE.setCell ⟨TP, 2, none⟩ (.slice AE 64 cE)).heap.size = wE.heap.size := by simp
      generalize (wE.setCell ⟨TP, 2, none⟩ (.slice AE 64 cE)) = w21 at *
      simp only [List.setIfInBounds_toArray, List.set_cons_succ, List.set_cons_zero] at kT
      obtain ⟨ckS, fkS, lkS⟩ := kS.facts
      go_wp2_with fail
      refine (listR_any A rs.length c rs _ (HAm.out.below hBX (Nat.le_refl _)) hn).mono ?_
      rintro e wF ⟨vF, rfl, hoF, hbF⟩
      obtain ⟨AF, cF, rfl, _⟩ := own_slice hoF
      clear ckS fkS lkS
      have hsF := hbF.size
      have hF := RdL.own (RP := RP) (TP := TP) hoF (by omega) (by omega)
      replace kS := kS.to hbF
      replace kR := kR.to hbF
      replace kH := kH.to hbF
      replace kT := kT.to hbF
      replace kX := kX.to hbF
      replace hcl := hcl.to hbF
      replace hE := hE.to hbF
      replace hBX := hBX.trans (hbF.mono (by omega))
      clear hoF hbF
      obtain ⟨ckR, fkR, lkR⟩ := kR.facts
      obtain ⟨ckS, fkS, lkS⟩ := kS.facts
      go_upto_region 23 with fail
      clear ckR fkR lkR
      clear ckS fkS lkS
      replace kS := kS.far (p := ⟨(w.heap.size + 1), 0, none⟩) (by show w.heap.size ≠ (w.heap.size + 1); omega) (.slice AF rs.length cF)
      replace kR := kR.put 0 (.slice AF rs.length cF)
      replace kH := kH.far (p := ⟨(w.heap.size + 1), 0, none⟩) (by show (w.heap.size + 1 + 1) ≠ (w.heap.size + 1); omega) (.slice AF rs.length cF)
      replace kT := kT.far (p := ⟨(w.heap.size + 1), 0, none⟩) (by show TP ≠ (w.heap.size + 1); omega) (.slice AF rs.length cF)
      replace kX := kX.far (p := ⟨(w.heap.size + 1), 0, none⟩) (by show w8.heap.size ≠ (w.heap.size + 1); omega) (.slice AF rs.length cF)
      replace hcl := hcl.far (p := ⟨(w.heap.size + 1), 0, none⟩) (.inl (by show (w.heap.size + 1) ≤ RP; omega)) (.slice AF rs.length cF)
      replace hE := hE.far (p := ⟨(w.heap.size + 1), 0, none⟩) (.inl (by show (w.heap.size + 1) ≤ RP; omega)) (.slice AF rs.length cF)
      replace hF := hF.far (p := ⟨(w.heap.size + 1), 0, none⟩) (.inl (by show (w.heap.size + 1) ≤ RP; omega)) (.slice AF rs.length cF)
      replace hBX := hBX.setCell (p := ⟨(w.heap.size + 1), 0, none⟩) (by show w.heap.size ≤ (w.heap.size + 1); omega) (.slice AF rs.length cF)
      have hz_w22 : (wF.setCell ⟨(w.heap.size + 1), 0, none⟩ (.slice AF rs.length cF)).heap.size = wF.heap.size := by simp
      generalize (wF.setCell ⟨(w.heap.size + 1), 0, none⟩ (.slice AF rs.length cF)) = w22 at *
      simp only [List.setIfInBounds_toArray, List.set_cons_succ, List.set_cons_zero] at kR
      have q1 := kS.cell 1
      have q2 := kS.cell 2
      simp at q1 q2
      have hsz23 : RP < w22.heap.size := by omega
      go_region_held3 (fun w' => w'.cell? ⟨w.heap.size, 1, none⟩ = some (.int .i64 r) ∧ w'.cell? ⟨w.heap.size, 2, none⟩ = some (.slice L 8 cl))
        (refine ⟨?_, ?_⟩ <;> (repeat (with_reducible first | exact q1 | exact q2 | refine cell_drew ?_ | refine cell_later hbG ?_ | refine cell_later hbI ?_ | refine cell_far ?_ (by show _ ≠ _; simp only; omega) _)))
        (first
          | (go_at_call 52; refine (listI_any L 8 cl ls _ (HLm.out.below (by repeat (with_reducible first | exact hBX | refine below_drew ?_)) (Nat.le_refl _)) (by omega)).mono ?_; rintro e wG ⟨vG, rfl, hoG, hbG⟩; obtain ⟨AG, cG, rfl, _⟩ := own_slice hoG)
          | (go_at_call 50; have _h := hbG; refine (listW_any _ 64 64 wP _ (HRd1.out _ _ (by repeat (with_reducible first | exact kX | refine Bk.to ?_ hbG | refine Bk.drew ?_))) (by omega)).mono ?_; rintro e wI ⟨vI, rfl, hoI, hbI⟩; obtain ⟨AI, cI, rfl, _⟩ := own_slice hoI
             have kRI := (kR.drew.to hbG).to hbI
             obtain ⟨ckR, fkR, lkR⟩ := kRI.facts))
      all_goals
        clear ckR fkR lkR q1 q2
        have hsG : w22.heap.size ≤ wG.heap.size := by have := hbG.size; simpa using this
        have hsI := hbI.size
        have hG := (RdL.own (RP := RP) (TP := TP) hoG (by simp; omega) (by simp; omega)).to hbI
        have hI := RdL.own (RP := RP) (TP := TP) hoI (by omega) (by omega)
        have hcG := own_cap hoG (by omega)
        replace kS := (kS.drew.to hbG).to hbI
        replace kH := (kH.drew.to hbG).to hbI
        replace kT := (kT.drew.to hbG).to hbI
        replace kX := (kX.drew.to hbG).to hbI
        replace kR := kRI
        replace hcl := ((hcl.to (below_drew (Below.refl _ _))).to hbG).to hbI
        replace hE := ((hE.to (below_drew (Below.refl _ _))).to hbG).to hbI
        replace hF := ((hF.to (below_drew (Below.refl _ _))).to hbG).to hbI
        replace hBX := ((below_drew hBX).trans (hbG.mono (by simp; omega))).trans (hbI.mono (by omega))
        clear kRI hoG hoI hbG hbI
        obtain ⟨ckR, fkR, lkR⟩ := kR.facts
        go_upto_region 24 with fail
        clear ckR fkR lkR
        replace kS := kS.far (p := ⟨(w.heap.size + 1), 1, none⟩) (by show w.heap.size ≠ (w.heap.size + 1); omega) (.int .i64 r)
        replace kH := kH.far (p := ⟨(w.heap.size + 1), 1, none⟩) (by show (w.heap.size + 1 + 1) ≠ (w.heap.size + 1); omega) (.int .i64 r)
        replace kT := kT.far (p := ⟨(w.heap.size + 1), 1, none⟩) (by show TP ≠ (w.heap.size + 1); omega) (.int .i64 r)
        replace kX := kX.far (p := ⟨(w.heap.size + 1), 1, none⟩) (by show w8.heap.size ≠ (w.heap.size + 1); omega) (.int .i64 r)
        replace kR := kR.put 1 (.int .i64 r)
        replace hcl := hcl.far (p := ⟨(w.heap.size + 1), 1, none⟩) (.inl (by show (w.heap.size + 1) ≤ RP; omega)) (.int .i64 r)
        replace hE := hE.far (p := ⟨(w.heap.size + 1), 1, none⟩) (.inl (by show (w.heap.size + 1) ≤ RP; omega)) (.int .i64 r)
        replace hF := hF.far (p := ⟨(w.heap.size + 1), 1, none⟩) (.inl (by show (w.heap.size + 1) ≤ RP; omega)) (.int .i64 r)
        replace hG := hG.far (p := ⟨(w.heap.size + 1), 1, none⟩) (.inl (by show (w.heap.size + 1) ≤ RP; omega)) (.int .i64 r)
        replace hI := hI.far (p := ⟨(w.heap.size + 1), 1, none⟩) (.inl (by show (w.heap.size + 1) ≤ RP; omega)) (.int .i64 r)
        replace hBX := hBX.setCell (p := ⟨(w.heap.size + 1), 1, none⟩) (by show w.heap.size ≤ (w.heap.size + 1); omega) (.int .i64 r)
        replace kS := kS.far (p := ⟨(w.heap.size + 1), 2, none⟩) (by show w.heap.size ≠ (w.heap.size + 1); omega) (.slice AG 8 cG)
        replace kH := kH.far (p := ⟨(w.heap.size + 1), 2, none⟩) (by show (w.heap.size + 1 + 1) ≠ (w.heap.size + 1); omega) (.slice AG 8 cG)
        replace kT := kT.far (p := ⟨(w.heap.size + 1), 2, none⟩) (by show TP ≠ (w.heap.size + 1); omega) (.slice AG 8 cG)
        replace kX := kX.far (p := ⟨(w.heap.size + 1), 2, none⟩) (by show w8.heap.size ≠ (w.heap.size + 1); omega) (.slice AG 8 cG)
        replace kR := kR.put 2 (.slice AG 8 cG)
        replace hcl := hcl.far (p := ⟨(w.heap.size + 1), 2, none⟩) (.inl (by show (w.heap.size + 1) ≤ RP; omega)) (.slice AG 8 cG)
        replace hE := hE.far (p := ⟨(w.heap.size + 1), 2, none⟩) (.inl (by show (w.heap.size + 1) ≤ RP; omega)) (.slice AG 8 cG)
        replace hF := hF.far (p := ⟨(w.heap.size + 1), 2, none⟩) (.inl (by show (w.heap.size + 1) ≤ RP; omega)) (.slice AG 8 cG)
        replace hG := hG.far (p := ⟨(w.heap.size + 1), 2, none⟩) (.inl (by show (w.heap.size + 1) ≤ RP; omega)) (.slice AG 8 cG)
        replace hI := hI.far (p := ⟨(w.heap.size + 1), 2, none⟩) (.inl (by show (w.heap.size + 1) ≤ RP; omega)) (.slice AG 8 cG)
        replace hBX := hBX.setCell (p := ⟨(w.heap.size + 1), 2, none⟩) (by show w.heap.size ≤ (w.heap.size + 1); omega) (.slice AG 8 cG)
        replace kS := kS.far (p := ⟨(w.heap.size + 1), 3, none⟩) (by show w.heap.size ≠ (w.heap.size + 1); omega) (.slice AI 64 cI)
        replace kH := kH.far (p := ⟨(w.heap.size + 1), 3, none⟩) (by show (w.heap.size + 1 + 1) ≠ (w.heap.size + 1); omega) (.slice AI 64 cI)
        replace kT := kT.far (p := ⟨(w.heap.size + 1), 3, none⟩) (by show TP ≠ (w.heap.size + 1); omega) (.slice AI 64 cI)
        replace kX := kX.far (p := ⟨(w.heap.size + 1), 3, none⟩) (by show w8.heap.size ≠ (w.heap.size + 1); omega) (.slice AI 64 cI)
        replace kR := kR.put 3 (.slice AI 64 cI)
        replace hcl := hcl.far (p := ⟨(w.heap.size + 1), 3, none⟩) (.inl (by show (w.heap.size + 1) ≤ RP; omega)) (.slice AI 64 cI)
        replace hE := hE.far (p := ⟨(w.heap.size + 1), 3, none⟩) (.inl (by show (w.heap.size + 1) ≤ RP; omega)) (.slice AI 64 cI)
        replace hF := hF.far (p := ⟨(w.heap.size + 1), 3, none⟩) (.inl (by show (w.heap.size + 1) ≤ RP; omega)) (.slice AI 64 cI)
        replace hG := hG.far (p := ⟨(w.heap.size + 1), 3, none⟩) (.inl (by show (w.heap.size + 1) ≤ RP; omega)) (.slice AI 64 cI)
        replace hI := hI.far (p := ⟨(w.heap.size + 1), 3, none⟩) (.inl (by show (w.heap.size + 1) ≤ RP; omega)) (.slice AI 64 cI)
        replace hBX := hBX.setCell (p := ⟨(w.heap.size + 1), 3, none⟩) (by show w.heap.size ≤ (w.heap.size + 1); omega) (.slice AI 64 cI)
        have hz_w23 : (((wI.setCell ⟨(w.heap.size + 1), 1, none⟩ (.int .i64 r)).setCell ⟨(w.heap.size + 1), 2, none⟩ (.slice AG 8 cG)).setCell ⟨(w.heap.size + 1), 3, none⟩ (.slice AI 64 cI)).heap.size = wI.heap.size := by simp
        generalize (((wI.setCell ⟨(w.heap.size + 1), 1, none⟩ (.int .i64 r)).setCell ⟨(w.heap.size + 1), 2, none⟩ (.slice AG 8 cG)).setCell ⟨(w.heap.size + 1), 3, none⟩ (.slice AI 64 cI)) = w23 at *
        simp only [List.setIfInBounds_toArray, List.set_cons_succ, List.set_cons_zero] at kR
        have q0 := kS.cell 0
        have t0 := kT.cell 0
        have t1 := kT.cell 1
        have t2 := kT.cell 2
        simp at q0 t0 t1 t2
        have hsz24 : RP < w23.heap.size := by omega
        go_region_held3 (fun w' => w'.cell? ⟨w.heap.size, 0, none⟩ = some (.slice A rs.length c) ∧ w'.cell? ⟨TP, 0, none⟩ = some (.int .i64 f0) ∧ w'.cell? ⟨TP, 1, none⟩ = some (.slice A7 8 c7) ∧ w'.cell? ⟨TP, 2, none⟩ = some (.slice AE 64 cE))
          (refine ⟨?_, ?_, ?_, ?_⟩ <;> (repeat (with_reducible first | exact q0 | exact t0 | exact t1 | exact t2 | refine cell_drew ?_ | refine cell_later hbG ?_ | refine cell_far ?_ (by show _ ≠ _; simp only; omega) _)))
          (first
            | (go_at_call 51; refine (listR_any A rs.length c rs _ (HAm.out.below (by repeat (with_reducible first | exact hBX | refine below_drew ?_)) (Nat.le_refl _)) hn).mono ?_; rintro e wG ⟨vG, rfl, hoG, hbG⟩; obtain ⟨AJ, cJ, rfl, _⟩ := own_slice hoG
               have kHI := kH.drew.to hbG
               obtain ⟨ckH, fkH, lkH⟩ := kHI.facts))
        all_goals
          clear ckH fkH lkH q0 t0 t1 t2
          have hsG : w23.heap.size ≤ wG.heap.size := by have := hbG.size; simpa using this
          have hJ := RdL.own (RP := RP) (TP := TP) hoG (by simp; omega) (by simp; omega)
          replace kR := kR.drew.to hbG
          replace kT := kT.drew.to hbG
          replace kH := kHI
          replace hcl := (hcl.to (below_drew (Below.refl _ _))).to hbG
          replace hE := (hE.to (below_drew (Below.refl _ _))).to hbG
          replace hF := (hF.to (below_drew (Below.refl _ _))).to hbG
          replace hG := (hG.to (below_drew (Below.refl _ _))).to hbG
          replace hI := (hI.to (below_drew (Below.refl _ _))).to hbG
          replace hBX := (below_drew hBX).trans (hbG.mono (by simp; omega))
          clear kHI hoG hbG kS kX
          obtain ⟨ckH, fkH, lkH⟩ := kH.facts
          go_upto_region 25 with fail
          clear ckH fkH lkH
          replace kR := kR.far (p := ⟨(w.heap.size + 1 + 1), 0, none⟩) (by show (w.heap.size + 1) ≠ (w.heap.size + 1 + 1); omega) (.slice AJ rs.length cJ)
          replace kH := kH.put 0 (.slice AJ rs.length cJ)
          replace kT := kT.far (p := ⟨(w.heap.size + 1 + 1), 0, none⟩) (by show TP ≠ (w.heap.size + 1 + 1); omega) (.slice AJ rs.length cJ)
          replace hcl := hcl.far (p := ⟨(w.heap.size + 1 + 1), 0, none⟩) (.inl (by show (w.heap.size + 1 + 1) ≤ RP; omega)) (.slice AJ rs.length cJ)
          replace hE := hE.far (p := ⟨(w.heap.size + 1 + 1), 0, none⟩) (.inl (by show (w.heap.size + 1 + 1) ≤ RP; omega)) (.slice AJ rs.length cJ)
          replace hF := hF.far (p := ⟨(w.heap.size + 1 + 1), 0, none⟩) (.inl (by show (w.heap.size + 1 + 1) ≤ RP; omega)) (.slice AJ rs.length cJ)
          replace hG := hG.far (p := ⟨(w.heap.size + 1 + 1), 0, none⟩) (.inl (by show (w.heap.size + 1 + 1) ≤ RP; omega)) (.slice AJ rs.length cJ)
          replace hI := hI.far (p := ⟨(w.heap.size + 1 + 1), 0, none⟩) (.inl (by show (w.heap.size + 1 + 1) ≤ RP; omega)) (.slice AJ rs.length cJ)
          replace hJ := hJ.far (p := ⟨(w.heap.size + 1 + 1), 0, none⟩) (.inl (by show (w.heap.size + 1 + 1) ≤ RP; omega)) (.slice AJ rs.length cJ)
          replace hBX := hBX.setCell (p := ⟨(w.heap.size + 1 + 1), 0, none⟩) (by show w.heap.size ≤ (w.heap.size + 1 + 1); omega) (.slice AJ rs.length cJ)
          replace kR := kR.far (p := ⟨(w.heap.size + 1 + 1), 1, none⟩) (by show (w.heap.size + 1) ≠ (w.heap.size + 1 + 1); omega) (.int .i64 f0)
          replace kH := kH.put 1 (.int .i64 f0)
          replace kT := kT.far (p := ⟨(w.heap.size + 1 + 1), 1, none⟩) (by show TP ≠ (w.heap.size + 1 + 1); omega) (.int .i64 f0)
          replace hcl := hcl.far (p := ⟨(w.heap.size + 1 + 1), 1, none⟩) (.inl (by show (w.heap.size + 1 + 1) ≤ RP; omega)) (.int .i64 f0)
          replace hE := hE.far (p := ⟨(w.heap.size + 1 + 1), 1, none⟩) (.inl (by show (w.heap.size + 1 + 1) ≤ RP; omega)) (.int .i64 f0)
          replace hF := hF.far (p := ⟨(w.heap.size + 1 + 1), 1, none⟩) (.inl (by show (w.heap.size + 1 + 1) ≤ RP; omega)) (.int .i64 f0)
          replace hG := hG.far (p := ⟨(w.heap.size + 1 + 1), 1, none⟩) (.inl (by show (w.heap.size + 1 + 1) ≤ RP; omega)) (.int .i64 f0)
          replace hI := hI.far (p := ⟨(w.heap.size + 1 + 1), 1, none⟩) (.inl (by show (w.heap.size + 1 + 1) ≤ RP; omega)) (.int .i64 f0)
          replace hJ := hJ.far (p := ⟨(w.heap.size + 1 + 1), 1, none⟩) (.inl (by show (w.heap.size + 1 + 1) ≤ RP; omega)) (.int .i64 f0)
          replace hBX := hBX.setCell (p := ⟨(w.heap.size + 1 + 1), 1, none⟩) (by show w.heap.size ≤ (w.heap.size + 1 + 1); omega) (.int .i64 f0)
          replace kR := kR.far (p := ⟨(w.heap.size + 1 + 1), 2, none⟩) (by show (w.heap.size + 1) ≠ (w.heap.size + 1 + 1); omega) (.slice A7 8 c7)
          replace kH := kH.put 2 (.slice A7 8 c7)
          replace kT := kT.far (p := ⟨(w.heap.size + 1 + 1), 2, none⟩) (by show TP ≠ (w.heap.size + 1 + 1); omega) (.slice A7 8 c7)
          replace hcl := hcl.far (p := ⟨(w.heap.size + 1 + 1), 2, none⟩) (.inl (by show (w.heap.size + 1 + 1) ≤ RP; omega)) (.slice A7 8 c7)
          replace hE := hE.far (p := ⟨(w.heap.size + 1 + 1), 2, none⟩) (.inl (by show (w.heap.size + 1 + 1) ≤ RP; omega)) (.slice A7 8 c7)
          replace hF := hF.far (p := ⟨(w.heap.size + 1 + 1), 2, none⟩) (.inl (by show (w.heap.size + 1 + 1) ≤ RP; omega)) (.slice A7 8 c7)
          replace hG := hG.far (p := ⟨(w.heap.size + 1 + 1), 2, none⟩) (.inl (by show (w.heap.size + 1 + 1) ≤ RP; omega)) (.slice A7 8 c7)
          replace hI := hI.far (p := ⟨(w.heap.size + 1 + 1), 2, none⟩) (.inl (by show (w.heap.size + 1 + 1) ≤ RP; omega)) (.slice A7 8 c7)
          replace hJ := hJ.far (p := ⟨(w.heap.size + 1 + 1), 2, none⟩) (.inl (by show (w.heap.size + 1 + 1) ≤ RP; omega)) (.slice A7 8 c7)
          replace hBX := hBX.setCell (p := ⟨(w.heap.size + 1 + 1), 2, none⟩) (by show w.heap.size ≤ (w.heap.size + 1 + 1); omega) (.slice A7 8 c7)
          replace kR := kR.far (p := ⟨(w.heap.size + 1 + 1), 3, none⟩) (by show (w.heap.size + 1) ≠ (w.heap.size + 1 + 1); omega) (.slice AE 64 cE)
          replace kH := kH.put 3 (.slice AE 64 cE)
          replace kT := kT.far (p := ⟨(w.heap.size + 1 + 1), 3, none⟩) (by show TP ≠ (w.heap.size + 1 + 1); omega) (.slice AE 64 cE)
          replace hcl := hcl.far (p := ⟨(w.heap.size + 1 + 1), 3, none⟩) (.inl (by show (w.heap.size + 1 + 1) ≤ RP; omega)) (.slice AE 64 cE)
          replace hE := hE.far (p := ⟨(w.heap.size + 1 + 1), 3, none⟩) (.inl (by show (w.heap.size + 1 + 1) ≤ RP; omega)) (.slice AE 64 cE)
          replace hF := hF.far (p := ⟨(w.heap.size + 1 + 1), 3, none⟩) (.inl (by show (w.heap.size + 1 + 1) ≤ RP; omega)) (.slice AE 64 cE)
          replace hG := hG.far (p := ⟨(w.heap.size + 1 + 1), 3, none⟩) (.inl (by show (w.heap.size + 1 + 1) ≤ RP; omega)) (.slice AE 64 cE)
          replace hI := hI.far (p := ⟨(w.heap.size + 1 + 1), 3, none⟩) (.inl (by show (w.heap.size + 1 + 1) ≤ RP; omega)) (.slice AE 64 cE)
          replace hJ := hJ.far (p := ⟨(w.heap.size + 1 + 1), 3, none⟩) (.inl (by show (w.heap.size + 1 + 1) ≤ RP; omega)) (.slice AE 64 cE)
          replace hBX := hBX.setCell (p := ⟨(w.heap.size + 1 + 1), 3, none⟩) (by show w.heap.size ≤ (w.heap.size + 1 + 1); omega) (.slice AE 64 cE)
          have hz_w24 : ((((wG.setCell ⟨(w.heap.size + 1 + 1), 0, none⟩ (.slice AJ rs.length cJ)).setCell ⟨(w.heap.size + 1 + 1), 1, none⟩ (.int .i64 f0)).setCell ⟨(w.heap.size + 1 + 1), 2, none⟩ (.slice A7 8 c7)).setCell ⟨(w.heap.size + 1 + 1), 3, none⟩ (.slice AE 64 cE)).heap.size = wG.heap.size := by simp
          generalize ((((wG.setCell ⟨(w.heap.size + 1 + 1), 0, none⟩ (.slice AJ rs.length cJ)).setCell ⟨(w.heap.size + 1 + 1), 1, none⟩ (.int .i64 f0)).setCell ⟨(w.heap.size + 1 + 1), 2, none⟩ (.slice A7 8 c7)).setCell ⟨(w.heap.size + 1 + 1), 3, none⟩ (.slice AE 64 cE)) = w24 at *
          simp only [List.setIfInBounds_toArray, List.set_cons_succ, List.set_cons_zero] at kH
          have hu : (Tryd.prog.underlying 28).map (·.isRow) = some true := by kernel_rfl
          obtain ⟨dd, hu, hd⟩ := Option.map_eq_some_iff.1 hu
          have e1 := setRow_self w24.drew (w.heap.size + 1) _ _ _ kR.drew
          have e2 := setRow_self w24.drew (w.heap.size + 1 + 1) _ _ _ kH.drew
          refine wp_region_held_drew (S := fun w' => w' = w24.drew) (by kernel_rfl) rfl (fun _ => ?_)
          refine wpAnyH_take (i := 0) (v := .agg #[.slice AF rs.length cF, .int .i64 r, .slice AG 8 cG, .slice AI 64 cI]) rfl (by kernel_rfl) (by kernel_rfl) (by kernel_rfl) (fun _ _ _ h => h) (yieldsIf_load_mid (by rfl) 28 _ rfl (w.heap.size + 1) 0 rfl [.slice AF rs.length cF, .int .i64 r, .slice AG 8 cG, .slice AI 64 cI] dd (fun w' e => by subst e; exact kR.drew.range) hu hd (by kernel_rfl)) rfl ?_
          refine wpAnyH_take (i := 1) (v := .agg #[.slice AJ rs.length cJ, .int .i64 f0, .slice A7 8 c7, .slice AE 64 cE]) rfl (by kernel_rfl) (by kernel_rfl) (by kernel_rfl) (fun _ _ _ h => h) (yieldsIf_load_mid (by rfl) 28 _ rfl (w.heap.size + 1 + 1) 0 rfl [.slice AJ rs.length cJ, .int .i64 f0, .slice A7 8 c7, .slice AE 64 cE] dd (fun w' e => by subst e; exact kH.drew.range) hu hd (by kernel_rfl)) rfl ?_
          refine wpAnyH_all (rs := [2]) (by kernel_rfl) (by simp) (fun i hi => ?_)
          obtain rfl : i = 2 := by simpa using hi
          refine Or.inl ?_
          refine wp_store_row 28 _ _ rfl (w.heap.size + 1) #[.slice AF rs.length cF, .int .i64 r, .slice AG 8 cG, .slice AI 64 cI] rfl rfl 28 _ kR.drew (by kernel_rfl) rfl (all_oneCell_toArray (fun v hv => by simp at hv; rcases hv with rfl | rfl | rfl | rfl <;> rfl)) ⟨e1, ?_⟩
          rw [e1]
          refine wpAnyH_all (rs := [3]) (by kernel_rfl) (by simp) (fun i hi => ?_)
          obtain rfl : i = 3 := by simpa using hi
          refine Or.inl ?_
          refine wp_store_row 28 _ _ rfl (w.heap.size + 1 + 1) #[.slice AJ rs.length cJ, .int .i64 f0, .slice A7 8 c7, .slice AE 64 cE] rfl rfl 28 _ kH.drew (by kernel_rfl) rfl (all_oneCell_toArray (fun v hv => by simp at hv; rcases hv with rfl | rfl | rfl | rfl <;> rfl)) ⟨e2, ?_⟩
          rw [e2]
          refine wpAnyH_all (rs := [4]) (by kernel_rfl) (by simp) (fun i hi => ?_)
          obtain rfl : i = 4 := by simpa using hi
          refine Or.inl ?_
          refine (show w24.drew = w24.drew ∧ _ from ⟨rfl, ?_⟩)
          refine wpAnyH_done (by kernel_rfl) ?_ _
          have kRf := kR.drew
          have kHf := kH.drew
          have hBf := below_drew hBX
          have d1 := (hF.to (below_drew (Below.refl _ _))).1
          have d2 := (hG.to (below_drew (Below.refl _ _))).1
          have d3 := (hI.to (below_drew (Below.refl _ _))).1
          have d4 := (hJ.to (below_drew (Below.refl _ _))).1
          have d5 := (hcl.to (below_drew (Below.refl _ _))).1
          have d6 := (hE.to (below_drew (Below.refl _ _))).1
          generalize w24.drew = wf at *
          have h8 := H8.out
          have m1 := HM1.out
          have m2 := HM2.out
          have m3 : (chiL fr ls).length = 8 := by simp [chiL]
          simp only [Exit.then]
          go_at_K
          go_frame
          go_wp2
          refine bodyPost_ret (kRf.resCCt (P := Tryd.prog) kHf rfl _ rfl rfl (by kernel_rfl) (by kernel_rfl) (by kernel_rfl)) rfl ⟨_, _, rfl, ?_, ?_, SLoc.mk (fun b off h e => by have := (hF.2 b off h e).1; omega) (fun b off h e => by have := (hG.2 b off (by omega) e).1; omega) (fun b off h e => by have := (hI.2 b off (by omega) e).1; omega), SLoc.mk (fun b off h e => by have := (hJ.2 b off h e).1; omega) (fun b off h e => by have := (hcl.2 b off (by omega) e).1; omega) (fun b off h e => by have := (hE.2 b off (by omega) e).1; omega), hBf⟩
          · rw [HPS.out]
            exact ⟨AF, cF, AG, cG, AI, cI, by simp only [spcV, h8, m1], d1, by simp only [h8]; exact d2, by simp only [m1]; exact d3, by simp only [h8]; exact hcG⟩
          · rw [HCS.out]
            exact ⟨AJ, cJ, A7, c7, AE, cE, by simp only [spcV, m3, m2], d4, by simp only [m3]; exact d5, by simp only [m2]; exact d6, by simp only [m3]; exact hc7⟩
end Go.Proofs.YtmjahjdnfijpkaaDoor
