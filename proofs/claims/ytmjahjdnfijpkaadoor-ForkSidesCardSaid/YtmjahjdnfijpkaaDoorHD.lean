/- Several texts in one. -/
import Derived.Test.YtmjahjdnfijpkaaDoorHI
import Derived.Test.YtmjahjdnfijpkaaDoorHM
import Derived.Test.YtmjahjdnfijpkaaDoorRgK
import Derived.Test.YtmjahjdnfijpkaaDoorGZ
import Derived.Test.YtmjahjdnfijpkaaDoorHC
import Derived.Test.YtmjahjdnfijpkaaDoorGU
import Derived.Test.YtmjahjdnfijpkaaDoorGW
import Derived.Test.YtmjahjdnfijpkaaDoorHN
/- Copies of rows (fork.list at three types). -/
namespace Go.Proofs.YtmjahjdnfijpkaaDoor
open Go Go.Proofs Go.RowKit
set_option linter.unusedSimpArgs false
set_option linter.unusedVariables false
set_option maxRecDepth 100000

theorem listR_any (A : Option Addr) (n c : Nat) (rs : List (Int × Int)) (w : World) (hr : Rd w 2 A n (flat2 .i64 rs)) (hn : n ≤ 1000000) :
    Calls Tryd.prog 51 #[.slice A n c] w fun e w' => ∃ v', e = .returned v' ∧ w'.ownsRow w.heap.size 81 2 v' n (flat2 .i64 rs) ∧ Below w.heap.size w w' := by
  obtain ⟨i0, hi, hz0, hz1, hz2⟩ := info_parts infoRgK
  go_enter Tryd.func51, Tryd.ntmps51
  go_wp2_with (at_builtin; refine wpList_append_rd _ rfl _ _ 22 rfl w.heap.size 81 i0 (.agg #[.int .i64 0, .int .i64 0]) 2 16 Tryd.underlying22 hi hz0 hz1 hz2 rfl (by decide) _ _ _ rfl (World.ownsRow_nil _ _ _ _) _ n c (flat2 .i64 rs) rfl hr (oneCells_flat2 _ _) (by simp only [maxLen]; omega) (by omega) (by simp) ?_; intro v' w1 hown' hgrow)
  go_ret
  rw [Nat.zero_add, List.nil_append] at hown'
  exact ⟨_, rfl, hown', ((Below.refl _ w).grown hgrow (by simp) (fun k e => by cases e))⟩
theorem listW_any (A : Option Addr) (n c : Nat) (ws : List Nat) (w : World) (hr : Rd w 1 A n (uw ws)) (hn : n ≤ 1000000) :
    Calls Tryd.prog 50 #[.slice A n c] w fun e w' => ∃ v', e = .returned v' ∧ w'.ownsRow w.heap.size 55 1 v' n (uw ws) ∧ Below w.heap.size w w' := by
  obtain ⟨i0, hi, hz0, hz1, hz2⟩ := info_parts infoU64
  go_enter Tryd.func50, Tryd.ntmps50
  go_wp2_with (at_builtin; refine wpList_append_rd _ rfl _ _ 24 rfl w.heap.size 55 i0 (.int .u64 0) 1 8 Tryd.underlying24 hi hz0 hz1 hz2 rfl (by decide) _ _ _ rfl (World.ownsRow_nil _ _ _ _) _ n c (uw ws) rfl hr (oneCells_uw _) (by simp only [maxLen]; omega) (by omega) (by simp) ?_; intro v' w1 hown' hgrow)
  go_ret
  rw [Nat.zero_add, List.nil_append] at hown'
  exact ⟨_, rfl, hown', ((Below.refl _ w).grown hgrow (by simp) (fun k e => by cases e))⟩
theorem listI_any (A : Option Addr) (n c : Nat) (ls : List Int) (w : World) (hr : Rd w 1 A n (iw ls)) (hn : n ≤ 1000000) :
    Calls Tryd.prog 52 #[.slice A n c] w fun e w' => ∃ v', e = .returned v' ∧ w'.ownsRow w.heap.size 3 1 v' n (iw ls) ∧ Below w.heap.size w w' := by
  obtain ⟨i0, hi, hz0, hz1, hz2⟩ := info_parts infoInt
  go_enter Tryd.func52, Tryd.ntmps52
  go_wp2_with (at_builtin; refine wpList_append_rd _ rfl _ _ 23 rfl w.heap.size 3 i0 (.int .i64 0) 1 8 Tryd.underlying23 hi hz0 hz1 hz2 rfl (by decide) _ _ _ rfl (World.ownsRow_nil _ _ _ _) _ n c (iw ls) rfl hr (oneCells_int _ _) (by simp only [maxLen]; omega) (by omega) (by simp) ?_; intro v' w1 hown' hgrow)
  go_ret
  rw [Nat.zero_add, List.nil_append] at hown'
  exact ⟨_, rfl, hown', ((Below.refl _ w).grown hgrow (by simp) (fun k e => by cases e))⟩
end Go.Proofs.YtmjahjdnfijpkaaDoor
/- fork.Fork: the frames one after the other, and the ways that return an error. -/
namespace Go.Proofs.YtmjahjdnfijpkaaDoor
open Go Go.Proofs Go.RowKit
set_option linter.unusedSimpArgs false
set_option linter.unusedVariables false
set_option maxRecDepth 100000

theorem iw_cons (z : Int) (zs : List Int) : iw (z :: zs) = .int .i64 z :: iw zs := rfl
/-- The next frame. -/
theorem next_any (RP n c : Nat) (A : Option Addr) (z : Int) (zs : List Int) (w : World) (hR : Bk w RP #[.slice A (n + 1) c] 23) (hc : n + 1 ≤ c) (hz : Rd w 1 A (n + 1) (iw (z :: zs))) (hn : n ≤ 1000) :
    Calls Tryd.prog 46 #[.pointer (some ⟨RP, 0, none⟩)] w fun e w' => e = .returned (.int .i64 z) ∧ ∃ A' c', w' = w.setCell ⟨RP, 0, none⟩ (.slice A' n c') ∧ n ≤ c' ∧ (∀ b o, A = some ⟨b, o, none⟩ → 0 < n → A' = some ⟨b, o + 1, none⟩) := by
  obtain ⟨b, off, rfl, hb', hcl⟩ := hz.2 (by omega)
  have c0 := hcl 0 (.int .i64 z) rfl
  rw [Nat.add_zero] at c0
  obtain ⟨cR, fR, lR⟩ := hR.facts
  clear hcl hz
  go_enter Tryd.func46, Tryd.ntmps46
  by_cases h1 : c = 1
  · subst h1
    obtain rfl : n = 0 := by omega
    go_wp2_with fail
    go_ret
    exact ⟨rfl, _, _, rfl, Nat.le_refl _, fun _ _ _ h => absurd h (by omega)⟩
  · go_wp2_with fail
    go_ret
    exact ⟨rfl, _, _, rfl, by omega, fun b' o' e h => by injection e with e; injection e with e1 e2 e3; subst e1 e2; rfl⟩
theorem Rd.tail {w : World} {b o n : Nat} {z : Int} {zs : List Int} (h : Rd w 1 (some ⟨b, o, none⟩) (n + 1) (iw (z :: zs))) : Rd w 1 (some ⟨b, o + 1, none⟩) n (iw zs) := by
  obtain ⟨b', o', e, hb, hc⟩ := h.2 (by omega)
  injection e with e
  injection e with e1 e2 e3
  subst e1 e2
  refine ⟨by have := h.1; rw [iw_cons] at this; simp at this; omega, fun _ => ⟨b, o + 1, rfl, hb, fun j u hu => ?_⟩⟩
  have := hc (j + 1) u (by rw [iw_cons]; simpa using hu)
  rwa [show o + (j + 1) = o + 1 + j by omega] at this
/-- What is left of the frames lies in a box. -/
def RestI (W : World) (RP lim : Nat) (zs : List Int) : Prop := ∃ A c, Bk W RP #[.slice A zs.length c] 23 ∧ zs.length ≤ c ∧ Rd W 1 A zs.length (iw zs) ∧ ∀ b o, 0 < zs.length → A = some ⟨b, o, none⟩ → b < lim
theorem RestI.to {W W' : World} {RP lim : Nat} {zs : List Int} (h : RestI W RP lim zs) (hb : Below W.heap.size W W') : RestI W' RP lim zs := by
  obtain ⟨A, c, h1, h2, h3, h4⟩ := h
  exact ⟨A, c, h1.to hb, h2, h3.below hb (Nat.le_refl _), h4⟩
theorem RestI.far {W : World} {RP lim : Nat} {zs : List Int} (h : RestI W RP lim zs) {p : Addr} (h1 : RP ≠ p.block) (h2 : lim ≤ p.block) (u : Value) : RestI (W.setCell p u) RP lim zs := by
  obtain ⟨A, c, k1, k2, k3, k4⟩ := h
  exact ⟨A, c, k1.far h1 u, k2, k3.far (fun b off h0 e => by have := k4 b off h0 e; omega) u, k4⟩
theorem next_rest (RP lim : Nat) (z : Int) (zs : List Int) (w : World) (h : RestI w RP lim (z :: zs)) (hlim : lim ≤ RP) (hn : zs.length ≤ 1000) :
    Calls Tryd.prog 46 #[.pointer (some ⟨RP, 0, none⟩)] w fun e w' => e = .returned (.int .i64 z) ∧ RestI w' RP lim zs ∧ (∃ u, w' = w.setCell ⟨RP, 0, none⟩ u) ∧ Below RP w w' := by
  obtain ⟨A, c, k1, k2, k3, k4⟩ := h
  refine (next_any RP zs.length c A z zs w k1 k2 k3 hn).mono ?_
  rintro e w' ⟨rfl, A', c', rfl, h2, h3⟩
  refine ⟨rfl, ⟨A', c', k1.put 0 _, h2, ?_, ?_⟩, ⟨_, rfl⟩, (Below.refl _ _).setCell (p := ⟨RP, 0, none⟩) (Nat.le_refl _) _⟩
  · rcases Nat.eq_zero_or_pos zs.length with h0 | h0
    · have : zs = [] := List.eq_nil_of_length_eq_zero h0
      subst this
      exact Rd.zero _
    · obtain ⟨b, off, rfl, hb', _⟩ := id (k3.2 (by simp))
      rw [h3 b off rfl h0]
      exact k3.tail.far (fun b' off' h0' e => by injection e with e; injection e with e1 e2 e3; have := k4 b off (by simp) rfl; show b' ≠ RP; omega) _
  · intro b o h0 e
    obtain ⟨b', off, rfl, hb', _⟩ := id (k3.2 (by simp))
    rw [h3 b' off rfl h0] at e
    injection e with e
    injection e with e1 e2 e3
    have := k4 b' off (by simp) rfl
    omega
/-- Two results that lie in boxes, and a third. -/
theorem Bk.resCCt {P : Program} {fn : Func} {w : World} {b c : Nat} {cs cs2 : Array Value} {t t2 : TypeId} {p q u : Tmp} {ty : TypeId} (h : Bk w b cs t) (h2 : Bk w c cs2 t2) (hf : fn.results = #[.cell p ty, .cell q ty, .tmp u]) (tmps : Array Value) (hp : tmps.getD p undef = .pointer (some ⟨b, 0, none⟩)) (hq : tmps.getD q undef = .pointer (some ⟨c, 0, none⟩))
    (hu : (P.underlying ty).map (·.isRow) = some true) (hi : (P.info? ty).map (·.size) = some cs.size) (hi2 : (P.info? ty).map (·.size) = some cs2.size) : (results fn tmps).run P w = .ok (.tuple #[.agg cs, .agg cs2, tmps.getD u undef]) w := by
  have hp' : tmps[p]?.getD undef = .pointer (some ⟨b, 0, none⟩) := by simpa using hp
  have hq' : tmps[q]?.getD undef = .pointer (some ⟨c, 0, none⟩) := by simpa using hq
  simp [results, hf, hp', hq', asAddr, h.loadVar (P := P) ty hu hi, h2.loadVar (P := P) ty hu hi2]
/-- Two address spaces and an error as results. -/
def FkRes (w w' : World) (s1 s2 : Sp) (er : Int) (e : Ending) : Prop := ∃ v1 v2, e = .returned (.tuple #[v1, v2, .int .i64 er]) ∧ SpV w' v1 s1 ∧ SpV w' v2 s2 ∧ SLoc w.heap.size v1 ∧ SLoc w.heap.size v2 ∧ Below w.heap.size w w'

set_option maxHeartbeats 2000000 in
theorem Fork_bad (rs : List (Int × Int)) (r : Int) (ls : List Int) (es : List Nat) (v : Value) (fr : List Int) (F : Option Addr) (cf : Nat) (w : World) (hv : SpV w v (rs, r, ls, es)) (hn : rs.length ≤ 1000000) (hs : wsmall es) (hL : LayOK w) (hF : Rd w 1 F fr.length (iw fr)) (hfn : fr.length ≤ 1000) (hE : forE (rs, r, ls, es) fr ≠ 0) :
    Calls Tryd.prog 16 #[v, .slice F fr.length cf] w fun e w' => FkRes w w' sp0 sp0 (forE (rs, r, ls, es) fr) e := by
  obtain ⟨A, c, L, cl, B, d, hve, hA, hLs, hB, hcc⟩ := id hv
  subst hve
  unfold spcV at hv ⊢
  simp only at hv ⊢ hA hLs hB hcc
  have kS := ((Bk.new w #[.slice A rs.length c, .int .i64 r, .slice L ls.length cl, .slice B es.length d] 28).alloc (.cells #[.slice none 0 0, .int .i64 0, .slice none 0 0, .slice none 0 0] 28)).alloc (.cells #[.slice none 0 0, .int .i64 0, .slice none 0 0, .slice none 0 0] 28)
  have kR := (Bk.new (w.alloc (.cells #[.slice A rs.length c, .int .i64 r, .slice L ls.length cl, .slice B es.length d] 28)) #[.slice none 0 0, .int .i64 0, .slice none 0 0, .slice none 0 0] 28).alloc (.cells #[.slice none 0 0, .int .i64 0, .slice none 0 0, .slice none 0 0] 28)
  have kH := Bk.new ((w.alloc (.cells #[.slice A rs.length c, .int .i64 r, .slice L ls.length cl, .slice B es.length d] 28)).alloc (.cells #[.slice none 0 0, .int .i64 0, .slice none 0 0, .slice none 0 0] 28)) #[.slice none 0 0, .int .i64 0, .slice none 0 0, .slice none 0 0] 28
  simp only [World.size_alloc] at kR kH
  have hB1 := balloc (balloc (balloc (Below.refl _ w) (.cells #[.slice A rs.length c, .int .i64 r, .slice L ls.length cl, .slice B es.length d] 28)) (.cells #[.slice none 0 0, .int .i64 0, .slice none 0 0, .slice none 0 0] 28)) (.cells #[.slice none 0 0, .int .i64 0, .slice none 0 0, .slice none 0 0] 28)
  generalize hw1 : ((w.alloc (.cells #[.slice A rs.length c, .int .i64 r, .slice L ls.length cl, .slice B es.length d] 28)).alloc (.cells #[.slice none 0 0, .int .i64 0, .slice none 0 0, .slice none 0 0] 28)).alloc (.cells #[.slice none 0 0, .int .i64 0, .slice none 0 0, .slice none 0 0] 28) = w1 at *
  have HN := Lib.hid (Needs_any rs r ls es _ _ (hv.to hB1) hn hs (hL.below hB1))
  have HFt : Hid (rooE (rs, r, ls, es) = 0 → ∀ W, Below w.heap.size w W → Calls Tryd.prog 45 #[.agg #[.slice A rs.length c, .int .i64 r, .slice L ls.length cl, .slice B es.length d], .slice F fr.length cf] W fun e w' => e = .returned (.int .i64 (fst0 (fitF (rs, r, ls, es) fr) fr.length)) ∧ Below W.heap.size W w') := Lib.hid (fun h0 W hb => fits_any rs r ls es _ fr F cf W (hv.to hb) hs (hL.below hb) h0 (hF.below hb (Nat.le_refl _)) hfn)
  have hne : w.heap.size + 1 ≠ w.heap.size + 1 + 1 := by omega
  have hne2 : w.heap.size + 1 + 1 ≠ w.heap.size + 1 := by omega
  have HSh : Hid (∀ (W : World), Bk W (w.heap.size + 1) #[.slice none 0 0, .int .i64 0, .slice none 0 0, .slice none 0 0] 28 → Bk W (w.heap.size + 1 + 1) #[.slice none 0 0, .int .i64 0, .slice none 0 0, .slice none 0 0] 28 → Below w.heap.size w W →
      ∃ W2, W2 = (((((((W.setCell ⟨w.heap.size + 1, 0, none⟩ (.slice none 0 0)).setCell ⟨w.heap.size + 1, 1, none⟩ (.int .i64 0)).setCell ⟨w.heap.size + 1, 2, none⟩ (.slice none 0 0)).setCell ⟨w.heap.size + 1, 3, none⟩ (.slice none 0 0)).setCell ⟨w.heap.size + 1 + 1, 0, none⟩ (.slice none 0 0)).setCell ⟨w.heap.size + 1 + 1, 1, none⟩ (.int .i64 0)).setCell ⟨w.heap.size + 1 + 1, 2, none⟩ (.slice none 0 0)).setCell ⟨w.heap.size + 1 + 1, 3, none⟩ (.slice none 0 0) ∧ Bk W2 (w.heap.size + 1) #[.slice none 0 0, .int .i64 0, .slice none 0 0, .slice none 0 0] 28 ∧ Bk W2 (w.heap.size + 1 + 1) #[.slice none 0 0, .int .i64 0, .slice none 0 0, .slice none 0 0] 28 ∧ Below w.heap.size w W2) :=
    Lib.hid (fun W k1 k2 hb => ⟨_, rfl, ((((k1.put4 _ _ _ _).far (p := ⟨w.heap.size + 1 + 1, 0, none⟩) hne _).far (p := ⟨w.heap.size + 1 + 1, 1, none⟩) hne _).far (p := ⟨w.heap.size + 1 + 1, 2, none⟩) hne _).far (p := ⟨w.heap.size + 1 + 1, 3, none⟩) hne _, ((((k2.far (p := ⟨w.heap.size + 1, 0, none⟩) hne2 _).far (p := ⟨w.heap.size + 1, 1, none⟩) hne2 _).far (p := ⟨w.heap.size + 1, 2, none⟩) hne2 _).far (p := ⟨w.heap.size + 1, 3, none⟩) hne2 _).put4 _ _ _ _, below_put4 (below_put4 hb (by omega) _ _ _ _) (by omega) _ _ _ _⟩)
  clear hne hne2
  obtain ⟨cS, fS, lS⟩ := kS.facts
  by_cases hR : rooE (rs, r, ls, es) = 0
  case neg =>
    have hE2 : forE (rs, r, ls, es) fr = rooE (rs, r, ls, es) := by unfold forE; rw [orE_l _ hR]
    have hN2 : neeR (rs, r, ls, es) = (0, rooE (rs, r, ls, es)) := by unfold neeR; rw [if_pos hR]
    rw [hE2]
    rw [hN2] at HN
    have hd : (rooE (rs, r, ls, es) != 0) = true := by simpa using hR
    generalize rooE (rs, r, ls, es) = z at *
    clear hE2 hN2 hE hR HFt
    go_enter Tryd.func16, Tryd.ntmps16
    go_wp2_with fail
    refine HN.out.mono ?_
    rintro e w2 ⟨rfl, hb2⟩
    have kR2 := kR.to hb2
    have kH2 := kH.to hb2
    clear cS fS lS
    obtain ⟨cR, fR, lR⟩ := kR2.facts
    obtain ⟨cH, fH, lH⟩ := kH2.facts
    go_wp2_with fail
    obtain ⟨W2, hW2, k1, k2, hBW⟩ := HSh.out _ kR2 kH2 (bnext hB1 hb2)
    rw [← hW2]
    exact bodyPost_ret (k1.resCCt (P := Tryd.prog) k2 rfl _ rfl rfl (by kernel_rfl) (by kernel_rfl) (by kernel_rfl)) rfl ⟨_, _, rfl, SpV.zero _, SpV.zero _, SLoc.zero _, SLoc.zero _, hBW⟩
  have hN2 : neeR (rs, r, ls, es) = ((neeN ls : Int), 0) := by unfold neeR; rw [if_neg (by simpa using hR)]
  rw [hN2] at HN
  have HFt2 := Lib.hid (HFt.out hR)
  by_cases hc : fr.length = neeN ls
  case neg =>
    have hE2 : forE (rs, r, ls, es) fr = 15 := by unfold forE; rw [orE_r _ hR, orE_l _ (by rw [if_neg hc]; decide), if_neg hc]
    rw [hE2]
    have hcI : ¬ (fr.length : Int) = (neeN ls : Int) := by omega
    have hd : ((fr.length : Int) != (neeN ls : Int)) = true := by simpa using hcI
    generalize neeN ls = N at *
    clear hE2 hN2 hE hR HFt HFt2 hc hcI
    go_enter Tryd.func16, Tryd.ntmps16
    go_wp2_with fail
    refine HN.out.mono ?_
    rintro e w2 ⟨rfl, hb2⟩
    have kR2 := kR.to hb2
    have kH2 := kH.to hb2
    clear cS fS lS
    obtain ⟨cR, fR, lR⟩ := kR2.facts
    obtain ⟨cH, fH, lH⟩ := kH2.facts
    go_wp2_with fail
    obtain ⟨W2, hW2, k1, k2, hBW⟩ := HSh.out _ kR2 kH2 (bnext hB1 hb2)
    rw [← hW2]
    exact bodyPost_ret (k1.resCCt (P := Tryd.prog) k2 rfl _ rfl rfl (by kernel_rfl) (by kernel_rfl) (by kernel_rfl)) rfl ⟨_, _, rfl, SpV.zero _, SpV.zero _, SLoc.zero _, SLoc.zero _, hBW⟩
  have hE2 : forE (rs, r, ls, es) fr = fst0 (fitF (rs, r, ls, es) fr) fr.length := by unfold forE; rw [orE_r _ hR, orE_r _ (if_pos hc)]
  rw [hE2] at hE ⊢
  have hd : (fst0 (fitF (rs, r, ls, es) fr) fr.length != 0) = true := by simpa using hE
  generalize fst0 (fitF (rs, r, ls, es) fr) fr.length = z at *
  rw [← hc] at HN
  generalize fr.length = N at *
  clear hE2 hN2 hE hR HFt hc
  go_enter Tryd.func16, Tryd.ntmps16
  go_wp2_with fail
  refine HN.out.mono ?_
  rintro e w2 ⟨rfl, hb2⟩
  replace kS := kS.to hb2
  clear cS fS lS
  obtain ⟨cS, fS, lS⟩ := kS.facts
  go_wp2_with fail
  refine (HFt2.out _ (bnext hB1 hb2)).mono ?_
  rintro e w3 ⟨rfl, hb3⟩
  have kR2 := (kR.to hb2).to hb3
  have kH2 := (kH.to hb2).to hb3
  clear cS fS lS
  obtain ⟨cR, fR, lR⟩ := kR2.facts
  obtain ⟨cH, fH, lH⟩ := kH2.facts
  go_wp2_with fail
  obtain ⟨W2, hW2, k1, k2, hBW⟩ := HSh.out _ kR2 kH2 (bnext (bnext hB1 hb2) hb3)
  rw [← hW2]
  exact bodyPost_ret (k1.resCCt (P := Tryd.prog) k2 rfl _ rfl rfl (by kernel_rfl) (by kernel_rfl) (by kernel_rfl)) rfl ⟨_, _, rfl, SpV.zero _, SpV.zero _, SLoc.zero _, SLoc.zero _, hBW⟩
end Go.Proofs.YtmjahjdnfijpkaaDoor
