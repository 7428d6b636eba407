/- What the reference of chapter 27 returns: Unmap. -/
import Derived.Test.YtpkgfkhaiifooaaGreatDoorGL
import Derived.Test.YtpkgfkhaiifooaaGreatDoorSpR
import Derived.Test.YtpkgfkhaiifooaaGreatDoorSpQ
import Derived.Test.YtpkgfkhaiifooaaGreatDoorRgG
import Derived.Test.YtpkgfkhaiifooaaGreatDoorGZ
import Derived.Deep.RegionHeld3
namespace Go.Proofs.YtpkgfkhaiifooaaGreatDoor
open Go Go.Proofs Go.RowKit
set_option linter.unusedSimpArgs false
set_option linter.unusedVariables false
set_option maxRecDepth 100000

theorem rd_ltU {w : World} {sz n : Nat} {A : Option Addr} {xs : List Value} (h : Rd w sz A n xs) : ∀ b off, 0 < n → A = some ⟨b, off, none⟩ → b < w.heap.size := fun b off h0 he => by
  obtain ⟨b', off', e', hb', _⟩ := h.2 h0
  rw [he] at e'
  injection e' with e'
  injection e' with e'
  omega
theorem Rd.blk {w w' : World} {sz n : Nat} {A : Option Addr} {xs : List Value} (h : Rd w sz A n xs) (hs : w.heap.size ≤ w'.heap.size) (hk : ∀ b off, 0 < n → b < w.heap.size → A = some ⟨b, off, none⟩ → w'.heap[b]? = w.heap[b]?) : Rd w' sz A n xs := by
  refine ⟨h.1, fun h0 => ?_⟩
  obtain ⟨b, off, e, hlt, hc⟩ := h.2 h0
  have ho := hk b off h0 hlt e
  exact ⟨b, off, e, by omega, fun j u hu => (World.cell?_of_block (a := ⟨b, off + j, none⟩) ho).trans (hc j u hu)⟩
theorem rd_mid {w w' : World} {sz n B0 : Nat} {A : Option Addr} {xs : List Value} (h : Rd w sz A n xs) (hb : Below B0 w w') (hl : ∀ b off, 0 < n → A = some ⟨b, off, none⟩ → b < B0) : Rd w' sz A n xs := h.blk hb.size (fun b off h0 _ e => hb.block b (hl b off h0 e))
theorem lst_no {r : Int} {ls : List Int} {es : List Nat} {a b : Int} {n : Nat} (hn : n < 64) (h : (n : Int) < a ∨ b < (n : Int) ∨ (entP es n).1 = 0) : losP r ls es a b (pgs 0 (n + 1)) = losP r ls es a b (pgs 0 n) := by
  rw [pgs_succ, losP_snoc]
  exact losS_no (by rw [pgN hn, Int.toNat_natCast]; exact h)
theorem lst_yes {r : Int} {ls : List Int} {es : List Nat} {a b : Int} {n : Nat} {ls' : List Int} {es' : List Nat} {los : List Lo} (hn : n < 64) (h1 : a ≤ (n : Int)) (h2 : (n : Int) ≤ b) (h3 : (entP es n).1 ≠ 0) (hst : losP r ls es a b (pgs 0 n) = (ls', es', los)) : losP r ls es a b (pgs 0 (n + 1)) = ((clearR r ls' es' n).1.2.1, (clearR r ls' es' n).1.2.2, los ++ [((n : Int), entP es n, (clearR r ls' es' n).2.1)]) := by
  rw [pgs_succ, losP_snoc, hst]
  unfold losS
  rw [pgN hn, Int.toNat_natCast, if_neg (by omega)]
theorem los_head {r : Int} {ls : List Int} {es : List Nat} {a b : Int} : ∀ n : Nat, n ≤ 64 → (n : Int) ≤ a → losP r ls es a b (pgs 0 n) = (ls, es, [])
  | 0, _, _ => rfl
  | n + 1, h, ha => by rw [lst_no (by omega) (.inl (by omega))]; exact los_head n (by omega) (by omega)
theorem los_tail {r : Int} {ls : List Int} {es : List Nat} {a b : Int} {n : Nat} (hb : b < (n : Int)) : ∀ k : Nat, n + k ≤ 64 → losP r ls es a b (pgs 0 (n + k)) = losP r ls es a b (pgs 0 n)
  | 0, _ => rfl
  | k + 1, h => by rw [← Nat.add_assoc, lst_no (by omega) (.inr (.inl (by omega)))]; exact los_tail hb k (by omega)
/-- The memory of Unmap between two pages. -/
structure RumM (r : Int) (rs' : List (Int × Int)) (A3 : Option Addr) (c3 O lo : Nat) (w : World) (u : Value) (L B : Option Addr) (cl d : Nat) (ls' : List Int) (es' : List Nat) (los : List Lo) (wr : World) : Prop where
  kO : Bk wr O #[.slice A3 rs'.length c3, .int .i64 r, .slice L 8 cl, .slice B 64 d] 28
  rL : Rd wr 1 L 8 (iw ls')
  rB : Rd wr 1 B 64 (uw es')
  cap : 8 ≤ cl
  nL : ∀ b off, L = some ⟨b, off, none⟩ → lo < b ∧ b ≠ O ∧ u.ownBlock ≠ some b
  nB : ∀ b off, B = some ⟨b, off, none⟩ → lo < b ∧ b ≠ O ∧ u.ownBlock ≠ some b
  own : wr.ownsRow (O + 1) 59 7 u los.length (loW los)
  rr : Rd wr 2 A3 rs'.length (flat2 .i64 rs')
  lr : ∀ b off, 0 < rs'.length → A3 = some ⟨b, off, none⟩ → lo < b ∧ b < O
  hO : lo < O
  bw : Below O w wr
section
variable {r : Int} {rs' : List (Int × Int)} {A3 : Option Addr} {c3 O lo : Nat} {w : World} {u : Value} {L B : Option Addr} {cl d : Nat} {ls' : List Int} {es' : List Nat} {los : List Lo} {wr : World}
theorem RumM.to {wr' : World} (h : RumM r rs' A3 c3 O lo w u L B cl d ls' es' los wr) (hb : Below wr.heap.size wr wr') : RumM r rs' A3 c3 O lo w u L B cl d ls' es' los wr' :=
  ⟨h.kO.to hb, h.rL.below hb (Nat.le_refl _), h.rB.below hb (Nat.le_refl _), h.cap, h.nL, h.nB, own_below h.own hb, h.rr.below hb (Nat.le_refl _), h.lr, h.hO, h.bw.trans (hb.mono (by have := h.kO.lt; omega))⟩
theorem RumM.put (h : RumM r rs' A3 c3 O lo w u L B cl d ls' es' los wr) {L2 B2 : Option Addr} {cl2 d2 : Nat} {ls2 : List Int} {es2 : List Nat} (hL : Rd wr 1 L2 8 (iw ls2)) (hB : Rd wr 1 B2 64 (uw es2)) (hc : 8 ≤ cl2) (nL2 : ∀ b off, L2 = some ⟨b, off, none⟩ → O < b ∧ u.ownBlock ≠ some b) (nB2 : ∀ b off, B2 = some ⟨b, off, none⟩ → O < b ∧ u.ownBlock ≠ some b) :
    RumM r rs' A3 c3 O lo w u L2 B2 cl2 d2 ls2 es2 los (((wr.setCell ⟨O, 1, none⟩ (.int .i64 r)).setCell ⟨O, 2, none⟩ (.slice L2 8 cl2)).setCell ⟨O, 3, none⟩ (.slice B2 64 d2)) := by
  have hO := h.hO
  refine ⟨by have := ((h.kO.put 1 (.int .i64 r)).put 2 (.slice L2 8 cl2)).put 3 (.slice B2 64 d2); simpa using this, ((hL.far (p := ⟨O, 1, none⟩) (fun b off h0 e => by have := nL2 b off e; show b ≠ O; omega) _).far (p := ⟨O, 2, none⟩) (fun b off h0 e => by have := nL2 b off e; show b ≠ O; omega) _).far (p := ⟨O, 3, none⟩) (fun b off h0 e => by have := nL2 b off e; show b ≠ O; omega) _,
    ((hB.far (p := ⟨O, 1, none⟩) (fun b off h0 e => by have := nB2 b off e; show b ≠ O; omega) _).far (p := ⟨O, 2, none⟩) (fun b off h0 e => by have := nB2 b off e; show b ≠ O; omega) _).far (p := ⟨O, 3, none⟩) (fun b off h0 e => by have := nB2 b off e; show b ≠ O; omega) _, hc,
    fun b off e => by have := nL2 b off e; exact ⟨by omega, by omega, this.2⟩, fun b off e => by have := nB2 b off e; exact ⟨by omega, by omega, this.2⟩,
    own_far (p := ⟨O, 3, none⟩) (own_far (p := ⟨O, 2, none⟩) (own_far (p := ⟨O, 1, none⟩) h.own (by show O < O + 1; omega) _) (by show O < O + 1; omega) _) (by show O < O + 1; omega) _,
    ((h.rr.far (p := ⟨O, 1, none⟩) (fun b off h0 e => by have := h.lr b off h0 e; show b ≠ O; omega) _).far (p := ⟨O, 2, none⟩) (fun b off h0 e => by have := h.lr b off h0 e; show b ≠ O; omega) _).far (p := ⟨O, 3, none⟩) (fun b off h0 e => by have := h.lr b off h0 e; show b ≠ O; omega) _, h.lr, h.hO,
    ((h.bw.setCell (p := ⟨O, 1, none⟩) (Nat.le_refl _) _).setCell (p := ⟨O, 2, none⟩) (Nat.le_refl _) _).setCell (p := ⟨O, 3, none⟩) (Nat.le_refl _) _⟩
theorem RumM.app (h : RumM r rs' A3 c3 O lo w u L B cl d ls' es' los wr) {w9 : World} {v9 : Value} {x : Lo} (hg : wr.grownBy w9 u.ownBlock) (hown : w9.ownsRow (O + 1) 59 7 v9 (los.length + 1) (loW los ++ loC x)) (hl : v9.ownBlock = u.ownBlock ∨ v9.ownBlock = some wr.heap.size) : RumM r rs' A3 c3 O lo w v9 L B cl d ls' es' (los ++ [x]) w9 := by
  have hO := h.hO
  have hu : ∀ g, u.ownBlock = some g → O + 1 ≤ g := fun g e => (h.own.lt g e).1
  have hne : ∀ b off, 0 < 8 → b < wr.heap.size → L = some ⟨b, off, none⟩ → w9.heap[b]? = wr.heap[b]? := fun b off _ hb e => hg.block b hb (fun e2 => (h.nL b off e).2.2 e2.symm)
  have hne2 : ∀ b off, 0 < 64 → b < wr.heap.size → B = some ⟨b, off, none⟩ → w9.heap[b]? = wr.heap[b]? := fun b off _ hb e => hg.block b hb (fun e2 => (h.nB b off e).2.2 e2.symm)
  have hv : ∀ b, b < wr.heap.size → u.ownBlock ≠ some b → v9.ownBlock ≠ some b := fun b hb hn e => by
    rcases hl with hl | hl
    · exact hn (hl.symm.trans e)
    · rw [hl] at e
      injection e with e
      omega
  refine ⟨(hg.block O h.kO.lt (fun e => by have := hu O e.symm; omega)).trans h.kO, h.rL.blk hg.size hne, h.rB.blk hg.size hne2, h.cap,
    fun b off e => by obtain ⟨q1, q2, q3⟩ := h.nL b off e; exact ⟨q1, q2, hv b (rd_ltU h.rL b off (by omega) e) q3⟩,
    fun b off e => by obtain ⟨q1, q2, q3⟩ := h.nB b off e; exact ⟨q1, q2, hv b (rd_ltU h.rB b off (by omega) e) q3⟩,
    by rw [loW_snoc, List.length_append]; exact hown, h.rr.blk hg.size (fun b off h0 hb e => hg.block b hb (fun e2 => by have := hu b e2.symm; have := h.lr b off h0 e; omega)), h.lr, h.hO,
    h.bw.grown hg (by have := h.kO.lt; omega) (fun q e => by have := hu q e; omega)⟩
end
/-- Between two pages. -/
def RumI (r : Int) (ls : List Int) (es : List Nat) (a b : Int) (rs' : List (Int × Int)) (A3 : Option Addr) (c3 O lo : Nat) (w : World) (u i : Value) (wr : World) : Prop := ∃ (n : Nat) (L B : Option Addr) (cl d : Nat) (ls' : List Int) (es' : List Nat) (los : List Lo), (a ≤ (n : Int) ∧ (n : Int) ≤ b + 1) ∧ i = .int .i64 n ∧ Hid (losP r ls es a b (pgs 0 n) = (ls', es', los)) ∧ RumM r rs' A3 c3 O lo w u L B cl d ls' es' los wr

set_option maxHeartbeats 8000000 in
theorem rSpUnmap_any (rs : List (Int × Int)) (r : Int) (ls : List Int) (es : List Nat) (v : Value) (a b : Int) (w : World) (hv : SpV w v (rs, r, ls, es)) (hn : rs.length ≤ 1000) (hs : wsmall es) :
    Calls Tryz.prog 11 #[v, .int .i64 a, .int .i64 b] w fun e w' => SpResU w w' (unmS (rs, r, ls, es) a b).1 (unmS (rs, r, ls, es) a b).2.1 (unmS (rs, r, ls, es) a b).2.2 e := by
  obtain ⟨A, c, L, cl, B, d, hve, hA, hLs, hB, hcc⟩ := id hv
  subst hve
  unfold spcV at hv ⊢
  simp only at hv ⊢ hA hLs hB hcc
  obtain ⟨i0, hi, hz0, hz1, hz2⟩ := info_parts infoLost
  have kS := (Bk.new w #[.slice A rs.length c, .int .i64 r, .slice L ls.length cl, .slice B es.length d] 28).alloc (.cells #[.slice none 0 0, .int .i64 0, .slice none 0 0, .slice none 0 0] 28)
  have kR := Bk.new (w.alloc (.cells #[.slice A rs.length c, .int .i64 r, .slice L ls.length cl, .slice B es.length d] 28)) #[.slice none 0 0, .int .i64 0, .slice none 0 0, .slice none 0 0] 28
  simp only [World.size_alloc] at kR
  have hB1 := balloc (balloc (Below.refl _ w) (.cells #[.slice A rs.length c, .int .i64 r, .slice L ls.length cl, .slice B es.length d] 28)) (.cells #[.slice none 0 0, .int .i64 0, .slice none 0 0, .slice none 0 0] 28)
  generalize hw1 : (w.alloc (.cells #[.slice A rs.length c, .int .i64 r, .slice L ls.length cl, .slice B es.length d] 28)).alloc (.cells #[.slice none 0 0, .int .i64 0, .slice none 0 0, .slice none 0 0] 28) = w1 at *
  have HC := Lib.hid (rSpCheck_any rs r ls es _ _ (hv.to hB1) (by omega) hs)
  obtain ⟨cS, fS, lS⟩ := kS.facts
  obtain ⟨cR, fR, lR⟩ := kR.facts
  by_cases hE : spcE (rs, r, ls, es) = 0
  case neg =>
    have hR : unmS (rs, r, ls, es) a b = (sp0, [], spcE (rs, r, ls, es)) := by unfold unmS; rw [if_pos hE]
    rw [hR]
    have hd : (spcE (rs, r, ls, es) != 0) = true := by simpa using hE
    generalize spcE (rs, r, ls, es) = z at *
    clear hR hE
    go_enter Tryz.func11, Tryz.ntmps11
    go_wp2_with (go_at_call 23; refine HC.out.mono ?_; rintro e w2 ⟨rfl, hb2⟩; clear cS fS lS cR fR lR; obtain ⟨cR, fR, lR⟩ := (kR.to hb2).facts)
    have kF := (kR.to hb2).put4 (.slice none 0 0) (.int .i64 0) (.slice none 0 0) (.slice none 0 0)
    have hBF := below_put4 (bnext hB1 hb2) (g := w.heap.size + 1) (by omega) (.slice none 0 0) (.int .i64 0) (.slice none 0 0) (.slice none 0 0)
    exact bodyPost_ret (kF.res3 (P := Tryz.prog) rfl _ rfl (by kernel_rfl) (by kernel_rfl)) rfl ⟨_, _, rfl, SpV.zero _, SLoc.zero _, IsLo.nil _, ILoc.nil _, hBF⟩
  obtain ⟨hg, hT, _⟩ := spc_zero hE
  simp only at hg hT
  rw [hE] at HC
  have HU := Lib.hid (fun W h => rUnmap_any A rs.length c rs a b W h (by omega))
  by_cases hz : (unmR rs a b).2 = 0
  case neg =>
    have hR : unmS (rs, r, ls, es) a b = (sp0, [], (unmR rs a b).2) := by unfold unmS; rw [if_neg (by simpa using hE), if_pos hz]
    rw [hR]
    have hd : ((unmR rs a b).2 != 0) = true := by simpa using hz
    generalize unmR rs a b = u at *
    clear hR hE hz
    go_enter Tryz.func11, Tryz.ntmps11
    go_wp2_with (first
      | (go_at_call 23; refine HC.out.mono ?_; rintro e w2 ⟨rfl, hb2⟩; clear cS fS lS cR fR lR; obtain ⟨cR, fR, lR⟩ := (kR.to hb2).facts; obtain ⟨cS, fS, lS⟩ := (kS.to hb2).facts)
      | (go_at_call 31; refine (HU.out _ (hA.below (bnext hB1 hb2) (Nat.le_refl _))).mono ?_; rintro e w3 ⟨v3, rfl, hr3, hb3⟩; clear cS fS lS cR fR lR; obtain ⟨cR, fR, lR⟩ := ((kR.to hb2).to hb3).facts))
    have kF := ((kR.to hb2).to hb3).put4 (.slice none 0 0) (.int .i64 0) (.slice none 0 0) (.slice none 0 0)
    have hBF := below_put4 (bnext (bnext hB1 hb2) hb3) (g := w.heap.size + 1) (by omega) (.slice none 0 0) (.int .i64 0) (.slice none 0 0) (.slice none 0 0)
    exact bodyPost_ret (kF.res3 (P := Tryz.prog) rfl _ rfl (by kernel_rfl) (by kernel_rfl)) rfl ⟨_, _, rfl, SpV.zero _, SLoc.zero _, IsLo.nil _, ILoc.nil _, hBF⟩
  have hR : unmS (rs, r, ls, es) a b = (((unmR rs a b).1, r, (losP r ls es a b (pgs 0 64)).1, (losP r ls es a b (pgs 0 64)).2.1), (losP r ls es a b (pgs 0 64)).2.2, 0) := by unfold unmS; rw [if_neg (by simpa using hE), if_neg (by simpa using hz)]
  rw [hR]
  have hbg : begE rs a b = 0 := by
    refine Classical.byContradiction fun h => ?_
    unfold unmR at hz
    rw [if_pos h] at hz
    exact h hz
  obtain ⟨_, ha0, hab, hb63⟩ := begE_zero hbg
  rw [hz] at HU
  clear hR hE hz hbg
  generalize (unmR rs a b).1 = rs' at *
  have H8 := Lib.hid (tab_zero hT).1
  have H64 := Lib.hid (tab_zero hT).2.1
  have HOw := Lib.hid (fun v W h => rSpOwn_any rs r ls es v W h (by omega) (by have := H8.out; omega) (by have := H64.out; omega))
  have HTt := Lib.hid hT
  have HFc := Lib.hid (fun n hn => los_facts hT hs a b n hn)
  obtain ⟨x, rfl⟩ : ∃ x : Nat, a = x := ⟨a.toNat, by omega⟩
  obtain ⟨y, rfl⟩ : ∃ y : Nat, b = y := ⟨b.toNat, by omega⟩
  go_enter Tryz.func11, Tryz.ntmps11
  go_wp2_with fail
  refine HC.out.mono ?_
  rintro e w2 ⟨rfl, hb2⟩
  clear cS fS lS cR fR lR hw1
  replace kS := kS.to hb2
  replace kR := kR.to hb2
  replace hB1 := bnext hB1 hb2
  have hkR := kR.lt
  clear hb2 HC
  obtain ⟨cS, fS, lS⟩ := kS.facts
  go_wp2_with fail
  refine (HU.out _ (hA.below hB1 (Nat.le_refl _))).mono ?_
  rintro e w3 ⟨v3, rfl, hr3, hb3⟩
  obtain ⟨A3, c3, rfl, hrd3⟩ := own_slice hr3
  have hlo3 := own_loc2 hr3
  have hRl := rd_ltU hrd3
  clear cS fS lS hr3
  replace kS := kS.to hb3
  replace kR := kR.to hb3
  replace hB1 := bnext hB1 hb3
  have hs23 := hb3.size
  clear hb3 HU
  obtain ⟨cS, fS, lS⟩ := kS.facts
  go_wp2_with fail
  refine (HOw.out _ _ (hv.to hB1)).mono ?_
  rintro e w4 ⟨v4, rfl, hv4, hl4, hb4⟩
  obtain ⟨AO, cO, LO, clO, BO, dO, rfl, hAO, hLO, hBO, hcO⟩ := id hv4
  obtain ⟨m1, m2, m3⟩ := hl4 _ _ _ _ _ _ _ _ _ _ rfl
  simp only [spcV] at hv4 hl4 hAO hLO hBO hcO m1 m2 m3 ⊢
  clear cS fS lS
  have h8 := H8.out
  have h64 := H64.out
  rw [h8] at hLO hcO m2
  rw [h64] at hBO m3
  clear h8 h64
  have hrd := hrd3.below hb4 (Nat.le_refl _)
  replace kS := kS.to hb4
  replace kR := kR.to hb4
  replace hB1 := bnext hB1 hb4
  have hs34 := hb4.size
  have hLl := rd_ltU hLO
  have hBl := rd_ltU hBO
  clear hb4 HOw hrd3 hAO m1
  go_upto_region 8 with fail
  have kO := Bk.new w4 #[.slice AO rs.length cO, .int .i64 r, .slice LO ls.length clO, .slice BO es.length dO] 28
  have hcN := balloc (Below.refl _ w4) (.cells #[.slice AO rs.length cO, .int .i64 r, .slice LO ls.length clO, .slice BO es.length dO] 28)
  generalize w4.alloc (.cells #[.slice AO rs.length cO, .int .i64 r, .slice LO ls.length clO, .slice BO es.length dO] 28) = w5 at *
  have h8 := H8.out
  have h64 := H64.out
  rw [h8, h64] at kO
  clear h8 h64
  replace kS := kS.to hcN
  replace kR := kR.to hcN
  replace hB1 := bnext hB1 hcN
  replace hrd := hrd.below hcN (Nat.le_refl _)
  replace hLO := hLO.below hcN (Nat.le_refl _)
  replace hBO := hBO.below hcN (Nat.le_refl _)
  have hs45 := hcN.size
  clear hcN hv4 hl4
  obtain ⟨q, hq⟩ : ∃ q, q = w4.heap.size := ⟨_, rfl⟩
  rw [← hq] at kO hs34 hLl hBl hs45 ⊢
  clear hq
  obtain ⟨cO', fO, lO⟩ := kO.facts
  go_upto_region 9 with fail
  clear cO' fO lO
  replace kS := kS.far (p := ⟨q, 0, none⟩) (by show w.heap.size ≠ q; omega) (.slice A3 rs'.length c3)
  replace kR := kR.far (p := ⟨q, 0, none⟩) (by show w.heap.size + 1 ≠ q; omega) (.slice A3 rs'.length c3)
  replace hrd := hrd.far (p := ⟨q, 0, none⟩) (fun b off h0 e => by have := hRl b off h0 e; show b ≠ q; omega) (.slice A3 rs'.length c3)
  replace hLO := hLO.far (p := ⟨q, 0, none⟩) (fun b off h0 e => by have := hLl b off h0 e; show b ≠ q; omega) (.slice A3 rs'.length c3)
  replace hBO := hBO.far (p := ⟨q, 0, none⟩) (fun b off h0 e => by have := hBl b off h0 e; show b ≠ q; omega) (.slice A3 rs'.length c3)
  replace hB1 := hB1.setCell (p := ⟨q, 0, none⟩) (by show w.heap.size ≤ q; omega) (.slice A3 rs'.length c3)
  replace kO := kO.put 0 (.slice A3 rs'.length c3)
  simp only [List.setIfInBounds_toArray, List.set_cons_zero] at kO
  generalize w5.setCell ⟨q, 0, none⟩ (.slice A3 rs'.length c3) = w6 at *
  have hT6 : TbV w6 (.agg #[.int .i64 r, .slice L ls.length cl, .slice B es.length d]) (r, ls, es) := tbv_of (hLs.below hB1 (Nat.le_refl _)) (hB.below hB1 (Nat.le_refl _)) hcc
  have hBo := hB1
  have hLlo := rd_ltU hLs
  have hBlo := rd_ltU hB
  have hqw : w.heap.size ≤ q := by omega
  have hM0 : RumM r rs' A3 c3 q (w.heap.size + 1) w6 (.slice none 0 0) LO BO clO dO ls es [] w6 := ⟨kO, hLO, hBO, hcO, fun b off e => ⟨by have := m2 b off (by omega) e; omega, by have := hLl b off (by omega) e; omega, fun h => by cases h⟩, fun b off e => ⟨by have := m3 b off (by omega) e; omega, by have := hBl b off (by omega) e; omega, fun h => by cases h⟩, World.ownsRow_nil _ _ _ _, hrd, fun b off h0 e => ⟨by have := hlo3 b off _ e; omega, by have := hRl b off h0 e; omega⟩, by omega, Below.refl _ _⟩
  have HM0 := Lib.hid hM0
  have HTb : Hid (∀ W, Below q w6 W → TbV W (.agg #[.int .i64 r, .slice L ls.length cl, .slice B es.length d]) (r, ls, es)) := Lib.hid (fun W hb => tbv_of (rd_mid (hLs.below hBo (Nat.le_refl _)) hb (fun b off h0 e => by have := hLlo b off h0 e; omega)) (rd_mid (hB.below hBo (Nat.le_refl _)) hb (fun b off h0 e => by have := hBlo b off h0 e; omega)) hcc)
  clear hT6
  clear hM0 kO hLO hBO hcO hrd hlo3 hBo hLlo hBlo hRl m2 m3 hLl hBl hLs hB hA hv
  go_wp2_with fail
  go_loopw [13, 14] (fun u i wr => RumI r ls es (x : Int) (y : Int) rs' A3 c3 q (w.heap.size + 1) w6 u i wr) (fun _ i _ => (y + 1) - (intOf i).toNat)
  case atStart => exact ⟨x, LO, BO, clO, dO, ls, es, [], by omega, rfl, Lib.hid (los_head x (by omega) (Int.le_refl _)), HM0.out⟩
  case round =>
    clear HM0
    obtain ⟨n, L7, B7, cl7, d7, ls7, es7, los, ⟨hn1, hn2⟩, rfl, Hst, hM⟩ := hrel
    have kRr := kR.below hM.bw (by omega)
    have kSr := kS.below hM.bw (by omega)
    have hTr := HTb.out wr hM.bw
    have hqr := hM.kO.lt
    by_cases hlt : (n : Int) ≤ y
    · have d1 : decide ((n : Int) ≤ y) = true := decide_eq_true hlt
      have hn64 : n < 64 := by omega
      obtain ⟨f1, f2, f3, f4⟩ := HFc.out n (by omega)
      rw [Hst.out] at f1 f2 f3 f4
      simp only at f1 f2 f3 f4
      have f4n := f4 n hn64
      rw [if_neg (by omega)] at f4n
      have HG := Lib.hid (fun W h => rGet_any r ls es (.agg #[.int .i64 r, .slice L ls.length cl, .slice B es.length d]) n W h hs)
      rw [get_in HTt.out n hn64] at HG
      have her := unp_in HTt.out n hn64
      have HNo := Lib.hid (fun h => lst_no (r := r) (ls := ls) (es := es) (a := (x : Int)) (b := (y : Int)) hn64 (.inr (.inr h)))
      have HYe := Lib.hid (fun h => lst_yes (r := r) (ls := ls) (es := es) (a := (x : Int)) (b := (y : Int)) hn64 hn1 hlt h Hst.out)
      have HCl := Lib.hid (fun (h : unpK (es.getD n 0) ≠ 0) => clear_rel f1 f2 n hn64 (by rw [f4n]; exact h))
      have Hl8 := Lib.hid (tab_zero f1).1
      have Hl64 := Lib.hid (tab_zero f1).2.1
      have Hs7 := Lib.hid f2
      rcases hu : unpR (es.getD n 0) with ⟨⟨ek, en, ea, eb, ec⟩, er⟩
      have hee : entP es n = (ek, en, ea, eb, ec) := by unfold entP; rw [hu]
      have Huk : Hid (unpK (es.getD n 0) = ek) := Lib.hid (by unfold unpK; rw [hu])
      rw [hee] at HNo HYe
      rw [hu] at HG her
      simp only at her HG HNo HYe
      subst her
      clear hu hee f1 f2 f4 f4n hn2
      obtain ⟨cS, fS, lS⟩ := kSr.facts
      go_wp2_with fail
      refine (HG.out _ hTr).mono ?_
      rintro e w7 ⟨rfl, hb7⟩
      clear cS fS lS HG hTr
      go_upto_region 14 with fail
      have kE := Bk.new w7 #[.int .i64 ek, .int .i64 en, .bool ea, .bool eb, .bool ec] 57
      have hcE := balloc hb7 (.cells #[.int .i64 ek, .int .i64 en, .bool ea, .bool eb, .bool ec] 57)
      replace hM := hM.to hcE
      have hs78 := kE.lt
      have hs7 := hb7.size
      generalize w7.alloc (.cells #[.int .i64 ek, .int .i64 en, .bool ea, .bool eb, .bool ec] 57) = w8 at *
      obtain ⟨X, hX⟩ : ∃ X, X = w7.heap.size := ⟨_, rfl⟩
      rw [← hX] at kE hs78 hs7 ⊢
      clear hX hcE hb7 kSr kRr
      obtain ⟨cE, fE, lE⟩ := kE.facts
      by_cases hk0 : ek = 0
      · have d2 : (ek == 0) = true := by simpa using hk0
        have HS2 := Lib.hid ((HNo.out hk0).trans Hst.out)
        have HM := Lib.hid hM
        clear hk0 HNo HYe hM
        go_wp2_with fail
        go_roundw
        case rel => first | exact ⟨n + 1, L7, B7, cl7, d7, ls7, es7, los, by omega, by go_num, HS2, HM.out⟩ | ((repeat apply Exists.intro); exact ⟨⟨n + 1, L7, B7, cl7, d7, ls7, es7, los, by omega, by go_num, HS2, HM.out⟩, rfl⟩)
        case measure => simp [intOf]; omega
      have d2 : (ek == 0) = false := by simpa using hk0
      obtain ⟨g1, g2, g3⟩ := HCl.out (by rw [Huk.out]; exact hk0)
      have HS2 := Lib.hid (HYe.out hk0)
      rw [g1] at HS2
      simp only at HS2
      have HCr := Lib.hid (fun v W h => rClear_any r ls7 es7 v n W h Hs7.out)
      rw [g1] at HCr
      simp only at HCr
      have Hm8 := Lib.hid (tab_zero g2).1
      have Hm64 := Lib.hid (tab_zero g2).2.1
      generalize relL ls7 (es7.set n 0) (n / 8) = ls9 at *
      generalize relF ls7 (es7.set n 0) (n / 8) = lf at *
      generalize es7.set n 0 = es9 at *
      clear g1 g2 g3 HCl HNo HYe hk0
      have kO := hM.kO
      have hT8 : TbV w8 (.agg #[.int .i64 r, .slice L7 8 cl7, .slice B7 64 d7]) (r, ls7, es7) := by
        have h8 := Hl8.out
        have h64 := Hl64.out
        exact ⟨L7, cl7, B7, d7, by simp only [tabV, h8, h64], by simp only [h8]; exact hM.rL, by simp only [h64]; exact hM.rB, by simp only [h8]; exact hM.cap⟩
      obtain ⟨cO', fO, lO⟩ := kO.facts
      go_wp2_with fail
      refine (HCr.out _ _ hT8).mono ?_
      rintro e w9 ⟨v9, rfl, hv9, hl9, hb9⟩
      obtain ⟨L9, cl9, B9, d9, rfl, hL9, hB9, hc9⟩ := id hv9
      obtain ⟨n1, n2⟩ := hl9 _ _ _ _ _ _ _ rfl
      simp only [tabV] at hv9 hl9 hL9 hB9 hc9 n1 n2 ⊢
      clear cO' fO lO cE fE lE hT8 HCr
      have h8 := Hm8.out
      have h64 := Hm64.out
      rw [h8] at hL9 hc9 n1
      rw [h64] at hB9 n2
      clear h8 h64 hv9 hl9 kO
      have hs8 := hM.own
      have hub := fun g e => (hM.own.lt g e).2
      clear hs8
      replace hM := hM.to hb9
      replace kE := kE.to hb9
      have hs89 := hb9.size
      have hL9l := rd_ltU hL9
      have hB9l := rd_ltU hB9
      clear hb9
      go_upto_region 16 with fail
      have kT := Bk.new w9 #[.int .i64 r, .slice L9 ls9.length cl9, .slice B9 es9.length d9] 26
      have hcN := balloc (Below.refl _ w9) (.cells #[.int .i64 r, .slice L9 ls9.length cl9, .slice B9 es9.length d9] 26)
      generalize w9.alloc (.cells #[.int .i64 r, .slice L9 ls9.length cl9, .slice B9 es9.length d9] 26) = wa at *
      have h8 := Hm8.out
      have h64 := Hm64.out
      rw [h8, h64] at kT
      clear h8 h64
      replace hM := hM.to hcN
      replace kE := kE.to hcN
      replace hL9 := hL9.below hcN (Nat.le_refl _)
      replace hB9 := hB9.below hcN (Nat.le_refl _)
      have hs9a := hcN.size
      clear hcN
      have kO := hM.kO
      obtain ⟨cT, fT, lT⟩ := kT.facts
      obtain ⟨cO', fO, lO⟩ := kO.facts
      go_upto_region 17 with fail
      clear cT fT lT cO' fO lO kT kO
      have hM2 := hM.put hL9 hB9 hc9 (cl2 := cl9) (d2 := d9) (fun b off e => ⟨by have := n1 b off (by omega) e; omega, fun h => by have := hub b h; have := n1 b off (by omega) e; omega⟩) (fun b off e => ⟨by have := n2 b off (by omega) e; omega, fun h => by have := hub b h; have := n2 b off (by omega) e; omega⟩)
      replace kE := ((kE.far (p := ⟨q, 1, none⟩) (by show X ≠ q; omega) (.int .i64 r)).far (p := ⟨q, 2, none⟩) (by show X ≠ q; omega) (.slice L9 8 cl9)).far (p := ⟨q, 3, none⟩) (by show X ≠ q; omega) (.slice B9 64 d9)
      clear hM hL9 hB9 hc9 n1 n2 hub hL9l hB9l
      generalize ((wa.setCell ⟨q, 1, none⟩ (.int .i64 r)).setCell ⟨q, 2, none⟩ (.slice L9 8 cl9)).setCell ⟨q, 3, none⟩ (.slice B9 64 d9) = wb at *
      have hlen : los.length ≤ n := f3
      have hown := hM2.own
      have hqb := hM2.kO.lt
      have HM2 := Lib.hid hM2
      clear hM2
      obtain ⟨cE, fE, lE⟩ := kE.facts
      go_wp2_with (at_builtin; refine wpList_append_own_at _ rfl _ _ 36 rfl (q + 1) 59 i0 (.agg #[.int .i64 0, .int .i64 0, .int .i64 0, .bool false, .bool false, .bool false, .int .i64 0]) 7 40 Tryz.underlying36 hi hz0 hz1 hz2 rfl (by decide) _ _ (loW los) rfl (hown.alloc _) ⟨wb.heap.size, 0, none⟩ 1 1 (loC ((n : Int), (ek, en, ea, eb, ec), lf)) rfl rfl (cells_new wb (loC ((n : Int), (ek, en, ea, eb, ec), lf)) 59) (by simp [loC, Value.oneCell']) (by simp only [maxLen]; omega) (by omega) (by simp; omega) ?_; intro v9 w9 hown9 hgr9 _ hloc9)
      have HM3 := Lib.hid (RumM.app (HM2.out.to (balloc (Below.refl _ wb) (.cells #[.int .i64 (n : Int), .int .i64 ek, .int .i64 en, .bool ea, .bool eb, .bool ec, .int .i64 lf] 59))) hgr9 hown9 hloc9 (x := ((n : Int), (ek, en, ea, eb, ec), lf)))
      clear hown9 hgr9 hloc9 hown HM2 cE fE lE
      go_wp2_with fail
      go_roundw
      case rel => first | exact ⟨n + 1, L9, B9, cl9, d9, ls9, es9, _, by omega, by go_num, HS2, HM3.out⟩ | ((repeat apply Exists.intro); exact ⟨⟨n + 1, L9, B9, cl9, d9, ls9, es9, _, by omega, by go_num, HS2, HM3.out⟩, rfl⟩)
      case measure => simp [intOf]; omega
    · have d1 : decide ((n : Int) ≤ y) = false := decide_eq_false hlt
      have hst64 : losP r ls es (x : Int) (y : Int) (pgs 0 64) = (ls7, es7, los) := by
        obtain ⟨j, hj⟩ : ∃ j, 64 = n + j := ⟨64 - n, by omega⟩
        rw [hj, los_tail (by omega) j (by omega)]
        exact Hst.out
      obtain ⟨f1, f2, f3, f4⟩ := HFc.out n (by omega)
      rw [Hst.out] at f1 f2 f3 f4
      simp only at f1
      have Hl8 := Lib.hid (tab_zero f1).1
      have Hl64 := Lib.hid (tab_zero f1).2.1
      have HS := Lib.hid hst64
      clear f1 f2 f3 f4 hst64 HFc Hst HTb hTr kSr kS
      have hlt1 : (y : Int) < (n : Int) := by omega
      obtain ⟨AU, cU, hu13, -⟩ := own_slice hM.own
      subst hu13
      have hloU := own_loc2 hM.own
      have kO := hM.kO
      have HM := Lib.hid hM
      have hbx := hB1.trans (hM.bw.mono hqw)
      clear hM
      obtain ⟨cO', fO, lO⟩ := kO.facts
      obtain ⟨cR, fR, lR⟩ := kRr.facts
      go_wp2_with fail
      have hM := HM.out
      have h8 := Hl8.out
      have h64 := Hl64.out
      have kF := kRr.put4 (.slice A3 rs'.length c3) (.int .i64 r) (.slice L7 8 cl7) (.slice B7 64 d7)
      have hBF := below_put4 hbx (g := w.heap.size + 1) (by omega) (.slice A3 rs'.length c3) (.int .i64 r) (.slice L7 8 cl7) (.slice B7 64 d7)
      have hU2 := own_ne4 hM.own (g := w.heap.size + 1) (fun b off j e => by have := hloU b off j e; omega) (.slice A3 rs'.length c3) (.int .i64 r) (.slice L7 8 cl7) (.slice B7 64 d7)
      have hA2 := Rd.far4 hM.rr (g := w.heap.size + 1) (fun b off h0 e => by have := hM.lr b off h0 e; omega) (.slice A3 rs'.length c3) (.int .i64 r) (.slice L7 8 cl7) (.slice B7 64 d7)
      have hL2 := Rd.far4 hM.rL (g := w.heap.size + 1) (fun b off h0 e => by have := (hM.nL b off e).1; omega) (.slice A3 rs'.length c3) (.int .i64 r) (.slice L7 8 cl7) (.slice B7 64 d7)
      have hB2 := Rd.far4 hM.rB (g := w.heap.size + 1) (fun b off h0 e => by have := (hM.nB b off e).1; omega) (.slice A3 rs'.length c3) (.int .i64 r) (.slice L7 8 cl7) (.slice B7 64 d7)
      exact bodyPost_ret (kF.res3 (P := Tryz.prog) rfl _ rfl (by kernel_rfl) (by kernel_rfl)) rfl (by
        rw [HS.out]
        exact ⟨_, _, rfl, ⟨A3, c3, L7, cl7, B7, d7, by simp only [spcV, h8, h64], hA2, by simp only [h8]; exact hL2, by simp only [h64]; exact hB2, by simp only [h8]; exact hM.cap⟩,
          SLoc.mk (fun b off h0 e => by have := hM.lr b off h0 e; omega) (fun b off h0 e => by have := (hM.nL b off e).1; omega) (fun b off h0 e => by have := (hM.nB b off e).1; omega),
          ⟨AU, cU, rfl, Rd.own hU2⟩, (fun A n c e b off h0 ha => by injection e with e1 e2 e3; subst e1; have := hloU b off _ ha; omega), hBF⟩)
end Go.Proofs.YtpkgfkhaiifooaaGreatDoor
