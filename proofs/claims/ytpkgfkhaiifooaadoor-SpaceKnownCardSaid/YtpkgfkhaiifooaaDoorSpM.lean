/- What space.Moved returns. -/
import Derived.Test.YtpkgfkhaiifooaaDoorSpO
import Derived.Test.YtpkgfkhaiifooaaDoorSpS
import Derived.Test.YtpkgfkhaiifooaaDoorGE
import Derived.Test.YtpkgfkhaiifooaaDoorUnp
import Derived.Deep.DeepCutAuto
import Derived.Deep.RegionHeld3
namespace Go.Proofs.YtpkgfkhaiifooaaDoor
open Go Go.Proofs Go.RowKit Go.Shelf
set_option linter.unusedSimpArgs false
set_option linter.unusedVariables false
set_option maxRecDepth 100000
attribute [local go_sem] Oper.semAt_some

/-- The entries with those of the pages so far changed. -/
def movP (es : List Nat) (frame : Int) (x : Nat) (pre : List Pg) : List Nat := pre.foldl (fun l p => if ownB es frame p.1.toNat then l.set p.1.toNat x else l) es
theorem movP_snoc (es : List Nat) (frame : Int) (x : Nat) (pre : List Pg) (p : Pg) : movP es frame x (pre ++ [p]) = if ownB es frame p.1.toNat then (movP es frame x pre).set p.1.toNat x else movP es frame x pre := by simp [movP]
theorem movP_len (es : List Nat) (frame : Int) (x : Nat) (pre : List Pg) : (movP es frame x pre).length = es.length := by
  unfold movP
  suffices h : ∀ (pre : List Pg) (l : List Nat), (pre.foldl (fun l p => if ownB es frame p.1.toNat then l.set p.1.toNat x else l) l).length = l.length from h pre es
  intro pre
  induction pre with
  | nil => intro l; rfl
  | cons p pre ih =>
    intro l
    rw [List.foldl_cons, ih]
    split
    · rw [List.length_set]
    · rfl
theorem movP_all (es : List Nat) (frame : Int) (x : Nat) : ∀ n : Nat, n ≤ 64 → movP es frame x (pgs 0 n) = movL es frame x n
  | 0, _ => rfl
  | n + 1, hn => by
    rw [pgs_succ, movP_snoc, movP_all es frame x n (by omega), pg_val _ (by omega) (by omega), Int.zero_add, Int.toNat_natCast]
    rfl
theorem uw_set1 (es : List Nat) (j : Nat) (x : Nat) : (uw es).set j (.int .u64 (x : Int)) = uw (es.set j x) := by simp [uw, List.map_set]

theorem keepE_setA {W : World} {Br : Nat} {p : Addr} {B : Option Addr} (h1 : 0 ≠ p.block) (h2 : Br ≠ p.block) (h3 : ∀ b o q, B = some ⟨b, o, q⟩ → b ≠ p.block) (x : Value) : KeepE Br B W (W.setCell p x) :=
  ⟨Below.heap_setCell W p x _ h1, Below.heap_setCell W p x _ h2, fun b o q e => Below.heap_setCell W p x _ (h3 b o q e)⟩
theorem own_ne {w : World} {base n m c : Nat} {e : TypeId} {sz : Nat} {A : Option Addr} {xs : List Value} (h : w.ownsRow base e sz (.slice A n c) m xs) {p : Addr} (hp : ∀ b off q, A = some ⟨b, off, q⟩ → b ≠ p.block) (u : Value) : (w.setCell p u).ownsRow base e sz (.slice A n c) m xs := by
  refine ⟨h.1, ?_⟩
  rcases h.2 with hn | ⟨g, cap, cur, hv, hbg, hg, rest⟩
  · exact .inl hn
  · have hA : A = some ⟨g, 0, none⟩ := by injection hv
    exact .inr ⟨g, cap, cur, hv, hbg, (Below.heap_setCell w p u g (hp _ _ _ hA)).trans hg, rest⟩
theorem own_ne4 {w : World} {base n m c g : Nat} {e : TypeId} {sz : Nat} {A : Option Addr} {xs : List Value} (h : w.ownsRow base e sz (.slice A n c) m xs) (hp : ∀ b off q, A = some ⟨b, off, q⟩ → b ≠ g) (x y z u : Value) : ((((w.setCell ⟨g, 0, none⟩ x).setCell ⟨g, 1, none⟩ y).setCell ⟨g, 2, none⟩ z).setCell ⟨g, 3, none⟩ u).ownsRow base e sz (.slice A n c) m xs :=
  own_ne (own_ne (own_ne (own_ne h (p := ⟨g, 0, none⟩) hp x) (p := ⟨g, 1, none⟩) hp y) (p := ⟨g, 2, none⟩) hp z) (p := ⟨g, 3, none⟩) hp u
theorem own_same {w W : World} {base n m c : Nat} {e : TypeId} {sz : Nat} {A : Option Addr} {xs : List Value} (h : w.ownsRow base e sz (.slice A n c) m xs) (hb : ∀ b off q, A = some ⟨b, off, q⟩ → W.heap[b]? = w.heap[b]?) : W.ownsRow base e sz (.slice A n c) m xs := by
  refine ⟨h.1, ?_⟩
  rcases h.2 with hn | ⟨g, cap, cur, hv, hbg, hg, rest⟩
  · exact .inl hn
  · have hA : A = some ⟨g, 0, none⟩ := by injection hv
    exact .inr ⟨g, cap, cur, hv, hbg, (hb _ _ _ hA).trans hg, rest⟩
theorem heap_put4 {W : World} {g D : Nat} {o : Obj} (h : W.heap[D]? = some o) (hne : D ≠ g) (x y z u : Value) : ((((W.setCell ⟨g, 0, none⟩ x).setCell ⟨g, 1, none⟩ y).setCell ⟨g, 2, none⟩ z).setCell ⟨g, 3, none⟩ u).heap[D]? = some o := by
  rw [Below.heap_setCell _ ⟨g, 3, none⟩ u D hne, Below.heap_setCell _ ⟨g, 2, none⟩ z D hne, Below.heap_setCell _ ⟨g, 1, none⟩ y D hne, Below.heap_setCell _ ⟨g, 0, none⟩ x D hne]
  exact h
theorem own_loc2 {w : World} {base : Nat} {e : TypeId} {sz n m c : Nat} {A : Option Addr} {xs : List Value} (h : w.ownsRow base e sz (.slice A n c) m xs) : ∀ b off q, A = some ⟨b, off, q⟩ → base ≤ b ∧ b < w.heap.size := by
  rintro b off q rfl
  exact h.lt b rfl
theorem Own2.ne4 {w : World} {base gA cA gB cB g : Nat} {ls : List Int} {es : List Nat} (h : Own2 w base gA cA gB cB ls es) (h1 : gA ≠ g) (h2 : gB ≠ g) (x y z u : Value) : Own2 ((((w.setCell ⟨g, 0, none⟩ x).setCell ⟨g, 1, none⟩ y).setCell ⟨g, 2, none⟩ z).setCell ⟨g, 3, none⟩ u) base gA cA gB cB ls es :=
  ⟨own_ne4 h.a (fun b off q e => by injection e with e; injection e with e; omega) x y z u, own_ne4 h.b (fun b off q e => by injection e with e; injection e with e; omega) x y z u, h.ne⟩
/-- A post of an ordinary end alone. -/
def onNormal (R : Act → World → Prop) : Exit → Act → World → Prop
  | .normal, a, w => R a w
  | _, _, _ => False
/-- The copy that Moved writes. -/
def MovC (w5 : World) (rs : List (Int × Int)) (r : Int) (ls : List Int) (es : List Nat) (p gA cA gB cB cI : Nat) (AI : Option Addr) (wx : World) : Prop :=
  Bk wx p #[.slice AI rs.length cI, .int .i64 r, .slice (some ⟨gA, 0, none⟩) 8 cA, .slice (some ⟨gB, 0, none⟩) 64 cB] 28 ∧ wx.ownsRow w5.heap.size 84 2 (.slice AI rs.length cI) rs.length (flat2 .i64 rs) ∧ Own2 wx w5.heap.size gA cA gB cB ls es ∧ (w5.heap.size ≤ p ∧ p ≠ gA ∧ p ≠ gB) ∧ (∀ b off q, AI = some ⟨b, off, q⟩ → b ≠ gB ∧ b ≠ p) ∧ Below w5.heap.size w5 wx
/-- Between two pages of Moved. -/
structure MovI (es : List Nat) (frame : Int) (x : Nat) (w w4 : World) (base gB cB cP : Nat) (pre : List Pg) (W : World) : Prop where
  row : W.ownsRow base 92 1 (.slice (some ⟨gB, 0, none⟩) 64 cB) 64 (uw (movP es frame x pre))
  cnt : Bk W cP #[.int .i64 ((ownP es frame pre).length : Nat)] 3
  same : ∀ b, b < w4.heap.size → b ≠ gB → b ≠ cP → W.heap[b]? = w4.heap[b]?
  size : w4.heap.size ≤ W.heap.size
  below : Below w.heap.size w W
theorem MovI.own (es : List Nat) (frame : Int) (x : Nat) (w w4 : World) (base gB cB cP : Nat) (hb : base ≤ gB) (hg : gB < w4.heap.size) (hc : cP < w4.heap.size) (hw : w.heap.size ≤ w4.heap.size) : OwnFrom w4.heap.size (MovI es frame x w w4 base gB cB cP) := by
  rintro pre W W' row ⟨h1, h2, h3, h4, h5⟩ hg' hr
  have hne : ∀ b, b < w4.heap.size → some b ≠ row := fun b hb e => by have := (hr b e.symm).1; omega
  refine ⟨h1.kept hg' (.inr fun e => hne gB hg (by rw [← e]; rfl)), (hg'.block cP h2.lt (hne cP hc)).trans h2, fun b hb h6 h7 => (hg'.block b (by omega) (hne b hb)).trans (h3 b hb h6 h7), Nat.le_trans h4 hg'.size, h5.grown hg' (by omega) (fun k e => by have := (hr k e).1; omega)⟩
/-- An address space, a number and an error as results. -/
def SpRes3 (w w' : World) (s : Sp) (n er : Int) (e : Ending) : Prop := ∃ v, e = .returned (.tuple #[v, .int .i64 n, .int .i64 er]) ∧ SpV w' v s ∧ SLoc w.heap.size v ∧ Below w.heap.size w w'

theorem spIsSlot_t (n : Int) (w : World) (h0 : 0 ≤ n) (h1 : n < 256) : Calls Tryd.prog 56 #[.int .i64 n] w fun e w' => e = .returned (.bool true) ∧ w' = w := by
  refine (spIsSlot n w).mono ?_
  rintro e w' ⟨rfl, rfl⟩
  exact ⟨by rw [decide_eq_true h0, decide_eq_true h1]; rfl, rfl⟩
theorem spIsSlot_f (n : Int) (w : World) (h : n < 0 ∨ 255 < n) : Calls Tryd.prog 56 #[.int .i64 n] w fun e w' => e = .returned (.bool false) ∧ w' = w := by
  refine (spIsSlot n w).mono ?_
  rintro e w' ⟨rfl, rfl⟩
  have h2 : (decide (0 ≤ n) && decide (n < 256)) = false := by rw [Bool.and_eq_false_iff]; simp only [decide_eq_false_iff_not]; omega
  exact ⟨by rw [h2], rfl⟩
theorem pack_slot (slot : Int) (h0 : 0 ≤ slot) (h1 : slot ≤ 255) : ∃ x : Nat, packR 2 slot false false false = ((x : Int), 0) ∧ x < 65536 := by
  have hc : chk 2 slot false false false = 0 := by grind [chk]
  have hp2 : (packR 2 slot false false false).2 = 0 := by unfold packR; rw [if_neg (by simp [hc])]
  obtain ⟨x, hx, hx2⟩ := packR_nat 2 slot false false false hp2
  exact ⟨x, Prod.ext hx hp2, hx2⟩

set_option maxHeartbeats 4000000 in
theorem Moved_any (rs : List (Int × Int)) (r : Int) (ls : List Int) (es : List Nat) (v : Value) (frame slot : Int) (w : World) (hv : SpV w v (rs, r, ls, es)) (hn : rs.length ≤ 1000000) (hs : wsmall es) (hL : LayOK w) :
    Calls Tryd.prog 20 #[v, .int .i64 frame, .int .i64 slot] w fun e w' => SpRes3 w w' (movR (rs, r, ls, es) frame slot).1 (movR (rs, r, ls, es) frame slot).2.1 (movR (rs, r, ls, es) frame slot).2.2 e := by
  obtain ⟨A, c, L, cl, B, d, hve, hA, hLs, hB, hcc⟩ := id hv
  subst hve
  unfold spcV at hv ⊢
  simp only at hv ⊢ hA hLs hB hcc
  have kS := ((Bk.new w #[.slice A rs.length c, .int .i64 r, .slice L ls.length cl, .slice B es.length d] 28).alloc (.cells #[.int .i64 frame] 3)).alloc (.cells #[.slice none 0 0, .int .i64 0, .slice none 0 0, .slice none 0 0] 28)
  have kFr := (Bk.new (w.alloc (.cells #[.slice A rs.length c, .int .i64 r, .slice L ls.length cl, .slice B es.length d] 28)) #[.int .i64 frame] 3).alloc (.cells #[.slice none 0 0, .int .i64 0, .slice none 0 0, .slice none 0 0] 28)
  have kR := Bk.new ((w.alloc (.cells #[.slice A rs.length c, .int .i64 r, .slice L ls.length cl, .slice B es.length d] 28)).alloc (.cells #[.int .i64 frame] 3)) #[.slice none 0 0, .int .i64 0, .slice none 0 0, .slice none 0 0] 28
  simp only [World.size_alloc] at kFr kR
  have hB1 := balloc (balloc (balloc (Below.refl _ w) (.cells #[.slice A rs.length c, .int .i64 r, .slice L ls.length cl, .slice B es.length d] 28)) (.cells #[.int .i64 frame] 3)) (.cells #[.slice none 0 0, .int .i64 0, .slice none 0 0, .slice none 0 0] 28)
  generalize hw1 : ((w.alloc (.cells #[.slice A rs.length c, .int .i64 r, .slice L ls.length cl, .slice B es.length d] 28)).alloc (.cells #[.int .i64 frame] 3)).alloc (.cells #[.slice none 0 0, .int .i64 0, .slice none 0 0, .slice none 0 0] 28) = w1 at *
  have HC := Lib.hid (spCheck_any rs r ls es _ _ (hv.to hB1) hn hs (hL.below hB1))
  obtain ⟨cS, fS, lS⟩ := kS.facts
  obtain ⟨cF, fF, lF⟩ := kFr.facts
  obtain ⟨cR, fR, lR⟩ := kR.facts
  by_cases hE : spcE (rs, r, ls, es) = 0
  case neg =>
    have hR : movR (rs, r, ls, es) frame slot = (sp0, 0, spcE (rs, r, ls, es)) := by unfold movR; rw [if_pos hE]
    rw [hR]
    have hd : (spcE (rs, r, ls, es) != 0) = true := by simpa using hE
    generalize spcE (rs, r, ls, es) = z at *
    clear hR hE
    go_enter Tryd.func20, Tryd.ntmps20
    go_wp2_with (go_at_call 15; refine HC.out.mono ?_; rintro e w2 ⟨rfl, hb2⟩; clear cS fS lS cF fF lF cR fR lR; obtain ⟨cR, fR, lR⟩ := (kR.to hb2).facts)
    have kF := (kR.to hb2).put4 (.slice none 0 0) (.int .i64 0) (.slice none 0 0) (.slice none 0 0)
    have hBF := below_put4 (bnext hB1 hb2) (g := w.heap.size + 1 + 1) (by omega) (.slice none 0 0) (.int .i64 0) (.slice none 0 0) (.slice none 0 0)
    exact bodyPost_ret (kF.res3 (P := Tryd.prog) rfl _ rfl (by kernel_rfl) (by kernel_rfl)) rfl ⟨_, rfl, SpV.zero _, SLoc.zero _, hBF⟩
  obtain ⟨hg, hT, _⟩ := spc_zero hE
  simp only at hg hT
  rw [hE] at HC
  by_cases hfr : frame < 0 ∨ 255 < frame
  · have hR : movR (rs, r, ls, es) frame slot = (sp0, 0, 2) := by unfold movR; rw [if_neg (by simpa using hE), if_pos (by omega)]
    rw [hR]
    have HF := Lib.hid (fun W => spIsFrame_f frame W hfr)
    clear hR hE hfr
    go_enter Tryd.func20, Tryd.ntmps20
    go_wp2_with (first
      | (go_at_call 15; refine HC.out.mono ?_; rintro e w2 ⟨rfl, hb2⟩; clear cS fS lS cF fF lF cR fR lR; obtain ⟨cR, fR, lR⟩ := (kR.to hb2).facts; obtain ⟨cF, fF, lF⟩ := (kFr.to hb2).facts)
      | (go_at_call 55; refine (HF.out _).mono ?_; rintro e w' ⟨rfl, h'⟩; subst h'))
    have kF := (kR.to hb2).put4 (.slice none 0 0) (.int .i64 0) (.slice none 0 0) (.slice none 0 0)
    have hBF := below_put4 (bnext hB1 hb2) (g := w.heap.size + 1 + 1) (by omega) (.slice none 0 0) (.int .i64 0) (.slice none 0 0) (.slice none 0 0)
    exact bodyPost_ret (kF.res3 (P := Tryd.prog) rfl _ rfl (by kernel_rfl) (by kernel_rfl)) rfl ⟨_, rfl, SpV.zero _, SLoc.zero _, hBF⟩
  by_cases hsl : slot < 0 ∨ 255 < slot
  · have hR : movR (rs, r, ls, es) frame slot = (sp0, 0, 2) := by unfold movR; rw [if_neg (by simpa using hE), if_pos (by omega)]
    rw [hR]
    have HF := Lib.hid (fun W => spIsFrame_t frame W (by omega) (by omega))
    have HS := Lib.hid (fun W => spIsSlot_f slot W hsl)
    clear hR hE hfr hsl
    go_enter Tryd.func20, Tryd.ntmps20
    go_wp2_with (first
      | (go_at_call 15; refine HC.out.mono ?_; rintro e w2 ⟨rfl, hb2⟩; clear cS fS lS cF fF lF cR fR lR; obtain ⟨cR, fR, lR⟩ := (kR.to hb2).facts; obtain ⟨cF, fF, lF⟩ := (kFr.to hb2).facts)
      | (go_at_call 55; refine (HF.out _).mono ?_; rintro e w' ⟨rfl, h'⟩; subst h')
      | (go_at_call 56; refine (HS.out _).mono ?_; rintro e w' ⟨rfl, h'⟩; subst h'))
    have kF := (kR.to hb2).put4 (.slice none 0 0) (.int .i64 0) (.slice none 0 0) (.slice none 0 0)
    have hBF := below_put4 (bnext hB1 hb2) (g := w.heap.size + 1 + 1) (by omega) (.slice none 0 0) (.int .i64 0) (.slice none 0 0) (.slice none 0 0)
    exact bodyPost_ret (kF.res3 (P := Tryd.prog) rfl _ rfl (by kernel_rfl) (by kernel_rfl)) rfl ⟨_, rfl, SpV.zero _, SLoc.zero _, hBF⟩
  obtain ⟨xw, hpk, hx⟩ := pack_slot slot (by omega) (by omega)
  have hR : movR (rs, r, ls, es) frame slot = ((rs, r, ls, movP es frame xw (pgs 0 64)), ((ownP es frame (pgs 0 64)).length : Int), 0) := by
    unfold movR
    rw [if_neg (by simpa using hE), if_neg (by omega), hpk, movP_all es frame xw 64 (by omega), ownP_all es frame 64 (by omega)]
    rfl
  rw [hR]
  have HF := Lib.hid (fun W => spIsFrame_t frame W (by omega) (by omega))
  have HS := Lib.hid (fun W => spIsSlot_t slot W (by omega) (by omega))
  have HP := Lib.hid (fun W h => Pack_any 2 slot false false false W h)
  rw [hpk] at HP
  obtain ⟨h8, h64, _⟩ := tab_zero hT
  clear hR hE hfr hsl hpk cS fS lS cF fF lF cR fR lR
  rw [h8] at kS hLs hcc HC hw1 ⊢
  rw [h64] at kS hB HC hw1 ⊢
  obtain ⟨cS, fS, lS⟩ := kS.facts
  have hF : ∀ f, Fence.wide.fn f := fun _ => trivial
  refine (callsIn_wide (n := 4)).1 ?_
  refine callsIn_of_wp_marks Tryd.func20 rfl trivial ?_ rfl
  simp only [Tryd.ntmps20, List.size_toArray, List.length_cons, List.length_nil, Nat.reduceAdd, Nat.reduceSub, Array.replicate_succ, Array.replicate_zero, List.push_toArray, List.append_toArray, List.nil_append, List.cons_append]
  gi_wp2_with fail
  refine (callsIn_wide.2 HC.out).mono ?_
  rintro e w2 ⟨rfl, hb2⟩
  replace kS := kS.to hb2
  replace kFr := kFr.to hb2
  replace kR := kR.to hb2
  replace hB1 := bnext hB1 hb2
  clear cS fS lS hb2 hw1
  obtain ⟨cF, fF, lF⟩ := kFr.facts
  gi_wp2_with (first
    | (gi_at_call 55; refine (callsIn_wide.2 (HF.out _)).mono ?_; rintro e w' ⟨rfl, h'⟩; subst h')
    | (gi_at_call 56; refine (callsIn_wide.2 (HS.out _)).mono ?_; rintro e w' ⟨rfl, h'⟩; subst h'))
  refine (callsIn_wide.2 (HP.out _ (hL.below hB1))).mono ?_
  rintro e w3 ⟨rfl, hb3⟩
  clear cF fF lF
  gi_wp2_with fail
  refine wpIn_wide.2 ?_
  have hs3 : w.heap.size + 1 + 1 < w3.heap.size := by have := kR.lt; have := hb3.size; omega
  replace kS := kS.to hb3
  replace kFr := kFr.to hb3
  replace kR := kR.to hb3
  replace hB1 := bnext hB1 hb3
  have kO := Bk.new w3 #[.int .u64 (xw : Nat)] 92
  have hcO := balloc (Below.refl _ w3) (.cells #[.int .u64 (xw : Nat)] 92)
  generalize hw5 : w3.alloc (.cells #[.int .u64 (xw : Nat)] 92) = w5 at *
  have hs5 : w3.heap.size < w5.heap.size := kO.lt
  replace kS := kS.to hcO
  replace kFr := kFr.to hcO
  replace kR := kR.to hcO
  replace hB1 := bnext hB1 hcO
  have hA5 := hA.below hB1 (Nat.le_refl _)
  have hT5 : TbV w5 (.agg #[.int .i64 r, .slice L 8 cl, .slice B 64 d]) (r, ls, es) := by
    have := tbv_of (r := r) (ls := ls) (es := es) (cl := cl) (d := d) (by rw [h8]; exact hLs.below hB1 (Nat.le_refl _)) (by rw [h64]; exact hB.below hB1 (Nat.le_refl _)) (by rw [h8]; exact hcc)
    rwa [h8, h64] at this
  have s0 := kS.cell 0
  have s1 := kS.cell 1
  have s2 := kS.cell 2
  have s3 := kS.cell 3
  simp at s0 s1 s2 s3
  have h8' := Lib.hid h8
  have h64' := Lib.hid h64
  have HT := Lib.hid hT
  clear hw5 hcO hb3 HC HP HF HS h8 h64 hT hv hg
  refine Code.wp_mono (Q := onNormal fun a' wx => ∃ p gA cA gB cB cI AI, a' = { tmps := #[.agg #[.slice A rs.length c, .int .i64 r, .slice L 8 cl, .slice B 64 d], .int .i64 frame, .int .i64 slot, .pointer (some ⟨w.heap.size, 0, none⟩), .pointer (some ⟨w.heap.size + 1, 0, none⟩), undef, .pointer (some ⟨w.heap.size + 1 + 1, 0, none⟩), .int .i64 0, .int .i64 0, .int .i64 0, .pointer (some ⟨w3.heap.size, 0, none⟩), .int .i64 0, .pointer (some ⟨p, 0, none⟩), undef, undef, undef, .agg #[.slice A rs.length c, .int .i64 r, .slice L 8 cl, .slice B 64 d], .int .i64 0, .int .i64 0, .bool false, undef, undef, .int .i64 frame, .bool true, .bool false, .bool false, .int .i64 slot, .bool true, .bool false, .bool false, undef, .tuple #[.int .u64 (xw : Nat), .int .i64 0], .int .i64 slot, .agg #[.int .i64 2, .int .i64 slot, .bool false, .bool false, .bool false], .tuple #[.int .u64 (xw : Nat), .int .i64 0], .int .u64 (xw : Nat), .int .i64 0, .int .i64 0, .bool false, undef, undef, .pointer (some ⟨w.heap.size, 0, none⟩), .slice A rs.length c, .slice AI rs.length cI, .pointer (some ⟨w.heap.size, 1, none⟩), .agg #[.int .i64 r, .slice L 8 cl, .slice B 64 d], .agg #[.int .i64 r, .slice (some ⟨gA, 0, none⟩) 8 cA, .slice (some ⟨gB, 0, none⟩) 64 cB], .agg #[.slice AI rs.length cI, .int .i64 r, .slice (some ⟨gA, 0, none⟩) 8 cA, .slice (some ⟨gB, 0, none⟩) 64 cB], undef, undef, undef, undef, undef, undef, undef, undef, undef, undef, undef, undef, undef, undef, undef, undef, undef, undef, undef, undef, undef, undef, undef, undef], defers := [] } ∧ MovC w5 rs r ls es p gA cA gB cB cI AI wx) ?post ?_
  case post =>
    rintro e a' wx h
    cases e <;> first | exact h.elim | skip
    obtain ⟨p, gA, cA, gB, cB, cI, AI, rfl, hC⟩ := h
    clear s0 s1 s2 s3
    obtain ⟨kN, hoR, hO, ⟨hp0, hpA, hpB⟩, hAI, hbC⟩ := hC
    replace kS := kS.to hbC
    replace kFr := kFr.to hbC
    replace kR := kR.to hbC
    replace kO := kO.to hbC
    replace hB1 := bnext hB1 hbC
    have hs6 := hbC.size
    have hlO := hO.lt
    have hlp := kN.lt
    clear hA5 hT5 hbC
    obtain ⟨cS, fS, lS⟩ := (kS.alloc (.cells #[.int .i64 0] 3)).facts
    simp only [Exit.then]
    go_at_K
    gi_wp2_with fail
    refine (entries_in Fence.wide 3 trivial rfl r L B 8 cl 64 d _).mono ?_
    rintro e w'' ⟨rfl, rfl⟩
  -- RANGE Moved
    have kP := Bk.new wx #[.int .i64 0] 3
    have hcP := balloc (Below.refl _ wx) (.cells #[.int .i64 0] 3)
    have hsP : (wx.alloc (.cells #[.int .i64 0] 3)).heap.size = wx.heap.size + 1 := by simp
    have hswx : w.heap.size + 1 + 1 < wx.heap.size := kR.lt
    have hlo := own_loc2 hoR
    generalize wx.alloc (.cells #[.int .i64 0] 3) = wz at *
    have hPz : wx.heap.size < wz.heap.size := by omega
    clear hsP
    replace hB1 := bnext hB1 hcP
    have hT := HT.out
    have h8 := h8'.out
    have h64 := h64'.out
    have hlay : 0 < w.heap.size := hL.lt
    have hbA : ∀ b o p, B = some ⟨b, o, p⟩ → b < w.heap.size := by
      obtain ⟨b', off', rfl, hb', _⟩ := hB.2 (by omega)
      intro b o p e
      injection e with e
      injection e with e
      subst e
      exact hb'
    have hL3 := hL.below hB1
    have kBr := Bk.new wz #[.int .i64 r, .slice L 8 cl, .slice B 64 d] 26
    have hB4 := balloc (Below.refl _ wz) (.cells #[.int .i64 r, .slice L 8 cl, .slice B 64 d] 26)
    have hs4 : (wz.alloc (.cells #[.int .i64 r, .slice L 8 cl, .slice B 64 d] 26)).heap.size = wz.heap.size + 1 := by simp
    generalize hw4 : wz.alloc (.cells #[.int .i64 r, .slice L 8 cl, .slice B 64 d] 26) = w4 at *
    have hL4 := hL3.below hB4
    have hs5 : wz.heap.size < w4.heap.size := by omega
    have hsw : w.heap.size < wz.heap.size := by have := hB1.size; omega
    have HIt : ItW w4 wz.heap.size B := ⟨by omega, by omega, fun b o p e => by have := hbA b o p e; omega⟩
    have hB14 := bnext hB1 hB4
    clear cS fS lS hw4 hs4
    have hcz := bnext hcP hB4
    have kFr4 := kFr.to hcz
    have kR4 := kR.to hcz
    have kO4 := kO.to hcz
    have kN4 := kN.to hcz
    have kP4 := kP.to hB4
    have hoR4 := own_below hoR hcz
    have hO4 := hO.to hcz
    have HOwn : OwnFrom w4.heap.size (MovI es frame xw w w4 w5.heap.size gB cB wx.heap.size) := MovI.own es frame xw w w4 w5.heap.size gB cB wx.heap.size (by omega) (by omega) (by omega) (by omega)
    clear hcP hB4 hcz kS kFr kR kO kN kP hoR hO h8 h64 hL3
    gi_wp2_with fail
    refine wpIn_rangeFunc_ownH rfl (by omega) (gf := 84) (lb := #[.pointer (some ⟨wz.heap.size, 0, none⟩)]) rfl trivial (enters_of Tryd.func84 (by kernel_rfl) rfl)
      (entries_stops wz.heap.size B d r ls es hT hs _ hL4 (hB.below hB14 (Nat.le_refl _)) (kBr.cell 2)) keepE_t (keepE_b HIt.l HIt.r HIt.b) (Below.refl _ _) (fun _ => rfl)
      (MovI es frame xw w w4 w5.heap.size gB cB wx.heap.size) (fun _ _ _ => False) ?hI ?hIx ?h0
      (fun x a' W => ∃ q, Bk W q (entA (entP es x.1.toNat)) 38 ∧ w4.heap.size ≤ q ∧ a' = { tmps := #[.agg #[.slice A rs.length c, .int .i64 r, .slice L 8 cl, .slice B 64 d], .int .i64 frame, .int .i64 slot, .pointer (some ⟨w.heap.size, 0, none⟩), .pointer (some ⟨w.heap.size + 1, 0, none⟩), undef, .pointer (some ⟨w.heap.size + 1 + 1, 0, none⟩), .int .i64 0, .int .i64 0, .int .i64 0, .pointer (some ⟨w3.heap.size, 0, none⟩), .int .i64 0, .pointer (some ⟨p, 0, none⟩), .pointer (some ⟨wx.heap.size, 0, none⟩), .int .i64 x.1, .pointer (some ⟨q, 0, none⟩), .agg #[.slice A rs.length c, .int .i64 r, .slice L 8 cl, .slice B 64 d], .int .i64 0, .int .i64 0, .bool false, undef, undef, .int .i64 frame, .bool true, .bool false, .bool false, .int .i64 slot, .bool true, .bool false, .bool false, undef, .tuple #[.int .u64 (xw : Nat), .int .i64 0], .int .i64 slot, .agg #[.int .i64 2, .int .i64 slot, .bool false, .bool false, .bool false], .tuple #[.int .u64 (xw : Nat), .int .i64 0], .int .u64 (xw : Nat), .int .i64 0, .int .i64 0, .bool false, undef, undef, .pointer (some ⟨w.heap.size, 0, none⟩), .slice A rs.length c, .slice AI rs.length cI, .pointer (some ⟨w.heap.size, 1, none⟩), .agg #[.int .i64 r, .slice L 8 cl, .slice B 64 d], .agg #[.int .i64 r, .slice (some ⟨gA, 0, none⟩) 8 cA, .slice (some ⟨gB, 0, none⟩) 64 cB], .agg #[.slice AI rs.length cI, .int .i64 r, .slice (some ⟨gA, 0, none⟩) 8 cA, .slice (some ⟨gB, 0, none⟩) 64 cB], .pointer (some ⟨w.heap.size, 1, none⟩), .agg #[.int .i64 r, .slice L 8 cl, .slice B 64 d], .func (.func 84) #[] #[.pointer (some ⟨wz.heap.size, 0, none⟩)], .int .i64 x.1, entV (entP es x.1.toNat), undef, undef, undef, undef, undef, undef, undef, undef, undef, undef, undef, undef, undef, undef, undef, undef, undef, undef, undef], defers := [] }) ?hAx ?assign ?body ?done ?stop
    case hI => exact HOwn
    case hIx => exact fun _ _ _ _ _ hs _ _ => hs
    case h0 => exact ⟨hO4.b, kP4, fun _ _ _ _ => rfl, Nat.le_refl _, hB14⟩
    case hAx => exact fun x a' _ W W' row ⟨q, h1, h2⟩ hg hr => ⟨q, bk_own () W W' row h1 hg hr, h2⟩
    case assign =>
      rintro l pre x W K hi hK
      unfold entV at hK ⊢
      dsimp only at hK ⊢
      gi_wp2
      exact hK _ _ (keepsFrom_below (balloc (Below.refl _ _) _)) ((HIt.le hi.size).keep (balloc (Below.refl _ _) _)) (HOwn.alloc _ hi) ⟨_, Bk.new _ _ _, hi.size, rfl⟩
    case body =>
      rintro l pre ⟨y, hx0, hx1⟩ a' W hl _ hi ⟨q, kq, hq, rfl⟩ hlen
      obtain ⟨j, rfl⟩ : ∃ j : Nat, y = j := ⟨y.toNat, by omega⟩
      simp only [Int.toNat_natCast] at kq
      dsimp only
      simp only [Int.toNat_natCast]
      have HY := Lib.hid (fun h => ownP_yes (es := es) (frame := frame) (pre := pre) (x := ⟨(j : Int), hx0, hx1⟩) h)
      have HN := Lib.hid (fun h => ownP_no (es := es) (frame := frame) (pre := pre) (x := ⟨(j : Int), hx0, hx1⟩) h)
      have hms := movP_snoc es frame xw pre ⟨(j : Int), hx0, hx1⟩
      simp only [Int.toNat_natCast] at HY HN hms
      have hm := ownP_len es frame pre
      rcases hee : entP es j with ⟨k1, n1, a1, b1, c1⟩
      have hob := ownB_of (frame := frame) hee
      rw [hob] at HY HN hms
      rw [hee] at kq
      clear hob hee
      unfold entV
      unfold entA at kq
      simp only at kq ⊢
      have hm64 : (ownP es frame pre).length < 64 := by omega
      clear hm
      have hj64 : j < 64 := by omega
      have kFW : Bk W (w.heap.size + 1) #[.int .i64 frame] 3 := (hi.same _ (by omega) (by omega) (by omega)).trans kFr4
      obtain ⟨cF, fF, lF⟩ := kFW.facts
      obtain ⟨cQ, fQ, lQ⟩ := kq.facts
      have hKE0 := (HIt.le hi.size).keep (Below.refl W.heap.size W)
      have hno : ownP es frame (pre ++ [⟨(j : Int), hx0, hx1⟩]) = ownP es frame pre → movP es frame xw (pre ++ [⟨(j : Int), hx0, hx1⟩]) = movP es frame xw pre → KeepsFrom w4.heap.size W W ∧ KeepE wz.heap.size B W W ∧ MovI es frame xw w w4 w5.heap.size gB cB wx.heap.size (pre ++ [⟨(j : Int), hx0, hx1⟩]) W := fun h1 h2 => ⟨KeepsFrom.refl _ _, hKE0, by rw [h2]; exact hi.row, by rw [h1]; exact hi.cnt, hi.same, hi.size, hi.below⟩
      have HNO := Lib.hid hno
      have HMS := Lib.hid hms
      clear hno hKE0 hms
      by_cases hk1 : k1 = 1
      case neg =>
        have hd : (k1 == 1) = false := by simpa using hk1
        rw [show decide (k1 = 1) = false from decide_eq_false hk1, Bool.false_and] at HN HMS
        clear hk1 HY
        gi_wp2
        exact HNO.out (HN.out (by trivial)) HMS.out
      by_cases hn1 : n1 = frame
      case neg =>
        subst hk1
        have hd : (n1 == frame) = false := by simpa using hn1
        rw [show decide (n1 = frame) = false from decide_eq_false hn1, Bool.and_false] at HN HMS
        clear hn1 HY
        gi_wp2
        exact HNO.out (HN.out (by trivial)) HMS.out
      subst hk1 hn1
      rw [show (decide ((1 : Int) = 1) && decide (n1 = n1)) = true by simp] at HY HMS
      have HY2 := Lib.hid (HY.out rfl)
      clear HY HN HNO
      have kNW : Bk W p #[.slice AI rs.length cI, .int .i64 r, .slice (some ⟨gA, 0, none⟩) 8 cA, .slice (some ⟨gB, 0, none⟩) 64 cB] 28 := (hi.same _ (by omega) hpB (by omega)).trans kN4
      have kOW : Bk W w3.heap.size #[.int .u64 (xw : Nat)] 92 := (hi.same _ (by omega) (by omega) (by omega)).trans kO4
      obtain ⟨cN, fN, lN⟩ := kNW.facts
      obtain ⟨cO, fO, lO⟩ := kOW.facts
      obtain ⟨cC, fC, lC⟩ := hi.cnt.facts
      obtain ⟨v0, hv0⟩ : ∃ v0, W.cell? ⟨gB, j, none⟩ = some v0 := ⟨_, by rw [hi.row.cellAt j (by omega)]; exact List.getElem?_eq_getElem (by rw [hi.row.1]; omega)⟩
      have hf0 := hi.row.frozenAt j
      have hgW : gB < W.heap.size := by have := hi.size; omega
      generalize hmm : (ownP es n1 pre).length = m at *
      have Hmm := Lib.hid hmm
      clear hmm
      gi_wp2
      have hr := (hi.row.stored j (.int .u64 (xw : Nat))).1
      rw [uw_set1] at hr
      refine ⟨((KeepsOthers.setCell _ _ _).trans (KeepsOthers.setCell _ _ _)).from _, keepE_t (keepE_setA (p := ⟨gB, j, none⟩) (by show _ ≠ gB; omega) (by show _ ≠ gB; omega) (fun b o p e => by have := hbA b o p e; show b ≠ gB; omega) _) (keepE_set (by omega) (by omega) (fun b o p e => by have := hbA b o p e; omega) _), ?_, ?_, ?_, ?_, ?_⟩
      · rw [HMS.out]
        exact own_side (p := ⟨wx.heap.size, 0, none⟩) hr (by show wx.heap.size ≠ gB; omega) _
      · rw [HY2.out, List.length_append, Hmm.out]
        have := (hi.cnt.far (p := ⟨gB, j, none⟩) (by show wx.heap.size ≠ gB; omega) (.int .u64 (xw : Nat))).put 0 (.int .i64 ((m : Int) + 1))
        rw [show ((m + [((⟨(j : Int), hx0, hx1⟩ : Pg)).1].length : Nat) : Int) = (m : Int) + 1 by simp]
        exact this
      · intro b hb h1 h2
        rw [Below.heap_setCell _ ⟨wx.heap.size, 0, none⟩ _ b h2, Below.heap_setCell _ ⟨gB, j, none⟩ _ b h1]
        exact hi.same b hb h1 h2
      · simpa using hi.size
      · exact (hi.below.setCell (p := ⟨gB, j, none⟩) (by show w.heap.size ≤ gB; omega) _).setCell (p := ⟨wx.heap.size, 0, none⟩) (by show w.heap.size ≤ wx.heap.size; omega) _
    case done =>
      rintro D ys W hD rfl hi hK
      have kNW : Bk W p #[.slice AI rs.length cI, .int .i64 r, .slice (some ⟨gA, 0, none⟩) 8 cA, .slice (some ⟨gB, 0, none⟩) 64 cB] 28 := (hi.same _ (by omega) hpB (by omega)).trans kN4
      have kRW : Bk W (w.heap.size + 1 + 1) #[.slice none 0 0, .int .i64 0, .slice none 0 0, .slice none 0 0] 28 := (hi.same _ (by omega) (by omega) (by omega)).trans kR4
      obtain ⟨cN, fN, lN⟩ := kNW.facts
      obtain ⟨cC, fC, lC⟩ := hi.cnt.facts
      obtain ⟨cR, fR, lR⟩ := kRW.facts
      gi_wp2_with fail
      refine wpIn_wide.2 ?_
      go_region
      simp only [Exit.then]
      go_at_K
      gi_wp2
      have kF := (kRW.put4 (.slice AI rs.length cI) (.int .i64 r) (.slice (some ⟨gA, 0, none⟩) 8 cA) (.slice (some ⟨gB, 0, none⟩) 64 cB)).drew
      have hBF := below_drew (below_put4 hi.below (g := w.heap.size + 1 + 1) (by omega) (.slice AI rs.length cI) (.int .i64 r) (.slice (some ⟨gA, 0, none⟩) 8 cA) (.slice (some ⟨gB, 0, none⟩) 64 cB))
      have hR1 := own_same hoR4 (fun b off q e => by have := hlo b off q e; have := hAI b off q e; exact hi.same b (by omega) (by omega) (by omega))
      have hA1 := own_same hO4.a (fun b off q e => by injection e with e; injection e with e; subst e; exact hi.same gA (by omega) hO4.ne (by omega))
      have hR2 := own_ne4 hR1 (g := w.heap.size + 1 + 1) (fun b off q e => by have := hlo b off q e; omega) (.slice AI rs.length cI) (.int .i64 r) (.slice (some ⟨gA, 0, none⟩) 8 cA) (.slice (some ⟨gB, 0, none⟩) 64 cB)
      have hA2 := own_ne4 hA1 (g := w.heap.size + 1 + 1) (fun b off q e => by injection e with e; injection e with e; omega) (.slice AI rs.length cI) (.int .i64 r) (.slice (some ⟨gA, 0, none⟩) 8 cA) (.slice (some ⟨gB, 0, none⟩) 64 cB)
      have hB2 := own_ne4 hi.row (g := w.heap.size + 1 + 1) (fun b off q e => by injection e with e; injection e with e; omega) (.slice AI rs.length cI) (.int .i64 r) (.slice (some ⟨gA, 0, none⟩) 8 cA) (.slice (some ⟨gB, 0, none⟩) 64 cB)
      have hK6 := heap_put4 (g := w.heap.size + 1 + 1) hK (by omega) (.slice AI rs.length cI) (.int .i64 r) (.slice (some ⟨gA, 0, none⟩) 8 cA) (.slice (some ⟨gB, 0, none⟩) 64 cB)
      generalize (((W.setCell ⟨w.heap.size + 1 + 1, 0, none⟩ (.slice AI rs.length cI)).setCell ⟨w.heap.size + 1 + 1, 1, none⟩ (.int .i64 r)).setCell ⟨w.heap.size + 1 + 1, 2, none⟩ (.slice (some ⟨gA, 0, none⟩) 8 cA)).setCell ⟨w.heap.size + 1 + 1, 3, none⟩ (.slice (some ⟨gB, 0, none⟩) 64 cB) = W6 at *
      have hK7 : W6.drew.heap[D]? = some (.deferred (some [])) := hK6
      have hR3 := ownsRow_putObj (own_below hR2 (below_drew (Below.refl _ _))) (.deferred none) hK7 rfl
      have hA3 := ownsRow_putObj (own_below hA2 (below_drew (Below.refl _ _))) (.deferred none) hK7 rfl
      have hB3 := ownsRow_putObj (own_below hB2 (below_drew (Below.refl _ _))) (.deferred none) hK7 rfl
      have kF2 := bk_own (B := w.heap.size + 3) () _ _ (some D) kF (grownBy_putObj' _ D (.deferred none)) (fun q e => by cases e; exact ⟨by omega, _, hK7, rfl⟩)
      refine ⟨by simp, .inl ⟨_, _, rfl, run_takeDeferred hK7, ?_⟩⟩
      have h8 := h8'.out
      have h64 := h64'.out
      have hml := movP_len es frame xw (pgs 0 64)
      exact ⟨_, kF2.res3 (P := Tryd.prog) rfl _ rfl (by kernel_rfl) (by kernel_rfl), _, rfl, ⟨AI, cI, some ⟨gA, 0, none⟩, cA, some ⟨gB, 0, none⟩, cB, by simp only [spcV, h8, hml, h64], Rd.own hR3, by simp only [h8]; exact Rd.own hA3, by simp only [hml, h64]; exact Rd.own hB3, by simp only [h8]; exact hO4.cap⟩,
        SLoc.mk (fun b off h0 e => by have := hlo b off _ e; omega) (fun b off h0 e => by injection e with e; injection e with e; omega) (fun b off h0 e => by injection e with e; injection e with e; omega), hBF.trans (belowK_b (w := w) (Nat.le_refl _) _ D _ _ (by omega) hK7 rfl rfl)⟩
    case stop => exact fun D c pre W _ _ h _ => h.elim
  -- END Moved
  go_region_held3 (fun w' => w'.cell? ⟨w.heap.size, 0, none⟩ = some (.slice A rs.length c) ∧ w'.cell? ⟨w.heap.size, 1, none⟩ = some (.int .i64 r) ∧ w'.cell? ⟨w.heap.size, 2, none⟩ = some (.slice L 8 cl) ∧ w'.cell? ⟨w.heap.size, 3, none⟩ = some (.slice B 64 d))
    (refine ⟨?_, ?_, ?_, ?_⟩ <;> (repeat (with_reducible first | exact s0 | exact s1 | exact s2 | exact s3 | refine cell_drew ?_ | refine cell_later hbI ?_ | refine cell_later hbU ?_ | refine cell_alloc _ ?_ | refine cell_far ?_ (by show _ ≠ _; simp only; omega) _)))
    (first
      | (go_at_call 46
         refine (cloneR_sp A rs.length c rs _ (by repeat (with_reducible first | exact hA5 | refine Rd.drew1 ?_ | refine Rd.alloc ?_ _)) hn).mono ?_
         rintro e wI ⟨vI, rfl, hoI, hbI⟩
         obtain ⟨AI, cI, rfl, hrI⟩ := own_slice hoI
         have hlI := own_loc2 hoI
         have hsI : w5.heap.size ≤ wI.heap.size := Nat.le_trans (by (try simp only [World.size_alloc, World.size_drew]); omega) hbI.size)
      | (go_at_call 58
         refine (twin_any r ls es _ _ (by repeat (with_reducible first | exact hT5 | refine TbV.drew ?_ | refine TbV.to ?_ hbI | refine TbV.alloc ?_ _)) h8'.out h64'.out).mono ?_
         rintro e wU ⟨gA, cA, gB, cB, rfl, hO, hbU⟩
         have hsU : wI.heap.size ≤ wU.heap.size := Nat.le_trans (by (try simp only [World.size_alloc, World.size_drew]); omega) hbU.size
         first
           | (have kN := ((Bk.newd w5 #[.slice none 0 0, .int .i64 0, .slice none 0 0, .slice none 0 0] 28).to hbI).to hbU; obtain ⟨cN, fN, lN⟩ := kN.facts; have hNl : w5.heap.size < wI.heap.size := Nat.lt_of_lt_of_le (by simp) hbI.size)
           | (have kN := (Bk.new wI #[.slice none 0 0, .int .i64 0, .slice none 0 0, .slice none 0 0] 28).to hbU; obtain ⟨cN, fN, lN⟩ := kN.facts)
           | skip))
  all_goals
    have hlO := hO.lt
    have hoI1 := own_less (base' := w5.heap.size) hoI (by (try simp only [World.size_alloc, World.size_drew]); omega)
    have hoU1 : wU.ownsRow w5.heap.size 84 2 (.slice AI rs.length cI) rs.length (flat2 .i64 rs) := by repeat (with_reducible first | exact hoI1 | refine own_below ?_ hbU | refine World.ownsRow.alloc ?_ _)
    have hO1 := hO.less (base' := w5.heap.size) (by (try simp only [World.size_alloc, World.size_drew]); omega)
    simp only [World.size_alloc, World.size_drew] at hlO hlI
    have hBU : Below w5.heap.size w5 wU := by repeat (with_reducible first | exact Below.refl _ _ | refine bnext ?_ hbU | refine bnext ?_ hbI | refine below_drew ?_ | refine balloc ?_ _)
    first
      | exact ⟨_, _, _, _, _, _, _, rfl, kN.put4 _ _ _ _, own_ne4 hoU1 (fun b off q e => by have := hlI b off q e; omega) _ _ _ _, hO1.ne4 (by omega) (by omega) _ _ _ _, ⟨by omega, by omega, by omega⟩, fun b off q e => by have := hlI b off q e; omega, below_put4 hBU (by omega) _ _ _ _⟩
      | exact ⟨_, _, _, _, _, _, _, rfl, Bk.new _ _ _, hoU1.alloc _, hO1.alloc _, ⟨by omega, by omega, by omega⟩, fun b off q e => by have := hlI b off q e; omega, balloc hBU _⟩
end Go.Proofs.YtpkgfkhaiifooaaDoor
