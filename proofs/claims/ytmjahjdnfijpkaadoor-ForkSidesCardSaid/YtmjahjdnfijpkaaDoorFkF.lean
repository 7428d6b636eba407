/- fork.Differ: the pages in which two address spaces differ. -/
import Derived.Test.YtmjahjdnfijpkaaDoorFk5
import Derived.Test.YtmjahjdnfijpkaaDoorHB
import Derived.Test.YtmjahjdnfijpkaaDoorGV
namespace Go.Proofs.YtmjahjdnfijpkaaDoor
open Go Go.Proofs Go.RowKit Go.Shelf
set_option linter.unusedSimpArgs false
set_option linter.unusedVariables false
set_option maxRecDepth 100000
attribute [local go_sem] Oper.semAt_some

theorem difL_yes {a b : Sp} {k : Nat} (h : difB a b k = true) : difL a b (k + 1) = difL a b k ++ [(k : Int)] := by
  unfold difL
  rw [List.range_succ, List.filter_append, List.map_append]
  simp [List.filter, h]
theorem difL_no {a b : Sp} {k : Nat} (h : difB a b k = false) : difL a b (k + 1) = difL a b k := by
  unfold difL
  rw [List.range_succ, List.filter_append, List.map_append]
  simp [List.filter, h]
theorem difL_len (a b : Sp) (k : Nat) : (difL a b k).length ≤ k := by
  unfold difL
  rw [List.length_map]
  simpa using List.length_filter_le (difB a b) (List.range k)
def difP (a b : Sp) (pre : List Pg) : List Int := (pre.filter fun x => difB a b x.1.toNat).map fun x => x.1
theorem difP_yes {a b : Sp} {pre : List Pg} {x : Pg} (h : difB a b x.1.toNat = true) : difP a b (pre ++ [x]) = difP a b pre ++ [x.1] := by
  unfold difP
  rw [List.filter_append, List.map_append]
  simp [List.filter, h]
theorem difP_no {a b : Sp} {pre : List Pg} {x : Pg} (h : difB a b x.1.toNat = false) : difP a b (pre ++ [x]) = difP a b pre := by
  unfold difP
  rw [List.filter_append, List.map_append]
  simp [List.filter, h]
theorem difP_len (a b : Sp) (pre : List Pg) : (difP a b pre).length ≤ pre.length := by unfold difP; rw [List.length_map]; exact List.length_filter_le _ _
theorem difP_all (a b : Sp) : ∀ n : Nat, n ≤ 64 → difP a b (pgs 0 n) = difL a b n
  | 0, _ => rfl
  | n + 1, hn => by
    have hv : (pg (0 + (n : Int))).1 = (n : Int) := by rw [pg_val _ (by omega) (by omega)]; omega
    rw [pgs_succ]
    cases h : difB a b n
    · rw [difP_no (by rw [hv, Int.toNat_natCast]; exact h), difL_no h, difP_all a b n (by omega)]
    · rw [difP_yes (by rw [hv, Int.toNat_natCast]; exact h), difL_yes h, difP_all a b n (by omega), hv]
theorem keepF_lo {Ba Bb bA oA bB oB lo P : Nat} {X Y : World} (h : ∀ b, b < lo → b ≠ P → KeepB b X Y) (h0 : 0 < lo ∧ 0 ≠ P) (h1 : Ba < lo ∧ Ba ≠ P) (h2 : bA < lo ∧ bA ≠ P) (h3 : Bb < lo ∧ Bb ≠ P) (h4 : bB < lo ∧ bB ≠ P) : KeepF Ba Bb (some ⟨bA, oA, none⟩) (some ⟨bB, oB, none⟩) X Y :=
  ⟨⟨h _ h0.1 h0.2, h _ h1.1 h1.2, fun b o p e => by injection e with e; injection e with e1 e2 e3; rw [← e1]; exact h _ h2.1 h2.2⟩, ⟨h _ h0.1 h0.2, h _ h3.1 h3.2, fun b o p e => by injection e with e; injection e with e1 e2 e3; rw [← e1]; exact h _ h4.1 h4.2⟩⟩
def DifI (a b : Sp) (P : Nat) (w4 : World) (pre : List Pg) (W : World) : Prop := (∃ v, Boxed W P 23 v ∧ W.ownsRow w4.heap.size 3 1 v (difP a b pre).length (iw (difP a b pre)) ∧ True) ∧ Below P w4 W ∧ w4.heap.size ≤ W.heap.size
theorem difB_of {a b : Sp} {p : Nat} {k1 n1 k2 n2 : Int} {x1 y1 z1 x2 y2 z2 : Bool} (h1 : entP a.2.2.2 p = (k1, n1, x1, y1, z1)) (h2 : entP b.2.2.2 p = (k2, n2, x2, y2, z2)) : difB a b p = ((hasP a.1 p != hasP b.1 p) || (decide (k1 ≠ k2) || decide (n1 ≠ n2))) := by
  unfold difB
  rw [h1, h2]

set_option maxHeartbeats 8000000 in
theorem fDiffer_any (rs : List (Int × Int)) (r : Int) (ls : List Int) (es : List Nat) (v : Value) (rs2 : List (Int × Int)) (r2 : Int) (ls2 : List Int) (es2 : List Nat) (v2 : Value) (w : World) (hv : SpV w v (rs, r, ls, es)) (hv2 : SpV w v2 (rs2, r2, ls2, es2)) (hn : rs.length ≤ 1000000) (hn2 : rs2.length ≤ 1000000) (hs : wsmall es) (hs2 : wsmall es2) (hL : LayOK w) :
    Calls Tryd.prog 24 #[v, v2] w fun e w' => IsRes w w' (difR (rs, r, ls, es) (rs2, r2, ls2, es2)).1 (difR (rs, r, ls, es) (rs2, r2, ls2, es2)).2 e := by
  obtain ⟨A, c, L, cl, B, d, hve, hA, hLs, hB, hcc⟩ := id hv
  subst hve
  obtain ⟨A2, c2, L2, cl2, B2, d2, hve2, hA2, hLs2, hB2, hcc2⟩ := id hv2
  subst hve2
  unfold spcV at hv hv2 ⊢
  simp only at hv hv2 ⊢ hA hLs hB hcc hA2 hLs2 hB2 hcc2
  have kS := (Bk.new w #[.slice A rs.length c, .int .i64 r, .slice L ls.length cl, .slice B es.length d] 28).alloc (.cells #[.slice A2 rs2.length c2, .int .i64 r2, .slice L2 ls2.length cl2, .slice B2 es2.length d2] 28)
  have kU := Bk.new (w.alloc (.cells #[.slice A rs.length c, .int .i64 r, .slice L ls.length cl, .slice B es.length d] 28)) #[.slice A2 rs2.length c2, .int .i64 r2, .slice L2 ls2.length cl2, .slice B2 es2.length d2] 28
  simp only [World.size_alloc] at kU
  have hB1 := balloc (balloc (Below.refl _ w) (.cells #[.slice A rs.length c, .int .i64 r, .slice L ls.length cl, .slice B es.length d] 28)) (.cells #[.slice A2 rs2.length c2, .int .i64 r2, .slice L2 ls2.length cl2, .slice B2 es2.length d2] 28)
  generalize hw1 : (w.alloc (.cells #[.slice A rs.length c, .int .i64 r, .slice L ls.length cl, .slice B es.length d] 28)).alloc (.cells #[.slice A2 rs2.length c2, .int .i64 r2, .slice L2 ls2.length cl2, .slice B2 es2.length d2] 28) = w1 at *
  have HC := Lib.hid (spCheck_any rs r ls es _ _ (hv.to hB1) hn hs (hL.below hB1))
  have HC2 := Lib.hid (fun W (hb : Below w.heap.size w W) => spCheck_any rs2 r2 ls2 es2 _ W (hv2.to hb) hn2 hs2 (hL.below hb))
  obtain ⟨cS, fS, lS⟩ := kS.facts
  by_cases hE : spcE (rs, r, ls, es) = 0
  case neg =>
    have hR : difR (rs, r, ls, es) (rs2, r2, ls2, es2) = ([], spcE (rs, r, ls, es)) := by unfold difR; rw [orE_l _ hE, if_pos hE]
    rw [hR]
    have hd : (spcE (rs, r, ls, es) != 0) = true := by simpa using hE
    generalize spcE (rs, r, ls, es) = z at *
    clear hR hE HC2
    go_enter Tryd.func24, Tryd.ntmps24
    go_wp2_with (go_at_call 59; refine HC.out.mono ?_; rintro e w2 ⟨rfl, hb2⟩)
    go_ret2
    exact ⟨_, rfl, IsV.nil _, bnext hB1 hb2⟩
  by_cases hE2 : spcE (rs2, r2, ls2, es2) = 0
  case neg =>
    have hR : difR (rs, r, ls, es) (rs2, r2, ls2, es2) = ([], spcE (rs2, r2, ls2, es2)) := by unfold difR; rw [orE_r _ hE, if_pos hE2]
    rw [hR]
    rw [hE] at HC
    have hd : (spcE (rs2, r2, ls2, es2) != 0) = true := by simpa using hE2
    generalize spcE (rs2, r2, ls2, es2) = z at *
    clear hR hE hE2
    go_enter Tryd.func24, Tryd.ntmps24
    go_wp2_with fail
    refine HC.out.mono ?_
    rintro e w2 ⟨rfl, hb2⟩
    obtain ⟨cU, fU, lU⟩ := (kU.to hb2).facts
    go_wp2_with fail
    refine (HC2.out _ (bnext hB1 hb2)).mono ?_
    rintro e w3 ⟨rfl, hb3⟩
    clear cU fU lU
    go_wp2_with fail
    go_ret2
    exact ⟨_, rfl, IsV.nil _, bnext (bnext hB1 hb2) hb3⟩
  obtain ⟨hg, hT, _⟩ := spc_zero hE
  obtain ⟨hg2, hT2, _⟩ := spc_zero hE2
  simp only at hg hT hg2 hT2
  have hR : difR (rs, r, ls, es) (rs2, r2, ls2, es2) = (difP (rs, r, ls, es) (rs2, r2, ls2, es2) (pgs 0 64), 0) := by
    unfold difR
    rw [orE_r _ hE, if_neg (by simpa using hE2), difP_all _ _ 64 (by omega)]
  rw [hR]
  rw [hE] at HC
  rw [hE2] at HC2
  obtain ⟨h8, h64, _⟩ := tab_zero hT
  obtain ⟨h82, h642, _⟩ := tab_zero hT2
  clear hR hE hE2 cS fS lS hv hv2
  rw [h8] at kS hLs hcc HC hw1 ⊢
  rw [h64] at kS hB HC hw1 ⊢
  rw [h82] at kU hLs2 hcc2 HC2 hw1 ⊢
  rw [h642] at kU hB2 HC2 hw1 ⊢
  have hlay : 0 < w.heap.size := hL.lt
  obtain ⟨bB, oB, rfl, hBl, _⟩ := id (hB.2 (by omega))
  obtain ⟨bB2, oB2, rfl, hBl2, _⟩ := id (hB2.2 (by omega))
  have HdB := Lib.hid (fun (p : Nat) (k1 n1 k2 n2 : Int) (x1 y1 z1 x2 y2 z2 : Bool) (h1 : entP es p = (k1, n1, x1, y1, z1)) (h2 : entP es2 p = (k2, n2, x2, y2, z2)) => difB_of (a := (rs, r, ls, es)) (b := (rs2, r2, ls2, es2)) (p := p) h1 h2)
  simp only at HdB
  generalize hSa : ((rs, r, ls, es) : Sp) = sa at *
  generalize hSb : ((rs2, r2, ls2, es2) : Sp) = sb at *
  obtain ⟨cS, fS, lS⟩ := kS.facts
  have hF : ∀ f, Fence.wide.fn f := fun _ => trivial
  refine (callsIn_wide (n := 4)).1 ?_
  refine callsIn_of_wp_marks Tryd.func24 rfl trivial ?_ rfl
  simp only [Tryd.ntmps24, List.size_toArray, List.length_cons, List.length_nil, Nat.reduceAdd, Nat.reduceSub, Array.replicate_succ, Array.replicate_zero, List.push_toArray, List.append_toArray, List.nil_append, List.cons_append]
  gi_wp2_with fail
  refine (callsIn_wide.2 HC.out).mono ?_
  rintro e w2 ⟨rfl, hb2⟩
  replace kS := kS.to hb2
  replace kU := kU.to hb2
  replace hB1 := bnext hB1 hb2
  clear cS fS lS hb2 hw1
  obtain ⟨cU, fU, lU⟩ := kU.facts
  gi_wp2_with fail
  refine (callsIn_wide.2 (HC2.out _ hB1)).mono ?_
  rintro e w3 ⟨rfl, hb3⟩
  replace kS := (kS.to hb3).alloc (.cells #[.slice none 0 0] 23)
  have hE1 : w.heap.size + 1 < w3.heap.size := (kU.to hb3).lt
  replace kU := (kU.to hb3).alloc (.cells #[.slice none 0 0] 23)
  replace hB1 := bnext hB1 hb3
  clear cU fU lU hb3
  have kP := Boxed.new w3 23 (.slice none 0 0)
  have hcP := balloc (Below.refl _ w3) (.cells #[.slice none 0 0] 23)
  have hsP : (w3.alloc (.cells #[.slice none 0 0] 23)).heap.size = w3.heap.size + 1 := by simp
  obtain ⟨cS, fS, lS⟩ := kS.facts
  obtain ⟨cU, fU, lU⟩ := kU.facts
  gi_wp2_with fail
  refine (both_in Fence.wide 3 trivial rfl _ _ _ _ _ _ _ _ _).mono ?_
  rintro e w' ⟨rfl, rfl⟩
  generalize w3.alloc (.cells #[.slice none 0 0] 23) = w5 at *
  have hB15 := bnext hB1 hcP
  have kA := (Bk.new w5 #[.slice A rs.length c, .int .i64 r, .slice L 8 cl, .slice (some ⟨bB, oB, none⟩) 64 d] 28).alloc (.cells #[.slice A2 rs2.length c2, .int .i64 r2, .slice L2 8 cl2, .slice (some ⟨bB2, oB2, none⟩) 64 d2] 28)
  have kB := Bk.new (w5.alloc (.cells #[.slice A rs.length c, .int .i64 r, .slice L 8 cl, .slice (some ⟨bB, oB, none⟩) 64 d] 28)) #[.slice A2 rs2.length c2, .int .i64 r2, .slice L2 8 cl2, .slice (some ⟨bB2, oB2, none⟩) 64 d2] 28
  simp only [World.size_alloc] at kB
  have hB4 := balloc (balloc (Below.refl _ w5) (.cells #[.slice A rs.length c, .int .i64 r, .slice L 8 cl, .slice (some ⟨bB, oB, none⟩) 64 d] 28)) (.cells #[.slice A2 rs2.length c2, .int .i64 r2, .slice L2 8 cl2, .slice (some ⟨bB2, oB2, none⟩) 64 d2] 28)
  have hs4 : ((w5.alloc (.cells #[.slice A rs.length c, .int .i64 r, .slice L 8 cl, .slice (some ⟨bB, oB, none⟩) 64 d] 28)).alloc (.cells #[.slice A2 rs2.length c2, .int .i64 r2, .slice L2 8 cl2, .slice (some ⟨bB2, oB2, none⟩) 64 d2] 28)).heap.size = w5.heap.size + 2 := by simp
  generalize (w5.alloc (.cells #[.slice A rs.length c, .int .i64 r, .slice L 8 cl, .slice (some ⟨bB, oB, none⟩) 64 d] 28)).alloc (.cells #[.slice A2 rs2.length c2, .int .i64 r2, .slice L2 8 cl2, .slice (some ⟨bB2, oB2, none⟩) 64 d2] 28) = w4 at *
  rw [hsP] at kA kB hs4 hB4
  have hB14 := hB15.trans (hB4.mono (by omega))
  have kS4 := kS.below hB4 (by omega)
  have kU4 := kU.below hB4 (by omega)
  have kP4 : Boxed w4 w3.heap.size 23 (.slice none 0 0) := (hB4.block w3.heap.size (by omega)).trans kP
  have hL4 := hL.below hB14
  have hB4' := hB.below hB14 (Nat.le_refl _)
  have hB4'2 := hB2.below hB14 (Nat.le_refl _)
  have hA4 := hA.below hB14 (Nat.le_refl _)
  have hA42 := hA2.below hB14 (Nat.le_refl _)
  obtain ⟨i0, hi, hz0, hz1, hz2⟩ := info_parts infoInt
  clear cS fS lS cU fU lU kS kU hcP
  gi_wp2_with fail
  refine wpIn_rangeFunc_ownH rfl (by omega) (gf := 81) (lb := #[.pointer (some ⟨w3.heap.size + 1, 0, none⟩), .pointer (some ⟨w3.heap.size + 1 + 1, 0, none⟩)]) rfl trivial (enters_of Tryd.func81 (by kernel_rfl) rfl)
    (both_stops (w3.heap.size + 1) (w3.heap.size + 1 + 1) (some ⟨bB, oB, none⟩) (some ⟨bB2, oB2, none⟩) d d2 r r2 ls ls2 es es2 hT hs hT2 hs2 _ hL4 hB4' hB4'2 (kA.cell 3) (kB.cell 3)) keepF_t (keepF_b (w := w4) (by omega) (by omega) (fun b o p e => by injection e with e; injection e with e; omega) (by omega) (fun b o p e => by injection e with e; injection e with e; omega)) (Below.refl _ _) (fun _ => rfl)
    (DifI sa sb w3.heap.size w4) (fun _ _ _ => False) ?hI ?hIx ?h0
    (fun x a' W => ∃ q, Bk W q (pairA x.1 (entP es x.1.toNat) (entP es2 x.1.toNat)) 92 ∧ w4.heap.size ≤ q ∧ a' = { tmps := #[.agg #[.slice A rs.length c, .int .i64 r, .slice L 8 cl, .slice (some ⟨bB, oB, none⟩) 64 d], .agg #[.slice A2 rs2.length c2, .int .i64 r2, .slice L2 8 cl2, .slice (some ⟨bB2, oB2, none⟩) 64 d2], .pointer (some ⟨w.heap.size, 0, none⟩), .pointer (some ⟨w.heap.size + 1, 0, none⟩), .slice none 0 0, .int .i64 0, .int .i64 0, .int .i64 0, .pointer (some ⟨w3.heap.size, 0, none⟩), .pointer (some ⟨q, 0, none⟩), undef, undef, undef, undef, .agg #[.slice A rs.length c, .int .i64 r, .slice L 8 cl, .slice (some ⟨bB, oB, none⟩) 64 d], .int .i64 0, .int .i64 0, .bool false, undef, .agg #[.slice A2 rs2.length c2, .int .i64 r2, .slice L2 8 cl2, .slice (some ⟨bB2, oB2, none⟩) 64 d2], .int .i64 0, .int .i64 0, .bool false, undef, .agg #[.slice A rs.length c, .int .i64 r, .slice L 8 cl, .slice (some ⟨bB, oB, none⟩) 64 d], .agg #[.slice A2 rs2.length c2, .int .i64 r2, .slice L2 8 cl2, .slice (some ⟨bB2, oB2, none⟩) 64 d2], .func (.func 81) #[] #[.pointer (some ⟨w3.heap.size + 1, 0, none⟩), .pointer (some ⟨w3.heap.size + 1 + 1, 0, none⟩)], pairV x.1 (entP es x.1.toNat) (entP es2 x.1.toNat), undef, undef, undef, undef, undef, undef, undef, undef, undef, undef, undef, undef, undef, undef, undef, undef, undef, undef, undef, undef, undef, undef, undef, undef, undef, undef, undef, undef, undef, undef, undef, undef, undef, undef, undef, undef, undef, undef, undef, undef, undef, undef, undef], defers := [] }) ?hAx ?assign ?body ?done ?stop
  case hI => exact OwnFrom.and (Own.from (holdsRow_own w4.heap.size w3.heap.size 23 3 1 (fun pre => (difP sa sb pre).length) (fun pre => iw (difP sa sb pre)) (fun _ _ => True)) _) (OwnFrom.and (ownFrom_below (by omega) (by omega)) (fun _ _ _ _ hs hg _ => Nat.le_trans hs hg.size))
  case hIx => exact fun _ _ _ _ _ hs _ _ => hs
  case h0 => exact ⟨⟨_, kP4, World.ownsRow_nil _ _ _ _, trivial⟩, Below.refl _ _, Nat.le_refl _⟩
  case hAx => exact fun x a' _ W W' row ⟨q, h1, h2⟩ hg hr => ⟨q, bk_own () W W' row h1 hg hr, h2⟩
  case assign =>
    rintro l pre x W K ⟨⟨v, hbx, hrow, _⟩, hbW, hsz⟩ hK
    unfold pairV pairA at hK ⊢
    gi_wp2
    exact hK _ _ (keepsFrom_below (balloc (Below.refl _ _) _)) (keepF_of (balloc (Below.refl _ _) _) (by omega) (by omega) (by omega) (by omega) (by omega)) ⟨⟨v, hbx.alloc _, hrow.alloc _, trivial⟩, hbW.alloc (by have := hbW.size; omega) _, by rw [World.size_alloc]; omega⟩ ⟨_, Bk.new _ _ _, hsz, rfl⟩
  case body =>
    rintro l pre ⟨x, hx0, hx1⟩ a' W hl _ ⟨⟨v, hbx, hrow, _⟩, hbW, hsz⟩ ⟨q, kq, hq, rfl⟩ hlen
    obtain ⟨p, rfl⟩ : ∃ p : Nat, x = p := ⟨x.toNat, by omega⟩
    simp only [Int.toNat_natCast] at kq ⊢
    have hp64 : p < 64 := by omega
    have HY := Lib.hid (fun h => difP_yes (a := sa) (b := sb) (pre := pre) (x := ⟨(p : Int), hx0, hx1⟩) h)
    have HN := Lib.hid (fun h => difP_no (a := sa) (b := sb) (pre := pre) (x := ⟨(p : Int), hx0, hx1⟩) h)
    simp only [Int.toNat_natCast] at HY HN
    have hm := difP_len sa sb pre
    rcases hee : entP es p with ⟨k1, n1, a1, b1, c1⟩
    rcases hff : entP es2 p with ⟨k2, n2, a2, b2, e2⟩
    have hdb := HdB.out p _ _ _ _ _ _ _ _ _ _ hee hff
    rw [hdb] at HY HN
    rw [hee, hff] at kq
    clear hdb hee hff
    unfold pairV pairA
    unfold pairA at kq
    simp only at kq ⊢
    have hm64 : (difP sa sb pre).length < 64 := by omega
    clear hm
    have kSW : Bk W w.heap.size _ _ := kS4.below hbW (by omega)
    have kUW : Bk W (w.heap.size + 1) _ _ := kU4.below hbW (by omega)
    have hAW := hA.below (hB14.trans (hbW.mono (by omega))) (Nat.le_refl _)
    have hAW2 := hA2.below (hB14.trans (hbW.mono (by omega))) (Nat.le_refl _)
    have HH := Lib.hid (fun W h => Has_rg A rs.length c rs p W h hn)
    rw [hasRg_ok rs p hg hp64] at HH
    have HH2 := Lib.hid (fun W h => Has_rg A2 rs2.length c2 rs2 p W h hn2)
    rw [hasRg_ok rs2 p hg2 hp64] at HH2
    generalize hasP rs p = ha at *
    generalize hasP rs2 p = hb at *
    have hno : ∀ W', Below W.heap.size W W' → difP sa sb (pre ++ [⟨(p : Int), hx0, hx1⟩]) = difP sa sb pre → KeepsFrom w4.heap.size W W' ∧ KeepF (w3.heap.size + 1) (w3.heap.size + 1 + 1) (some ⟨bB, oB, none⟩) (some ⟨bB2, oB2, none⟩) W W' ∧ DifI sa sb w3.heap.size w4 (pre ++ [⟨(p : Int), hx0, hx1⟩]) W' := fun W' hb h => by
      unfold DifI
      rw [h]
      exact ⟨keepsFrom_below hb, keepF_of hb (by omega) (by omega) (by omega) (by omega) (by omega), ⟨_, (hb.block w3.heap.size (by omega)).trans hbx, own_below hrow hb, trivial⟩, hbW.trans (hb.mono (by omega)), Nat.le_trans hsz hb.size⟩
    have HNO := Lib.hid hno
    clear hno
    obtain ⟨cS, fS, lS⟩ := kSW.facts
    obtain ⟨cQ, fQ, lQ⟩ := kq.facts
    gi_wp2_with fail
    refine (CallsIn.inRound l (callsIn_wide.2 (HH.out _ hAW))).mono ?_
    rintro e W2 ⟨rfl, hb2⟩
    clear cS fS lS cQ fQ lQ
    replace kUW := kUW.to hb2
    replace kq := kq.to hb2
    obtain ⟨cU, fU, lU⟩ := kUW.facts
    obtain ⟨cQ, fQ, lQ⟩ := kq.facts
    gi_wp2_with fail
    refine (CallsIn.inRound l (callsIn_wide.2 (HH2.out _ (hAW2.below hb2 (Nat.le_refl _))))).mono ?_
    rintro e W3 ⟨rfl, hb3⟩
    clear cU fU lU cQ fQ lQ
    replace kq := kq.to hb3
    have hb23 := bnext hb2 hb3
    have hbx3 : Boxed W3 w3.heap.size 23 v := (hb23.block w3.heap.size (by omega)).trans hbx
    have hrow3 := own_below hrow hb23
    have hsz3 := hb23.size
    have hbW3 := hbW.trans (hb23.mono (show w3.heap.size ≤ W.heap.size by omega))
    have hkF := keepF_of (Ba := w3.heap.size + 1) (Bb := w3.heap.size + 1 + 1) (bA := bB) (oA := oB) (bB := bB2) (oB := oB2) hb23 (by omega) (by omega) (by omega) (by omega) (by omega)
    have hkS : KeepsFrom w4.heap.size W W3 := keepsFrom_below hb23
    clear hbx hrow hAW hAW2 HH HH2 HdB hb2 hb3 kUW kSW
    obtain ⟨cQ, fQ, lQ⟩ := kq.facts
    have hc0 := hbx3.cell
    have hf0 := hbx3.frozen
    clear kS4 kU4 kP4 hL4 hB4' hB4'2 hA4 hA42 kA kB hB4 hB1 hB15 kP
    by_cases hx : ha = hb
    case neg =>
      have hd : (ha != hb) = true := by simpa using hx
      have HY2 := Lib.hid (HY.out (by rw [hd]; rfl))
      clear HY HN HNO
      gi_wp2_with (gi_at_builtin; refine wpListIn_append_own _ rfl _ _ 23 rfl w4.heap.size 3 i0 (.int .i64 0) 1 8 Tryd.underlying23 hi hz0 hz1 hz2 rfl (by decide) _ _ _ rfl (hrow3.alloc _) ⟨W3.heap.size, 0, none⟩ 1 1 [.int .i64 p] rfl rfl (cell_one_new _ _ _) (by simp [Value.oneCell']) (by simp only [maxLen]; omega) (by omega) (by simp; omega) ?_; intro v' w9 hown' hgrow _; obtain ⟨g', cap', rfl⟩ := ownsRow_succ hown'; obtain ⟨hv1, hv2, hr2, hk2, hb9, hkb⟩ := boxed_append (n₀ := w3.heap.size) hbx3 hrow3 (by omega) (by omega) (by omega) hown' hgrow; have hc1 := hv1.cell; have hf1 := hv1.frozen)
      refine ⟨hkS.trans (hk2.from _), keepF_t hkF (keepF_lo (lo := w4.heap.size) (P := w3.heap.size) hkb (by omega) (by omega) (by omega) (by omega) (by omega)), ⟨_, hv2, ?_, trivial⟩, hbW3.trans hb9, Nat.le_trans hsz (Nat.le_trans hsz3 hb9.size)⟩
      rw [HY2.out]
      have e1 : iw (difP sa sb pre ++ [(p : Int)]) = iw (difP sa sb pre) ++ [.int .i64 p] := by simp [iw]
      rw [e1, List.length_append]
      exact hr2
    have hd : (ha != hb) = false := by simpa using hx
    by_cases hk : k1 = k2
    case neg =>
      have hd2 : (k1 != k2) = true := by simpa using hk
      have HY2 := Lib.hid (HY.out (by rw [decide_eq_true (show k1 ≠ k2 from hk), Bool.true_or, Bool.or_true]))
      clear HY HN HNO
      gi_wp2_with (gi_at_builtin; refine wpListIn_append_own _ rfl _ _ 23 rfl w4.heap.size 3 i0 (.int .i64 0) 1 8 Tryd.underlying23 hi hz0 hz1 hz2 rfl (by decide) _ _ _ rfl (hrow3.alloc _) ⟨W3.heap.size, 0, none⟩ 1 1 [.int .i64 p] rfl rfl (cell_one_new _ _ _) (by simp [Value.oneCell']) (by simp only [maxLen]; omega) (by omega) (by simp; omega) ?_; intro v' w9 hown' hgrow _; obtain ⟨g', cap', rfl⟩ := ownsRow_succ hown'; obtain ⟨hv1, hv2, hr2, hk2, hb9, hkb⟩ := boxed_append (n₀ := w3.heap.size) hbx3 hrow3 (by omega) (by omega) (by omega) hown' hgrow; have hc1 := hv1.cell; have hf1 := hv1.frozen)
      refine ⟨hkS.trans (hk2.from _), keepF_t hkF (keepF_lo (lo := w4.heap.size) (P := w3.heap.size) hkb (by omega) (by omega) (by omega) (by omega) (by omega)), ⟨_, hv2, ?_, trivial⟩, hbW3.trans hb9, Nat.le_trans hsz (Nat.le_trans hsz3 hb9.size)⟩
      rw [HY2.out]
      have e1 : iw (difP sa sb pre ++ [(p : Int)]) = iw (difP sa sb pre) ++ [.int .i64 p] := by simp [iw]
      rw [e1, List.length_append]
      exact hr2
    have hd2 : (k1 != k2) = false := by simpa using hk
    by_cases hn1 : n1 = n2
    case neg =>
      have hd3 : (n1 != n2) = true := by simpa using hn1
      have HY2 := Lib.hid (HY.out (by rw [decide_eq_true (show n1 ≠ n2 from hn1), Bool.or_true, Bool.or_true]))
      clear HY HN HNO
      gi_wp2_with (gi_at_builtin; refine wpListIn_append_own _ rfl _ _ 23 rfl w4.heap.size 3 i0 (.int .i64 0) 1 8 Tryd.underlying23 hi hz0 hz1 hz2 rfl (by decide) _ _ _ rfl (hrow3.alloc _) ⟨W3.heap.size, 0, none⟩ 1 1 [.int .i64 p] rfl rfl (cell_one_new _ _ _) (by simp [Value.oneCell']) (by simp only [maxLen]; omega) (by omega) (by simp; omega) ?_; intro v' w9 hown' hgrow _; obtain ⟨g', cap', rfl⟩ := ownsRow_succ hown'; obtain ⟨hv1, hv2, hr2, hk2, hb9, hkb⟩ := boxed_append (n₀ := w3.heap.size) hbx3 hrow3 (by omega) (by omega) (by omega) hown' hgrow; have hc1 := hv1.cell; have hf1 := hv1.frozen)
      refine ⟨hkS.trans (hk2.from _), keepF_t hkF (keepF_lo (lo := w4.heap.size) (P := w3.heap.size) hkb (by omega) (by omega) (by omega) (by omega) (by omega)), ⟨_, hv2, ?_, trivial⟩, hbW3.trans hb9, Nat.le_trans hsz (Nat.le_trans hsz3 hb9.size)⟩
      rw [HY2.out]
      have e1 : iw (difP sa sb pre ++ [(p : Int)]) = iw (difP sa sb pre) ++ [.int .i64 p] := by simp [iw]
      rw [e1, List.length_append]
      exact hr2
    have hd3 : (n1 != n2) = false := by simpa using hn1
    have HN2 := Lib.hid (HN.out (by rw [hd, decide_eq_false (show ¬ k1 ≠ k2 from fun h => h hk), decide_eq_false (show ¬ n1 ≠ n2 from fun h => h hn1)]; rfl))
    clear HY HN
    gi_wp2
    exact HNO.out _ hb23 HN2.out
  case done =>
    rintro D ys W hD rfl ⟨⟨v, hbx, hrow, _⟩, hbW, hsz⟩ hK
    have hc0 := hbx.cell
    gi_wp2
    refine ⟨by simp, .inl ⟨_, _, rfl, run_takeDeferred hK, ?_⟩⟩
    exact ⟨_, results_tmp2 rfl _ _ _, v, rfl, IsV.own (ownsRow_putObj hrow _ hK rfl), (hB14.trans (hbW.mono (by omega))).trans (belowK_b (w := w) (Nat.le_refl _) _ D _ _ (by omega) hK rfl rfl)⟩
  case stop => exact fun D c pre W _ _ h _ => h.elim
end Go.Proofs.YtmjahjdnfijpkaaDoor
