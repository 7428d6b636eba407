/- Several texts in one. -/
import Derived.Test.YtmjahjdnfijpkaaDoorHD
import Derived.Test.YtmjahjdnfijpkaaDoorHE
import Derived.Test.YtmjahjdnfijpkaaDoorHK
import Derived.Test.YtmjahjdnfijpkaaDoorFkB
import Derived.Deep.RegionHeld3
import Derived.Deep.DeepCutAuto
/- fork.Own: plain facts, and its errors. -/
namespace Go.Proofs.YtmjahjdnfijpkaaDoor
open Go Go.Proofs Go.RowKit
set_option linter.unusedSimpArgs false
set_option linter.unusedVariables false
set_option maxRecDepth 100000

/-- The entries with the first k changed. -/
def mapK (f : Nat → Nat) (es : List Nat) (k : Nat) : List Nat := (es.take k).map f ++ es.drop k
theorem mapK_len (f : Nat → Nat) (es : List Nat) (k : Nat) : (mapK f es k).length = es.length := by
  unfold mapK
  simp only [List.length_append, List.length_map, List.length_take, List.length_drop]
  omega
theorem mapK_zero (f : Nat → Nat) (es : List Nat) : mapK f es 0 = es := by simp [mapK]
theorem mapK_all {f : Nat → Nat} {es : List Nat} {n : Nat} (h : es.length = n) : mapK f es n = es.map f := by subst h; simp [mapK]
theorem mapK_at (f : Nat → Nat) {es : List Nat} {k : Nat} (hk : k < es.length) : (mapK f es k).getD k 0 = es.getD k 0 := by
  have hl : ((es.take k).map f).length = k := by simp only [List.length_map, List.length_take]; omega
  unfold mapK
  rw [List.getD_eq_getElem?_getD, List.getElem?_append_right (by omega), hl, Nat.sub_self, List.getElem?_drop, Nat.add_zero, List.getD_eq_getElem?_getD]
theorem mapK_succ (f : Nat → Nat) {es : List Nat} {k : Nat} (hk : k < es.length) : mapK f es (k + 1) = (mapK f es k).set k (f (es.getD k 0)) := by
  have hl : ((es.take k).map f).length = k := by simp only [List.length_map, List.length_take]; omega
  have h1 : es.drop k = es[k] :: es.drop (k + 1) := List.drop_eq_getElem_cons hk
  have h2 : es.take (k + 1) = es.take k ++ [es[k]] := by rw [List.take_add_one, List.getElem?_eq_getElem hk]; rfl
  have h3 : es.getD k 0 = es[k] := by rw [List.getD_eq_getElem?_getD, List.getElem?_eq_getElem hk]; rfl
  unfold mapK
  rw [h2, h1, h3, List.map_append, List.set_append_right _ _ (by omega), hl, Nat.sub_self, List.set_cons_zero, List.append_assoc]
  rfl
/-- What Write makes of the word of a present entry. -/
theorem fow_word {x : Nat} {n : Int} {a b c : Bool} (h : unpR x = ((1, n, a, b, c), 0)) : writeR x true = (((packN 1 n.toNat true false c : Nat) : Int), 0) ∧ packN 1 n.toNat true false c < 65536 := by
  have hc := unpR_ok x (by rw [h])
  rw [h] at hc
  simp only at hc
  obtain ⟨_, h0, h1⟩ := chk_ok _ _ _ _ _ hc
  obtain ⟨m, rfl⟩ : ∃ m : Nat, n = m := ⟨n.toNat, by omega⟩
  have c1 := chk_pr (m : Int) true false c h0 h1 (by decide)
  refine ⟨?_, packN_lt _ _ _ _ _ c1⟩
  unfold writeR chgR
  rw [h, if_neg (by simp), if_neg (by simp)]
  rfl
theorem fowB_of {cs : List Int} {x : Nat} {k n : Int} {a b c : Bool} (h : unpR x = ((k, n, a, b, c), 0)) : fowB cs x = (decide (k = 1) && (b && decide (cs.getD n.toNat 0 ≤ 1))) := by unfold fowB unpK; rw [h]
theorem fowW_yes {cs : List Int} {x : Nat} {n : Int} {a b c : Bool} (h : unpR x = ((1, n, a, b, c), 0)) (hb : fowB cs x = true) : fowW cs x = packN 1 n.toNat true false c := by unfold fowW; rw [if_pos hb, h]
theorem fowW_no {cs : List Int} {x : Nat} (hb : fowB cs x = false) : fowW cs x = x := by unfold fowW; rw [if_neg (by rw [hb]; decide)]
theorem fowN_yes {es : List Nat} {cs : List Int} {k : Nat} (h : fowB cs (es.getD k 0) = true) : fowN es cs (k + 1) = fowN es cs k + 1 := by
  unfold fowN
  rw [List.range_succ, List.filter_append, List.length_append, List.filter_cons_of_pos (by exact h)]
  rfl
theorem fowN_no {es : List Nat} {cs : List Int} {k : Nat} (h : fowB cs (es.getD k 0) = false) : fowN es cs (k + 1) = fowN es cs k := by
  unfold fowN
  rw [List.range_succ, List.filter_append, List.length_append, List.filter_cons_of_neg (by rw [h]; decide)]
  rfl
theorem fowN_le (es : List Nat) (cs : List Int) (k : Nat) : fowN es cs k ≤ k := by
  unfold fowN
  simpa using List.length_filter_le (fun p => fowB cs (es.getD p 0)) (List.range k)
theorem fow_neg {cs : List Int} {k : Nat} (hk : k < cs.length) (h : cs.getD k 0 < 0) : ∃ x ∈ cs, x < 0 := ⟨cs.getD k 0, by rw [List.getD_eq_getElem?_getD, List.getElem?_eq_getElem hk]; exact List.getElem_mem hk, h⟩
theorem fow_pos {cs : List Int} (h : ∀ k, k < cs.length → 0 ≤ cs.getD k 0) : ¬ ∃ x ∈ cs, x < 0 := fun ⟨x, hx, hn⟩ => by
  obtain ⟨j, hj, e⟩ := List.mem_iff_getElem.1 hx
  have := h j hj
  rw [List.getD_eq_getElem?_getD, List.getElem?_eq_getElem hj] at this
  simp only [Option.getD_some] at this
  omega
/-- Between two counts. -/
def NegI (cs : List Int) (w2 : World) (i : Value) (wr : World) : Prop := ∃ k : Nat, k ≤ 256 ∧ i = .int .i64 k ∧ (∀ j, j < k → 0 ≤ cs.getD j 0) ∧ wr = w2

set_option maxHeartbeats 4000000 in
theorem fOwn_bad (rs : List (Int × Int)) (r : Int) (ls : List Int) (es : List Nat) (v : Value) (cs : List Int) (F : Option Addr) (cf : Nat) (w : World) (hv : SpV w v (rs, r, ls, es)) (hn : rs.length ≤ 1000000) (hs : wsmall es) (hL : LayOK w) (hF : Rd w 1 F cs.length (iw cs)) (hfn : cs.length ≤ 1000) (hE : fowE (rs, r, ls, es) cs ≠ 0) :
    Calls Tryd.prog 33 #[v, .slice F cs.length cf] w fun e w' => SpRes3 w w' sp0 0 (fowE (rs, r, ls, es) cs) e := by
  obtain ⟨A, c, L, cl, B, d, hve, hA, hLs, hB, hcc⟩ := id hv
  subst hve
  unfold spcV at hv ⊢
  simp only at hv ⊢ hA hLs hB hcc
  have kS := (Bk.new w #[.slice A rs.length c, .int .i64 r, .slice L ls.length cl, .slice B es.length d] 28).alloc (.cells #[.slice none 0 0, .int .i64 0, .slice none 0 0, .slice none 0 0] 28)
  have kR := Bk.new (w.alloc (.cells #[.slice A rs.length c, .int .i64 r, .slice L ls.length cl, .slice B es.length d] 28)) #[.slice none 0 0, .int .i64 0, .slice none 0 0, .slice none 0 0] 28
  simp only [World.size_alloc] at kR
  have hB1 := balloc (balloc (Below.refl _ w) (.cells #[.slice A rs.length c, .int .i64 r, .slice L ls.length cl, .slice B es.length d] 28)) (.cells #[.slice none 0 0, .int .i64 0, .slice none 0 0, .slice none 0 0] 28)
  generalize hw1 : (w.alloc (.cells #[.slice A rs.length c, .int .i64 r, .slice L ls.length cl, .slice B es.length d] 28)).alloc (.cells #[.slice none 0 0, .int .i64 0, .slice none 0 0, .slice none 0 0] 28) = w1 at *
  have HC := Lib.hid (spCheck_any rs r ls es _ _ (hv.to hB1) hn hs (hL.below hB1))
  obtain ⟨cS, fS, lS⟩ := kS.facts
  by_cases hS : spcE (rs, r, ls, es) = 0
  case neg =>
    have hE2 : fowE (rs, r, ls, es) cs = spcE (rs, r, ls, es) := by unfold fowE; rw [orE_l _ hS]
    rw [hE2]
    have hd : (spcE (rs, r, ls, es) != 0) = true := by simpa using hS
    generalize spcE (rs, r, ls, es) = z at *
    clear hE2 hE hS
    go_enter Tryd.func33, Tryd.ntmps33
    go_wp2_with fail
    refine HC.out.mono ?_
    rintro e w2 ⟨rfl, hb2⟩
    clear cS fS lS
    obtain ⟨cR, fR, lR⟩ := (kR.to hb2).facts
    go_wp2_with fail
    have kF := (kR.to hb2).put4 (.slice none 0 0) (.int .i64 0) (.slice none 0 0) (.slice none 0 0)
    have hBF := below_put4 (bnext hB1 hb2) (g := w.heap.size + 1) (by omega) (.slice none 0 0) (.int .i64 0) (.slice none 0 0) (.slice none 0 0)
    exact bodyPost_ret (kF.res3 (P := Tryd.prog) rfl _ rfl (by kernel_rfl) (by kernel_rfl)) rfl ⟨_, rfl, SpV.zero _, SLoc.zero _, hBF⟩
  have hE2 : fowE (rs, r, ls, es) cs = 15 := by
    unfold fowE at hE ⊢
    rw [orE_r _ hS] at hE ⊢
    split at hE
    · rename_i h; rw [if_pos h]
    · exact absurd rfl hE
  have hE3 : cs.length ≠ 256 ∨ ∃ x ∈ cs, x < 0 := by
    unfold fowE at hE
    rw [orE_r _ hS] at hE
    split at hE
    · rename_i h; exact h
    · exact absurd rfl hE
  rw [hE2]
  rw [hS] at HC
  clear hE hE2 hS
  by_cases hln : cs.length = 256
  case neg =>
    have hd : ¬ (cs.length : Int) = 256 := by omega
    have hd2 : ((cs.length : Int) != 256) = true := by simpa using hd
    clear hE3
    go_enter Tryd.func33, Tryd.ntmps33
    go_wp2_with fail
    refine HC.out.mono ?_
    rintro e w2 ⟨rfl, hb2⟩
    clear cS fS lS
    obtain ⟨cR, fR, lR⟩ := (kR.to hb2).facts
    go_wp2_with fail
    have kF := (kR.to hb2).put4 (.slice none 0 0) (.int .i64 0) (.slice none 0 0) (.slice none 0 0)
    have hBF := below_put4 (bnext hB1 hb2) (g := w.heap.size + 1) (by omega) (.slice none 0 0) (.int .i64 0) (.slice none 0 0) (.slice none 0 0)
    exact bodyPost_ret (kF.res3 (P := Tryd.prog) rfl _ rfl (by kernel_rfl) (by kernel_rfl)) rfl ⟨_, rfl, SpV.zero _, SLoc.zero _, hBF⟩
  have hneg : ∃ x ∈ cs, x < 0 := by
    rcases hE3 with h | h
    · exact absurd hln h
    · exact h
  have HNG : Hid (¬ ∀ k, k < 256 → 0 ≤ cs.getD k 0) := Lib.hid (fun h => fow_pos (by rw [hln]; exact h) hneg)
  rw [hln] at hF ⊢
  have HF := Lib.hid hF
  clear hE3 hneg hln hF
  go_enter Tryd.func33, Tryd.ntmps33
  go_wp2_with fail
  refine HC.out.mono ?_
  rintro e w2 ⟨rfl, hb2⟩
  clear cS fS lS
  replace kR := kR.to hb2
  replace hB1 := bnext hB1 hb2
  clear hb2 kS
  go_wp2_with fail
  go_loopw [27] (fun i wr => NegI cs w2 i wr) (fun i _ => 256 - (intOf i).toNat)
  case atStart => exact ⟨0, by omega, rfl, fun j hj => absurd hj (by omega), rfl⟩
  case round =>
    obtain ⟨k, hk, rfl, hpos, rfl⟩ := hrel
    by_cases hlt : k < 256
    · obtain ⟨g, off, z, rfl, hg, hz, hc⟩ := (HF.out.below hB1 (Nat.le_refl _)).numb hlt
      have hkI : (k : Int) < 256 := by omega
      by_cases hz0 : z < 0
      · have hd : decide (z < 0) = true := decide_eq_true hz0
        clear hpos hz
        obtain ⟨cR, fR, lR⟩ := kR.facts
        go_wp2_with fail
        have kF := kR.put4 (.slice none 0 0) (.int .i64 0) (.slice none 0 0) (.slice none 0 0)
        have hBF := below_put4 hB1 (g := w.heap.size + 1) (by omega) (.slice none 0 0) (.int .i64 0) (.slice none 0 0) (.slice none 0 0)
        exact bodyPost_ret (kF.res3 (P := Tryd.prog) rfl _ rfl (by kernel_rfl) (by kernel_rfl)) rfl ⟨_, rfl, SpV.zero _, SLoc.zero _, hBF⟩
      · have hd : decide (z < 0) = false := decide_eq_false hz0
        have HP2 : Hid (∀ j, j < k + 1 → 0 ≤ cs.getD j 0) := Lib.hid (fun j hj => by
          rcases Nat.lt_or_ge j k with h | h
          · exact hpos j h
          · obtain rfl : j = k := by omega
            rw [hz]
            omega)
        clear hpos hz
        go_wp2_with fail
        go_roundw
        case rel => exact ⟨k + 1, by omega, by go_num, HP2.out, rfl⟩
        case measure => simp [intOf]; omega
    · obtain rfl : k = 256 := by omega
      exact absurd hpos HNG.out
end Go.Proofs.YtmjahjdnfijpkaaDoor
/- fork.Own returns the address space with the entries that nobody shares. -/
namespace Go.Proofs.YtmjahjdnfijpkaaDoor
open Go Go.Proofs Go.RowKit
set_option linter.unusedSimpArgs false
set_option linter.unusedVariables false
set_option maxRecDepth 100000

theorem set_at {es : List Nat} {k : Nat} (hk : k < es.length) : es.set k (es.getD k 0) = es := by
  apply List.ext_getElem?
  intro i
  rw [List.getElem?_set]
  by_cases hi : k = i
  · subst hi
    rw [if_pos rfl, if_pos hk, List.getD_eq_getElem?_getD, List.getElem?_eq_getElem hk]
    rfl
  · rw [if_neg hi]
/-- Between two entries of Own. -/
def FowI (cs : List Int) (es : List Nat) (B g cap : Nat) (w5 : World) (o i : Value) (wr : World) : Prop := ∃ k : Nat, k ≤ 64 ∧ i = .int .i64 k ∧ o = .int .i64 (fowN es cs k : Nat) ∧ wr.ownsRow B 55 1 (.slice (some ⟨g, 0, none⟩) 64 cap) 64 (uw (mapK (fowW cs) es k)) ∧ Below B w5 wr ∧ w5.heap.size ≤ wr.heap.size

set_option maxHeartbeats 8000000 in
theorem fOwn_ok (rs : List (Int × Int)) (r : Int) (ls : List Int) (es : List Nat) (v : Value) (cs : List Int) (F : Option Addr) (cf : Nat) (w : World) (hv : SpV w v (rs, r, ls, es)) (hn : rs.length ≤ 1000000) (hs : wsmall es) (hL : LayOK w) (hF : Rd w 1 F cs.length (iw cs)) (hE : fowE (rs, r, ls, es) cs = 0) :
    Calls Tryd.prog 33 #[v, .slice F cs.length cf] w fun e w' => SpRes3 w w' (rs, r, ls, es.map (fowW cs)) (fowN es cs 64 : Nat) 0 e := by
  obtain ⟨A, c, L, cl, B, d, hve, hA, hLs, hB, hcc⟩ := id hv
  subst hve
  unfold spcV at hv ⊢
  simp only at hv ⊢ hA hLs hB hcc
  obtain ⟨hS, hE2⟩ := orE_zero hE
  have hE3 : ¬ (cs.length ≠ 256 ∨ ∃ x ∈ cs, x < 0) := fun h => by rw [if_pos h] at hE2; cases hE2
  have hln : cs.length = 256 := Classical.byContradiction fun h => hE3 (.inl h)
  have hpos : ∀ k, k < 256 → 0 ≤ cs.getD k 0 := fun k hk => Classical.byContradiction fun h => hE3 (.inr (fow_neg (k := k) (by omega) (by omega)))
  have hT := (spc_zero hS).2.1
  simp only at hT
  have h8 := (tab_zero hT).1
  have h64 := (tab_zero hT).2.1
  have hEn := fun W h1 h2 => fEntries_any rs r ls es _ W (h1 : SpV W (.agg #[.slice A rs.length c, .int .i64 r, .slice L ls.length cl, .slice B es.length d]) (rs, r, ls, es)) hs h2 hT
  have kS := (Bk.new w #[.slice A rs.length c, .int .i64 r, .slice L ls.length cl, .slice B es.length d] 28).alloc (.cells #[.slice none 0 0, .int .i64 0, .slice none 0 0, .slice none 0 0] 28)
  have kR := Bk.new (w.alloc (.cells #[.slice A rs.length c, .int .i64 r, .slice L ls.length cl, .slice B es.length d] 28)) #[.slice none 0 0, .int .i64 0, .slice none 0 0, .slice none 0 0] 28
  simp only [World.size_alloc] at kR
  have hB1 := balloc (balloc (Below.refl _ w) (.cells #[.slice A rs.length c, .int .i64 r, .slice L ls.length cl, .slice B es.length d] 28)) (.cells #[.slice none 0 0, .int .i64 0, .slice none 0 0, .slice none 0 0] 28)
  generalize hw1 : (w.alloc (.cells #[.slice A rs.length c, .int .i64 r, .slice L ls.length cl, .slice B es.length d] 28)).alloc (.cells #[.slice none 0 0, .int .i64 0, .slice none 0 0, .slice none 0 0] 28) = w1 at *
  have HC := Lib.hid (spCheck_any rs r ls es _ _ (hv.to hB1) hn hs (hL.below hB1))
  rw [hS] at HC
  rw [h8] at kS hLs HC hEn hv hcc hw1 ⊢
  rw [h64] at kS hB HC hEn hv hw1 ⊢
  rw [hln] at hF ⊢
  have HF := Lib.hid hF
  have HEn := Lib.hid hEn
  have H64 := Lib.hid h64
  have H8 := Lib.hid h8
  have HT := Lib.hid hT
  have HLy := Lib.hid hL
  have HV := Lib.hid hv
  have HPos := Lib.hid hpos
  have HA := Lib.hid hA
  have HLm := Lib.hid hLs
  have HBm := Lib.hid hB
  have HUn := Lib.hid (fun k (hk : k < 64) => unp_in hT k hk)
  have HSm := Lib.hid (fun k (hk : k < 64) => getD_small28 hs h64 k hk)
  have HMA := Lib.hid (mapK_all (f := fowW cs) h64)
  have HMS := Lib.hid (fun k (hk : k < 64) => mapK_succ (fowW cs) (es := es) (k := k) (by omega))
  have HMT := Lib.hid (fun k (hk : k < 64) => mapK_at (fowW cs) (es := es) (k := k) (by omega))
  have HML := Lib.hid (fun k => (mapK_len (fowW cs) es k).trans h64)
  clear hE hE2 hE3 hln hpos hT h8 h64 hEn hS hF hL hA hLs hB hv
  obtain ⟨cS, fS, lS⟩ := kS.facts
  go_enter Tryd.func33, Tryd.ntmps33
  go_wp2_with fail
  refine HC.out.mono ?_
  rintro e w2 ⟨rfl, hb2⟩
  clear cS fS lS
  replace kR := kR.to hb2
  replace kS := kS.to hb2
  replace hB1 := bnext hB1 hb2
  clear hb2 hw1
  go_wp2_with fail
  go_loopw [27] (fun i wr => NegI cs w2 i wr) (fun i _ => 256 - (intOf i).toNat)
  case atStart => exact ⟨0, by omega, rfl, fun j hj => absurd hj (by omega), rfl⟩
  case round =>
    obtain ⟨k, hk, rfl, _, rfl⟩ := hrel
    by_cases hlt : k < 256
    · obtain ⟨g, off, z, rfl, hg, hz, hc⟩ := (HF.out.below hB1 (Nat.le_refl _)).numb hlt
      have hkI : (k : Int) < 256 := by omega
      have hz0 : ¬ z < 0 := by have := HPos.out k hlt; rw [hz] at this; omega
      have hd : decide (z < 0) = false := decide_eq_false hz0
      clear hz
      go_wp2_with fail
      go_roundw
      case rel => exact ⟨k + 1, by omega, by go_num, fun j hj => HPos.out j (by omega), rfl⟩
      case measure => simp [intOf]; omega
    · obtain rfl : k = 256 := by omega
      obtain ⟨cS, fS, lS⟩ := kS.facts
      go_wp2_with fail
      have hrB := HBm.out.below hB1 (Nat.le_refl _)
      have HRd : Hid (Rd wr 1 B 64 (uw es)) := Lib.hid hrB
      refine (listW_any B 64 d es _ HRd.out (by omega)).mono ?_
      rintro e w3 ⟨v3, rfl, ho3, hb3⟩
      obtain ⟨g, cap, rfl⟩ := ownsRow_succ ho3
      have hszr : w.heap.size + 1 < wr.heap.size := kR.lt
      replace kR := kR.to hb3
      replace kS := kS.to hb3
      have hglo := (ho3.lt g rfl).1
      have hB3 := bnext hB1 hb3
      clear hb3 cS fS lS hrB
      obtain ⟨cS, fS, lS⟩ := kS.facts
      go_wp2_with fail
      refine (HEn.out _ (HV.out.to hB3) (HLy.out.below hB3)).mono ?_
      rintro e w4 ⟨rfl, hb4⟩
      replace kR := kR.to hb4
      replace kS := kS.to hb4
      replace ho3 := own_below ho3 hb4
      have hB4 := bnext hB3 hb4
      have hg4 := (ho3.lt g rfl).2
      clear hb4 cS fS lS HEn hB3
      have HIx : Hid (∀ (k : Nat) (a b : Int) (c d f : Bool), k < 64 → entP es k = (a, b, c, d, f) → ∀ W : World, (Instr.index 86 (.agg (enW (entL es)).toArray) (.int .i64 k)).run Tryd.prog W = .ok (.agg #[.int .i64 a, .int .i64 b, .bool c, .bool d, .bool f]) W) := Lib.hid (fun k a b c d f hk he => idx_hyp es hk he)
      generalize (enW (entL es)).toArray = X at *
      rw [← mapK_zero (fowW cs) es] at ho3
      have HF4 : Hid (Rd w4 1 F 256 (iw cs)) := Lib.hid (HF.out.below hB4 (Nat.le_refl _))
      generalize hgB : wr.heap.size = BB at *
      have HgB := Lib.hid hgB
      have HB4 := Lib.hid (show ∀ W, Below BB w4 W → Below w.heap.size w W from fun W h => hB4.trans (h.mono (by omega)))
      have HFr : Hid (∀ W, Below BB w4 W → Rd W 1 F 256 (iw cs)) := Lib.hid (fun W h => HF.out.below (HB4.out W h) (Nat.le_refl _))
      clear hgB
      go_wp2_with fail
      go_loopw [10, 41] (fun o i wx => FowI cs es BB g cap w4 o i wx) (fun _ i _ => 64 - (intOf i).toNat)
      case atStart => exact ⟨0, by omega, rfl, rfl, ho3, Below.refl _ _, Nat.le_refl _⟩
      case round =>
        obtain ⟨k, hk, rfl, rfl, hox, hBx, hsx⟩ := hrel
        by_cases hlt : k < 64
        · have hkI : (k : Int) < 64 := by omega
          have HMs := Lib.hid (HMS.out k hlt)
          have hmt := HMT.out k hlt
          have hml := HML.out k
          have hfl := fowN_le es cs k
          rcases hee : entP es k with ⟨k1, n1, a1, b1, c1⟩
          have hix := HIx.out k k1 n1 a1 b1 c1 hlt hee
          have hrg := entP_rng HT.out hlt
          have hun : unpR (es.getD k 0) = ((k1, n1, a1, b1, c1), 0) := Prod.ext hee (HUn.out k hlt)
          have hxs := HSm.out k hlt
          rw [hee] at hrg
          simp only at hrg
          have hcx : wr.cell? ⟨g, k, none⟩ = some (.int .u64 ((es.getD k 0 : Nat) : Int)) := by
            rw [hox.cellAt k (by omega), ← hmt]
            simp [uw, List.getElem?_map, List.getD_eq_getElem?_getD, hml, hlt]
          have hsf : (mapK (fowW cs) es k).set k (es.getD k 0) = mapK (fowW cs) es k := by rw [← hmt]; exact set_at (by omega)
          have hfb0 := fowB_of (cs := cs) hun
          have hny := fun h => fowN_yes (es := es) (cs := cs) (k := k) h
          have hnw := fun h => fowN_no (es := es) (cs := cs) (k := k) h
          have hfrz := hox.frozenAt k
          generalize es.getD k 0 = x at *
          generalize hgm : mapK (fowW cs) es k = mk at *
          generalize hgn : fowN es cs k = fn at *
          have HSelf := Lib.hid hsf
          have HUx := Lib.hid hun
          have HNy := Lib.hid hny
          have HNn := Lib.hid hnw
          have kE := Bk.new wr #[.int .i64 k1, .int .i64 n1, .bool a1, .bool b1, .bool c1] 52
          obtain ⟨nn, rfl⟩ : ∃ nn : Nat, n1 = nn := ⟨n1.toNat, by omega⟩
          have hnn : nn < 256 := by omega
          have hnnI : (nn : Int) < 256 := by omega
          obtain ⟨gF, oF, z, rfl, hgF, hz, hcF⟩ := ((HFr.out _ hBx).alloc (.cells #[.int .i64 k1, .int .i64 nn, .bool a1, .bool b1, .bool c1] 52)).numb hnn
          rw [Int.toNat_natCast, hz] at hfb0
          clear hee HIx hun hsf hmt hgm hgn hrg hny hnw hz
          by_cases hk1 : k1 = 1
          case neg =>
            have hd : (k1 == 1) = false := by simpa using hk1
            have hfb : fowB cs x = false := by rw [hfb0, decide_eq_false hk1, Bool.false_and]
            clear hfb0 hk1
            have HNo := Lib.hid (HNn.out hfb)
            have HWo := Lib.hid (fowW_no hfb)
            clear hfb
            have hcB := hBx.alloc (by omega) (.cells #[.int .i64 k1, .int .i64 (nn : Int), .bool a1, .bool b1, .bool c1] 52)
            have hoB := hox.alloc (.cells #[.int .i64 k1, .int .i64 (nn : Int), .bool a1, .bool b1, .bool c1] 52)
            go_upto_region 17 with fail
            generalize wr.alloc (.cells #[.int .i64 k1, .int .i64 (nn : Int), .bool a1, .bool b1, .bool c1] 52) = w5 at *
            obtain ⟨cE, fE, lE⟩ := kE.facts
            clear hix
            go_wp2_with fail
            go_roundw
            case rel => exact ⟨k + 1, by omega, by go_num, by rw [HNo.out], by rw [HMs.out, HWo.out, HSelf.out]; exact hoB, hcB, by have := kE.lt; omega⟩
            case measure => simp [intOf]; omega
          subst hk1
          cases b1
          case false =>
            have hfb : fowB cs x = false := by rw [hfb0, Bool.false_and, Bool.and_false]
            clear hfb0
            have HNo := Lib.hid (HNn.out hfb)
            have HWo := Lib.hid (fowW_no hfb)
            clear hfb
            have hcB := hBx.alloc (by omega) (.cells #[.int .i64 1, .int .i64 (nn : Int), .bool a1, .bool false, .bool c1] 52)
            have hoB := hox.alloc (.cells #[.int .i64 1, .int .i64 (nn : Int), .bool a1, .bool false, .bool c1] 52)
            go_upto_region 17 with fail
            generalize wr.alloc (.cells #[.int .i64 1, .int .i64 (nn : Int), .bool a1, .bool false, .bool c1] 52) = w5 at *
            obtain ⟨cE, fE, lE⟩ := kE.facts
            clear hix
            go_wp2_with fail
            go_roundw
            case rel => exact ⟨k + 1, by omega, by go_num, by rw [HNo.out], by rw [HMs.out, HWo.out, HSelf.out]; exact hoB, hcB, by have := kE.lt; omega⟩
            case measure => simp [intOf]; omega
          by_cases hz1 : z ≤ 1
          case neg =>
            have hd : decide (z ≤ 1) = false := decide_eq_false hz1
            have hfb : fowB cs x = false := by rw [hfb0, hd, Bool.and_false, Bool.and_false]
            clear hfb0
            have HNo := Lib.hid (HNn.out hfb)
            have HWo := Lib.hid (fowW_no hfb)
            clear hfb
            have hcB := hBx.alloc (by omega) (.cells #[.int .i64 1, .int .i64 (nn : Int), .bool a1, .bool true, .bool c1] 52)
            have hoB := hox.alloc (.cells #[.int .i64 1, .int .i64 (nn : Int), .bool a1, .bool true, .bool c1] 52)
            go_upto_region 17 with fail
            generalize wr.alloc (.cells #[.int .i64 1, .int .i64 (nn : Int), .bool a1, .bool true, .bool c1] 52) = w5 at *
            obtain ⟨cE, fE, lE⟩ := kE.facts
            clear hix
            go_wp2_with fail
            go_roundw
            case rel => exact ⟨k + 1, by omega, by go_num, by rw [HNo.out], by rw [HMs.out, HWo.out, HSelf.out]; exact hoB, hcB, by have := kE.lt; omega⟩
            case measure => simp [intOf]; omega
          have hd : decide (z ≤ 1) = true := decide_eq_true hz1
          have hfb : fowB cs x = true := by rw [hfb0, hd]; rfl
          have HNy2 := Lib.hid (HNy.out hfb)
          obtain ⟨hw1, hw2⟩ := fow_word HUx.out
          rw [← fowW_yes HUx.out hfb] at hw1 hw2
          have HW := Lib.hid hw1
          clear hfb0 hfb hw1
          have hcB := hBx.alloc (by omega) (.cells #[.int .i64 1, .int .i64 (nn : Int), .bool a1, .bool true, .bool c1] 52)
          have hoB := hox.alloc (.cells #[.int .i64 1, .int .i64 (nn : Int), .bool a1, .bool true, .bool c1] 52)
          have hcx5 : (wr.alloc (.cells #[.int .i64 1, .int .i64 (nn : Int), .bool a1, .bool true, .bool c1] 52)).cell? ⟨g, k, none⟩ = some (.int .u64 (x : Int)) := (balloc (Below.refl _ wr) (.cells #[.int .i64 1, .int .i64 (nn : Int), .bool a1, .bool true, .bool c1] 52)).cell (p := ⟨g, k, none⟩) (show g < wr.heap.size by omega) |>.trans hcx
          go_upto_region 17 with fail
          generalize wr.alloc (.cells #[.int .i64 1, .int .i64 (nn : Int), .bool a1, .bool true, .bool c1] 52) = w5 at *
          obtain ⟨cE, fE, lE⟩ := kE.facts
          clear hix hcx hfrz
          go_wp2_with fail
          refine (Write_any x true _ hxs (HLy.out.below (HB4.out _ hcB))).mono ?_
          rintro e w6 ⟨rfl, hb6⟩
          rw [HW.out]
          have hox6 := own_below hoB hb6
          have hB6 := hcB.trans (hb6.mono (by have := kE.lt; omega))
          have hf6 := hox6.frozenAt k
          have hg6 := (hox6.lt g rfl).2
          obtain ⟨y6, hy6⟩ : ∃ y, w6.cell? ⟨g, k, none⟩ = some y := ⟨_, by rw [hox6.cellAt k (by omega)]; exact List.getElem?_eq_getElem (by rw [hox6.1]; omega)⟩
          clear cE fE lE
          go_wp2_with fail
          go_roundw
          case rel =>
            refine ⟨k + 1, by omega, by go_num, by rw [HNy2.out]; push_cast; rfl, ?_, hB6.setCell (p := ⟨g, k, none⟩) (by show BB ≤ g; omega) _, ?_⟩
            · have hr := (hox6.stored k (.int .u64 ((fowW cs x : Nat) : Int))).1
              rw [uw_set1] at hr
              rw [HMs.out]
              exact hr
            · have := kE.lt; have := hb6.size; simp; omega
          case measure => simp [intOf]; omega
        · obtain rfl : k = 64 := by omega
          rw [HMA.out] at hox
          have kSr := kS.below hBx (by omega)
          have kRr := kR.below hBx (by omega)
          have hBw := HB4.out _ hBx
          have hLr := HLm.out.below hBw (Nat.le_refl _)
          have hAr := HA.out.below hBw (Nat.le_refl _)
          have hg2 := (hox.lt g rfl).2
          have hwr : BB ≤ wr.heap.size := by omega
          clear kS kR ho3 HIx hBx hsx HF4 HFr HMS HMT HUn HSm hB4 HC HV
          generalize hgn : fowN es cs 64 = fnN at *
          have Hgn := Lib.hid hgn
          go_upto_region 21 with fail
          have q1 := kSr.cell 1
          have q2 := kSr.cell 2
          simp at q1 q2
          go_cut [14] (fun p wx => ∃ q AL cL, p = .pointer (some ⟨q, 0, none⟩) ∧ wr.heap.size ≤ q ∧ Bk wx q #[.int .i64 r, .slice AL 8 cL, .slice (some ⟨g, 0, none⟩) 64 cap] 26 ∧ wx.ownsRow wr.heap.size 3 1 (.slice AL 8 cL) 8 (iw ls) ∧ (∀ b off q', AL = some ⟨b, off, q'⟩ → b ≠ q) ∧ Below wr.heap.size wr wx)
          case first =>
            go_region_held3 (fun w' => w'.cell? ⟨w.heap.size, 1, none⟩ = some (.int .i64 r) ∧ w'.cell? ⟨w.heap.size, 2, none⟩ = some (.slice L 8 cl))
              (refine ⟨?_, ?_⟩ <;> (repeat (with_reducible first | exact q1 | exact q2 | refine cell_drew ?_ | refine cell_later hbG ?_ | refine cell_alloc _ ?_ | refine cell_far ?_ (by show _ ≠ _; simp only; omega) _)))
              (first
                | (go_at_call 52
                   refine (listI_any L 8 cl ls _ (by repeat (with_reducible first | exact hLr | refine Rd.drew1 ?_ | refine Rd.alloc ?_ _)) (by omega)).mono ?_
                   rintro e wG ⟨vG, rfl, hoG, hbG⟩
                   obtain ⟨AG, cG, rfl, _⟩ := own_slice hoG
                   have hlG := own_loc2 hoG
                   have hsG : wr.heap.size ≤ wG.heap.size := Nat.le_trans (by (try simp only [World.size_alloc, World.size_drew]); omega) hbG.size
                   first
                     | (have kN := (Bk.newd wr #[.int .i64 0, .slice none 0 0, .slice none 0 0] 26).to hbG; obtain ⟨cN, fN, lN⟩ := kN.facts)
                     | skip))
            all_goals
              go_wp2_with fail
              go_meet
              have hBG : Below wr.heap.size wr wG := by repeat (with_reducible first | exact Below.refl _ _ | refine bnext ?_ hbG | refine below_drew ?_ | refine balloc ?_ _)
              have hoL := own_less (base' := wr.heap.size) hoG (by (try simp only [World.size_alloc, World.size_drew]); omega)
              simp only [World.size_alloc, World.size_drew] at hlG
              first
                | exact ⟨_, _, _, rfl, by omega, kN.put3 _ _ _, own_less (own_put3 hoG (by simp) _ _ _) (by simp), fun b off q' e => by have := hlG b off q' e; omega, ((hBG.setCell (p := ⟨wr.heap.size, 0, none⟩) (Nat.le_refl _) _).setCell (p := ⟨wr.heap.size, 1, none⟩) (Nat.le_refl _) _).setCell (p := ⟨wr.heap.size, 2, none⟩) (Nat.le_refl _) _⟩
                | exact ⟨_, _, _, rfl, by omega, Bk.new _ _ _, hoL.alloc _, fun b off q' e => by have := hlG b off q' e; omega, balloc hBG _⟩
          case rest =>
            obtain ⟨q, AL, cL, rfl, hq, kT, hoL, hlq, hcC⟩ := hcut
            clear q1 q2 hgn hlt hk
            go_upto_region 22 with fail
            have kS9 := kSr.to hcC
            have kR9 := kRr.to hcC
            have hA9 := hAr.below hcC (Nat.le_refl _)
            have hB9 := own_below hox hcC
            have s0 := kS9.cell 0
            have t0 := kT.cell 0
            have t1 := kT.cell 1
            have t2 := kT.cell 2
            simp at s0 t0 t1 t2
            have hqw : q < wc.heap.size := kT.lt
            go_region_held3 (fun w' => w'.cell? ⟨w.heap.size, 0, none⟩ = some (.slice A rs.length c) ∧ w'.cell? ⟨q, 0, none⟩ = some (.int .i64 r) ∧ w'.cell? ⟨q, 1, none⟩ = some (.slice AL 8 cL) ∧ w'.cell? ⟨q, 2, none⟩ = some (.slice (some ⟨g, 0, none⟩) 64 cap))
              (refine ⟨?_, ?_, ?_, ?_⟩ <;> (repeat (with_reducible first | exact s0 | exact t0 | exact t1 | exact t2 | refine cell_drew ?_ | refine cell_later hbG ?_ | refine cell_far ?_ (by show _ ≠ _; simp only; omega) _)))
              (first
                | (go_at_call 51
                   refine (listR_any A rs.length c rs _ (by repeat (with_reducible first | exact hA9 | refine Rd.drew1 ?_)) hn).mono ?_
                   rintro e wG ⟨vG, rfl, hoG, hbG⟩
                   obtain ⟨AG, cG, rfl, _⟩ := own_slice hoG
                   have kRG := kR9.drew.to hbG
                   obtain ⟨cRG, fRG, lRG⟩ := kRG.facts))
            all_goals
              have hlG := own_loc2 hoG
              have hlL := own_loc2 hoL
              simp only [World.size_drew] at hlG hoG
              have hsG : wc.heap.size ≤ wG.heap.size := hbG.size
              have kF := kRG.put4 (.slice AG rs.length cG) (.int .i64 r) (.slice AL 8 cL) (.slice (some ⟨g, 0, none⟩) 64 cap)
              have hBG : Below wr.heap.size wr wG := hcC.trans ((below_drew (Below.refl wc.heap.size wc)).trans hbG |>.mono hcC.size)
              have hBF := below_put4 (hBw.trans (hBG.mono (by omega))) (g := w.heap.size + 1) (by omega) (.slice AG rs.length cG) (.int .i64 r) (.slice AL 8 cL) (.slice (some ⟨g, 0, none⟩) 64 cap)
              have o1 := own_ne4 hoG (g := w.heap.size + 1) (fun b off q' e => by have := hlG b off q' e; omega) (.slice AG rs.length cG) (.int .i64 r) (.slice AL 8 cL) (.slice (some ⟨g, 0, none⟩) 64 cap)
              have o2 := own_ne4 (own_below (own_below hoL (below_drew (Below.refl _ _))) hbG) (g := w.heap.size + 1) (fun b off q' e => by have := hlL b off q' e; omega) (.slice AG rs.length cG) (.int .i64 r) (.slice AL 8 cL) (.slice (some ⟨g, 0, none⟩) 64 cap)
              have o3 := own_ne4 (own_below (own_below hB9 (below_drew (Below.refl _ _))) hbG) (g := w.heap.size + 1) (fun b off q' e => by injection e with e; injection e with e; omega) (.slice AG rs.length cG) (.int .i64 r) (.slice AL 8 cL) (.slice (some ⟨g, 0, none⟩) 64 cap)
              have h8 := H8.out
              have h64 : (es.map (fowW cs)).length = 64 := by rw [List.length_map]; exact H64.out
              have hcL := own_cap hoL (by omega)
              go_wp2_with fail
              exact bodyPost_ret (kF.res3 (P := Tryd.prog) rfl _ rfl (by kernel_rfl) (by kernel_rfl)) rfl ⟨.agg #[.slice AG rs.length cG, .int .i64 r, .slice AL 8 cL, .slice (some ⟨g, 0, none⟩) 64 cap], by rw [Hgn.out]; rfl, ⟨AG, cG, AL, cL, some ⟨g, 0, none⟩, cap, by simp only [spcV, h8, h64], Rd.own o1, by simp only [h8]; exact Rd.own o2, by simp only [h64]; exact Rd.own o3, by simp only [h8]; exact hcL⟩,
                SLoc.mk (fun b off h0 e => by have := hlG b off _ e; omega) (fun b off h0 e => by have := hlL b off _ e; omega) (fun b off h0 e => by injection e with e; injection e with e; omega), hBF⟩
theorem fOwn_any (rs : List (Int × Int)) (r : Int) (ls : List Int) (es : List Nat) (v : Value) (cs : List Int) (F : Option Addr) (cf : Nat) (w : World) (hv : SpV w v (rs, r, ls, es)) (hn : rs.length ≤ 1000000) (hs : wsmall es) (hL : LayOK w) (hF : Rd w 1 F cs.length (iw cs)) (hfn : cs.length ≤ 1000) :
    Calls Tryd.prog 33 #[v, .slice F cs.length cf] w fun e w' => SpRes3 w w' (fowR (rs, r, ls, es) cs).1 (fowR (rs, r, ls, es) cs).2.1 (fowR (rs, r, ls, es) cs).2.2 e := by
  by_cases hE : fowE (rs, r, ls, es) cs = 0
  · have hR : fowR (rs, r, ls, es) cs = ((rs, r, ls, es.map (fowW cs)), ((fowN es cs 64 : Nat) : Int), 0) := by unfold fowR; rw [if_neg (by simpa using hE)]
    rw [hR]
    exact fOwn_ok rs r ls es v cs F cf w hv hn hs hL hF hE
  · have hR : fowR (rs, r, ls, es) cs = (sp0, 0, fowE (rs, r, ls, es) cs) := by unfold fowR; rw [if_pos hE]
    rw [hR]
    exact fOwn_bad rs r ls es v cs F cf w hv hn hs hL hF hfn hE
end Go.Proofs.YtmjahjdnfijpkaaDoor
