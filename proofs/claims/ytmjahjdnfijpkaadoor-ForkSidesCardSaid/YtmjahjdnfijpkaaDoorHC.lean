/- Several texts in one. -/
import Derived.Test.YtmjahjdnfijpkaaDoorHB
import Derived.Test.YtmjahjdnfijpkaaDoorHJ
import Derived.Test.YtmjahjdnfijpkaaDoorSpF
import Derived.Test.YtmjahjdnfijpkaaDoorGV
import Derived.Test.YtmjahjdnfijpkaaDoorFk5
import Derived.Deep.RegionHeld3
/- fork.rooted and fork.Needs. -/
namespace Go.Proofs.YtmjahjdnfijpkaaDoor
open Go Go.Proofs Go.RowKit
set_option linter.unusedSimpArgs false
set_option linter.unusedVariables false
set_option maxRecDepth 100000

set_option maxHeartbeats 1000000 in
theorem rooted_any (rs : List (Int × Int)) (r : Int) (ls : List Int) (es : List Nat) (v : Value) (w : World) (hv : SpV w v (rs, r, ls, es)) (hn : rs.length ≤ 1000000) (hs : wsmall es) (hL : LayOK w) :
    Calls Tryd.prog 42 #[v] w fun e w' => e = .returned (.int .i64 (rooE (rs, r, ls, es))) ∧ Below w.heap.size w w' := by
  obtain ⟨A, c, L, cl, B, d, hve, hA, hLs, hB, hcc⟩ := id hv
  subst hve
  unfold spcV at hv ⊢
  simp only at hv ⊢ hA hLs hB hcc
  have kS := Bk.new w #[.slice A rs.length c, .int .i64 r, .slice L ls.length cl, .slice B es.length d] 28
  have hB1 := balloc (Below.refl _ w) (.cells #[.slice A rs.length c, .int .i64 r, .slice L ls.length cl, .slice B es.length d] 28)
  have HC := Lib.hid (spCheck_any rs r ls es _ _ (hv.to hB1) hn hs (hL.below hB1))
  obtain ⟨cS, fS, lS⟩ := kS.facts
  by_cases hE : spcE (rs, r, ls, es) = 0
  case neg =>
    have hR : rooE (rs, r, ls, es) = spcE (rs, r, ls, es) := by unfold rooE; rw [orE_l _ hE]
    rw [hR]
    have hd : (spcE (rs, r, ls, es) != 0) = true := by simpa using hE
    generalize spcE (rs, r, ls, es) = z at *
    clear hR hE
    go_enter Tryd.func42, Tryd.ntmps42
    go_wp2_with (go_at_call 59; refine HC.out.mono ?_; rintro e w2 ⟨rfl, hb2⟩)
    go_ret
    exact ⟨rfl, bnext hB1 hb2⟩
  have hR : rooE (rs, r, ls, es) = if r = -1 then 9 else 0 := by unfold rooE; rw [orE_r _ hE]
  rw [hR]
  rw [hE] at HC
  clear hR hE
  by_cases hr : r = -1
  · rw [if_pos hr]
    have hd : (r == -1) = true := by simp [hr]
    clear hr
    go_enter Tryd.func42, Tryd.ntmps42
    go_wp2_with (go_at_call 59; refine HC.out.mono ?_; rintro e w2 ⟨rfl, hb2⟩; clear cS fS lS; obtain ⟨cS, fS, lS⟩ := (kS.to hb2).facts)
    go_ret
    exact ⟨rfl, bnext hB1 hb2⟩
  · rw [if_neg hr]
    have hd : (r == -1) = false := by simpa using hr
    clear hr
    go_enter Tryd.func42, Tryd.ntmps42
    go_wp2_with (go_at_call 59; refine HC.out.mono ?_; rintro e w2 ⟨rfl, hb2⟩; clear cS fS lS; obtain ⟨cS, fS, lS⟩ := (kS.to hb2).facts)
    go_ret
    exact ⟨rfl, bnext hB1 hb2⟩
theorem roo_zero {s : Sp} (h : rooE s = 0) : spcE s = 0 ∧ s.2.1 ≠ -1 := by
  obtain ⟨h1, h2⟩ := orE_zero h
  refine ⟨h1, fun hh => ?_⟩
  rw [if_pos hh] at h2
  exact absurd h2 (by omega)

set_option maxHeartbeats 1000000 in
theorem Needs_any (rs : List (Int × Int)) (r : Int) (ls : List Int) (es : List Nat) (v : Value) (w : World) (hv : SpV w v (rs, r, ls, es)) (hn : rs.length ≤ 1000000) (hs : wsmall es) (hL : LayOK w) :
    Calls Tryd.prog 14 #[v] w fun e w' => e = .returned (.tuple #[.int .i64 (neeR (rs, r, ls, es)).1, .int .i64 (neeR (rs, r, ls, es)).2]) ∧ Below w.heap.size w w' := by
  obtain ⟨A, c, L, cl, B, d, hve, hA, hLs, hB, hcc⟩ := id hv
  subst hve
  unfold spcV at hv ⊢
  simp only at hv ⊢ hA hLs hB hcc
  have kS := Bk.new w #[.slice A rs.length c, .int .i64 r, .slice L ls.length cl, .slice B es.length d] 28
  have hB1 := balloc (Below.refl _ w) (.cells #[.slice A rs.length c, .int .i64 r, .slice L ls.length cl, .slice B es.length d] 28)
  have HC := Lib.hid (rooted_any rs r ls es _ _ (hv.to hB1) hn hs (hL.below hB1))
  obtain ⟨cS, fS, lS⟩ := kS.facts
  by_cases hE : rooE (rs, r, ls, es) = 0
  case neg =>
    have hR : neeR (rs, r, ls, es) = (0, rooE (rs, r, ls, es)) := by unfold neeR; rw [if_pos hE]
    rw [hR]
    have hd : (rooE (rs, r, ls, es) != 0) = true := by simpa using hE
    generalize rooE (rs, r, ls, es) = z at *
    clear hR hE
    go_enter Tryd.func14, Tryd.ntmps14
    go_wp2_with (go_at_call 42; refine HC.out.mono ?_; rintro e w2 ⟨rfl, hb2⟩)
    go_ret2
    exact ⟨rfl, bnext hB1 hb2⟩
  have hR : neeR (rs, r, ls, es) = ((neeN ls : Int), 0) := by unfold neeR; rw [if_neg (by simpa using hE)]
  rw [hR]
  have hE0 := (roo_zero hE).1
  have hT := (spc_zero hE0).2.1
  have h8 := (tab_zero hT).1
  simp only at h8
  rw [hE] at HC
  rw [h8] at kS hLs HC hB1 cS lS fS ⊢
  have HL8 := Lib.hid h8
  have HNE := Lib.hid (show neeN ls = 1 + (frmL ls 8).length from rfl)
  generalize neeN ls = N at *
  clear hR hE hE0 hT h8 hv
  go_enter Tryd.func14, Tryd.ntmps14
  go_wp2_with fail
  refine HC.out.mono ?_
  rintro e w2 ⟨rfl, hb2⟩
  clear cS fS lS
  replace kS := kS.to hb2
  replace hB1 := bnext hB1 hb2
  replace hLs := hLs.below hB1 (Nat.le_refl _)
  obtain ⟨cS, fS, lS⟩ := kS.facts
  go_wp2_with fail
  clear cS fS lS
  go_loopw [5, 17] (fun v i wr => ∃ k : Nat, k ≤ 8 ∧ i = .int .i64 k ∧ v = .int .i64 (1 + ((frmL ls k).length : Int)) ∧ Below w2.heap.size w2 wr) (fun _ i _ => 8 - (intOf i).toNat)
  case atStart => exact ⟨0, by omega, rfl, rfl, Below.refl _ _⟩
  case round =>
    obtain ⟨k, hk, rfl, rfl, hBx⟩ := hrel
    have hfl := frmL_len ls k
    by_cases hlt : k < 8
    · obtain ⟨g, off, z, rfl, hg, hz, hc⟩ := (hLs.below hBx (Nat.le_refl _)).numb hlt
      have HS := Lib.hid (frmL_succ ls k (by have := HL8.out; omega))
      rw [hz] at HS
      by_cases hz1 : z = -1
      · have hz2' : (z != -1) = false := by simp [hz1]
        have HS2 : Hid (frmL ls (k + 1) = frmL ls k) := Lib.hid (by rw [HS.out, if_pos hz1, List.append_nil])
        clear hz1 hz HS
        go_wp2_with fail
        go_roundw
        case rel => exact ⟨k + 1, by omega, by go_num, by rw [HS2.out], hBx⟩
        case measure => simp [intOf]; omega
      · have hz2' : (z != -1) = true := by simp [hz1]
        have HS2 : Hid (frmL ls (k + 1) = frmL ls k ++ [z]) := Lib.hid (by rw [HS.out, if_neg hz1])
        clear hz1 hz HS
        generalize hm : (frmL ls k).length = m at *
        have HM := Lib.hid hm
        clear hm
        go_wp2_with fail
        go_roundw
        case rel => exact ⟨k + 1, by omega, by go_num, by rw [HS2.out, List.length_append, HM.out]; push_cast; rfl, hBx⟩
        case measure => simp [intOf]; omega
    · obtain rfl : k = 8 := by omega
      go_wp2_with fail
      go_ret2
      exact ⟨by rw [HNE.out]; push_cast; rfl, bnext hB1 hBx⟩
end Go.Proofs.YtmjahjdnfijpkaaDoor
/- fork.fits: the first error of the frames for a fork. -/
namespace Go.Proofs.YtmjahjdnfijpkaaDoor
open Go Go.Proofs Go.RowKit
set_option linter.unusedSimpArgs false
set_option linter.unusedVariables false
set_option maxRecDepth 100000

/-- The entry of a page of a valid table. -/
theorem entP_rng {r : Int} {ls : List Int} {es : List Nat} (h : tabE r ls es = 0) {p : Nat} (hp : p < 64) : 0 ≤ (entP es p).2.1 ∧ (entP es p).2.1 ≤ 255 := by
  have he := unp_in h p hp
  have hc := unpR_ok _ he
  obtain ⟨_, h1, h2⟩ := chk_ok _ _ _ _ _ hc
  exact ⟨h1, h2⟩
/-- Truth values as cells. -/
def usW (l : List Bool) : List Value := l.map Value.bool
theorem usW_zero : Tryd.zeroCells105 = (usW (List.replicate 256 false)).toArray := by kernel_rfl
theorem usW_cell {w : World} {P : Nat} {l : List Bool} {t : TypeId} (h : Bk w P (usW l).toArray t) {x : Nat} (hx : x < l.length) : w.cell? ⟨P, x, none⟩ = some (.bool (l.getD x false)) := by
  rw [h.cell, List.getElem?_toArray, usW, List.getElem?_map, List.getD_eq_getElem?_getD, List.getElem?_eq_getElem hx]
  rfl
theorem usW_put {w : World} {P : Nat} {l : List Bool} {t : TypeId} (h : Bk w P (usW l).toArray t) (x : Nat) (b : Bool) : Bk (w.setCell ⟨P, x, none⟩ (.bool b)) P (usW (l.set x b)).toArray t := by
  have := h.put x (.bool b)
  rw [List.setIfInBounds_toArray] at this
  unfold usW at this ⊢
  rw [List.map_set]
  exact this
/-- The row of marks is the function F. -/
def UsI (W : World) (P : Nat) (F : Int → Bool) : Prop := ∃ l : List Bool, l.length = 256 ∧ (∀ x : Nat, x < 256 → l.getD x false = F x) ∧ Bk W P (usW l).toArray 105
theorem UsI.to {W W' : World} {P : Nat} {F : Int → Bool} (h : UsI W P F) (hb : Below W.heap.size W W') : UsI W' P F := by
  obtain ⟨l, h1, h2, h3⟩ := h
  exact ⟨l, h1, h2, h3.to hb⟩
theorem UsI.lt {W : World} {P : Nat} {F : Int → Bool} (h : UsI W P F) : P < W.heap.size := by
  obtain ⟨l, h1, h2, h3⟩ := h
  exact h3.lt
theorem UsI.cell {W : World} {P : Nat} {F : Int → Bool} (h : UsI W P F) {x : Nat} (hx : x < 256) : W.cell? ⟨P, x, none⟩ = some (.bool (F x)) := by
  obtain ⟨l, h1, h2, h3⟩ := h
  rw [usW_cell h3 (by omega), h2 x hx]
theorem UsI.frozen {W : World} {P : Nat} {F : Int → Bool} (h : UsI W P F) (x : Nat) : W.frozen? ⟨P, x, none⟩ = false := by
  obtain ⟨l, h1, h2, h3⟩ := h
  exact h3.frozen x
theorem UsI.put {W : World} {P : Nat} {F G : Int → Bool} (h : UsI W P F) {x : Nat} (hx : x < 256) (hg : ∀ y : Nat, y < 256 → G y = (F y || decide ((y : Int) = x))) : UsI (W.setCell ⟨P, x, none⟩ (.bool true)) P G := by
  obtain ⟨l, h1, h2, h3⟩ := h
  refine ⟨l.set x true, by simpa using h1, fun y hy => ?_, usW_put h3 x true⟩
  rw [hg y hy, ← h2 y hy, List.getD_eq_getElem?_getD, List.getElem?_set, List.getD_eq_getElem?_getD]
  by_cases hxy : x = y
  · subst hxy
    rw [if_pos rfl, if_pos (by omega)]
    simp
  · rw [if_neg hxy]
    have : decide ((y : Int) = x) = false := decide_eq_false (by omega)
    rw [this, Bool.or_false]
theorem UsI.eq {W : World} {P : Nat} {F G : Int → Bool} (h : UsI W P F) (hg : ∀ y : Nat, y < 256 → G y = F y) : UsI W P G := by
  obtain ⟨l, h1, h2, h3⟩ := h
  exact ⟨l, h1, fun y hy => by rw [hg y hy]; exact h2 y hy, h3⟩
theorem UsI.zero (w : World) : UsI (w.alloc (.cells Tryd.zeroCells105 105)) w.heap.size (fun _ => false) :=
  ⟨List.replicate 256 false, by simp, fun x hx => by rw [List.getD_eq_getElem?_getD, List.getElem?_replicate, if_pos hx]; rfl, by rw [← usW_zero]; exact Bk.new _ _ _⟩
/-- The value of an element of all entries. -/
theorem idx_hyp (es : List Nat) {k : Nat} (hk : k < 64) {a b : Int} {c d f : Bool} (he : entP es k = (a, b, c, d, f)) : ∀ W : World, (Instr.index 86 (.agg (enW (entL es)).toArray) (.int .i64 k)).run Tryd.prog W = .ok (.agg #[.int .i64 a, .int .i64 b, .bool c, .bool d, .bool f]) W := fun W => by
  rw [run_index64 W es k hk, he]
  rfl

set_option maxHeartbeats 2000000 in
theorem fits_any (rs : List (Int × Int)) (r : Int) (ls : List Int) (es : List Nat) (v : Value) (fr : List Int) (F : Option Addr) (cf : Nat) (w : World) (hv : SpV w v (rs, r, ls, es)) (hs : wsmall es) (hL : LayOK w) (hE : rooE (rs, r, ls, es) = 0) (hF : Rd w 1 F fr.length (iw fr)) (hfn : fr.length ≤ 1000) :
    Calls Tryd.prog 45 #[v, .slice F fr.length cf] w fun e w' => e = .returned (.int .i64 (fst0 (fitF (rs, r, ls, es) fr) fr.length)) ∧ Below w.heap.size w w' := by
  obtain ⟨A, c, L, cl, B, d, hve, hA, hLs, hB, hcc⟩ := id hv
  subst hve
  unfold spcV at hv ⊢
  simp only at hv ⊢ hA hLs hB hcc
  have hrn := (roo_zero hE).2
  have hT := (spc_zero (roo_zero hE).1).2.1
  simp only at hrn hT
  have h8 := (tab_zero hT).1
  have hrr := (tab_zero hT).2.2.1
  have hll := (tab_zero hT).2.2.2.1
  have hEn := fun W h1 h2 => fEntries_any rs r ls es _ W (h1 : SpV W (.agg #[.slice A rs.length c, .int .i64 r, .slice L ls.length cl, .slice B es.length d]) (rs, r, ls, es)) hs h2 hT
  obtain ⟨rn, rfl⟩ : ∃ rn : Nat, r = rn := ⟨r.toNat, by omega⟩
  have hrn2 : rn < 256 := by omega
  have hrn3 : (rn : Int) < 256 := by omega
  rw [h8] at hLs hEn hv ⊢
  have HL8 := Lib.hid h8
  have HLL := Lib.hid hll
  have HT := Lib.hid hT
  have HEn := Lib.hid hEn
  have HLy := Lib.hid hL
  have HFd : Hid (∀ k, fst0 (fitF (rs, (rn : Int), ls, es) fr) k = 0 → k < fr.length → fst0 (fitF (rs, (rn : Int), ls, es) fr) fr.length = fitF (rs, (rn : Int), ls, es) fr k ∨ fitF (rs, (rn : Int), ls, es) fr k = 0) := Lib.hid (fun k h0 hk => by
    by_cases h1 : fitF (rs, (rn : Int), ls, es) fr k = 0
    · exact .inr h1
    · exact .inl (fst0_hit _ k _ h0 h1 hk))
  obtain ⟨Z, hZ⟩ : ∃ Z, Z = fst0 (fitF (rs, (rn : Int), ls, es) fr) fr.length := ⟨_, rfl⟩
  rw [← hZ]
  have HZ := Lib.hid hZ
  have kS := Bk.new w #[.slice A rs.length c, .int .i64 rn, .slice L 8 cl, .slice B es.length d] 28
  have hB1 := balloc (Below.refl _ w) (.cells #[.slice A rs.length c, .int .i64 rn, .slice L 8 cl, .slice B es.length d] 28)
  have hs1 : (w.alloc (.cells #[.slice A rs.length c, .int .i64 rn, .slice L 8 cl, .slice B es.length d] 28)).heap.size = w.heap.size + 1 := by simp
  clear hE hT h8 hrr hll hEn hrn hZ
  go_enter Tryd.func45, Tryd.ntmps45
  go_upto_region 2 with fail
  have hU := UsI.zero (w.alloc (.cells #[.slice A rs.length c, .int .i64 rn, .slice L 8 cl, .slice B es.length d] 28))
  generalize w.alloc (.cells #[.slice A rs.length c, .int .i64 rn, .slice L 8 cl, .slice B es.length d] 28) = w1 at *
  have hP1 : w1.heap.size < (w1.alloc (.cells Tryd.zeroCells105 105)).heap.size := by simp
  replace kS := kS.alloc (.cells Tryd.zeroCells105 105)
  have hB2 := balloc (Below.refl _ w1) (.cells Tryd.zeroCells105 105)
  generalize w1.alloc (.cells Tryd.zeroCells105 105) = w2 at *
  obtain ⟨P, hP⟩ : ∃ P, P = w.heap.size + 1 := ⟨_, rfl⟩
  rw [hs1, ← hP] at hU hP1 hB2
  try rw [hs1]
  rw [← hP]
  have hwP : w.heap.size < P := by omega
  have HB12 := Lib.hid (show ∀ W, Below P w2 W → Below w.heap.size w W from fun W h => (bnext hB1 (by rw [hs1, ← hP]; exact hB2)).trans (h.mono (by omega)))
  have hB12 := bnext hB1 (show Below w1.heap.size w1 w2 by rw [hs1, ← hP]; exact hB2)
  clear hs1 hP hB2 hB1
  obtain ⟨cS, fS, lS⟩ := kS.facts
  have cU := hU.cell hrn2
  have fU := hU.frozen
  have lU := hU.lt
  have hne : w.heap.size ≠ P := by omega
  have hne2 : P ≠ w.heap.size := by omega
  go_upto_region 3 with fail
  have hU2 := hU.put hrn2 (G := fun x => decide (x = (rn : Int))) (fun y hy => by simp)
  replace kS := kS.far (p := ⟨P, rn, none⟩) hne (.bool true)
  have hBP := (Below.refl P w2).setCell (p := ⟨P, rn, none⟩) (Nat.le_refl _) (.bool true)
  have hz3 : (w2.setCell ⟨P, rn, none⟩ (.bool true)).heap.size = w2.heap.size := by simp
  clear cS fS lS cU fU lU hU
  generalize w2.setCell ⟨P, rn, none⟩ (.bool true) = w3 at *
  replace hB12 := HB12.out _ hBP
  replace hL := hL.below hB12
  have HB3 := Lib.hid (show ∀ W, Below P w3 W → Below w.heap.size w W from fun W h => hB12.trans (h.mono (by omega)))
  have HLm := Lib.hid hLs
  have HFm := Lib.hid hF
  obtain ⟨cS, fS, lS⟩ := kS.facts
  go_wp2_with fail
  clear cS fS lS
  have hP3 : P < w3.heap.size := hU2.lt
  go_loopw [20] (fun i wr => ∃ k : Nat, k ≤ 8 ∧ i = .int .i64 k ∧ UsI wr P (fun x => decide (x = (rn : Int)) || decide (x ∈ frmL ls k)) ∧ Below P w3 wr) (fun i _ => 8 - (intOf i).toNat)
  case atStart => exact ⟨0, by omega, rfl, hU2.eq (fun y hy => by simp [frmL]), Below.refl _ _⟩
  case round =>
    obtain ⟨k, hk, rfl, hUk, hBx⟩ := hrel
    by_cases hlt : k < 8
    · obtain ⟨g, off, z, rfl, hg, hz, hc⟩ := (HLm.out.below (HB3.out _ hBx) (Nat.le_refl _)).numb hlt
      have HS := Lib.hid (frmL_succ ls k (by have := HL8.out; omega))
      have hzr := HLL.out k hlt
      rw [hz] at HS hzr
      by_cases hz1 : z = -1
      · have hz2' : (z != -1) = false := by simp [hz1]
        have HS2 : Hid (frmL ls (k + 1) = frmL ls k) := Lib.hid (by rw [HS.out, if_pos hz1, List.append_nil])
        clear hz1 hz HS
        go_wp2_with fail
        go_roundw
        case rel => exact ⟨k + 1, by omega, by go_num, by rw [HS2.out]; exact hUk, hBx⟩
        case measure => simp [intOf]; omega
      · have hz2' : (z != -1) = true := by simp [hz1]
        have HS2 : Hid (frmL ls (k + 1) = frmL ls k ++ [z]) := Lib.hid (by rw [HS.out, if_neg hz1])
        obtain ⟨zn, rfl⟩ : ∃ zn : Nat, z = zn := ⟨z.toNat, by omega⟩
        have hzn : zn < 256 := by omega
        have hznI : (zn : Int) < 256 := by omega
        have cU := hUk.cell hzn
        have fU := hUk.frozen
        have lU := hUk.lt
        clear hz1 hz HS hzr
        go_wp2_with fail
        go_roundw
        case rel => exact ⟨k + 1, by omega, by go_num, hUk.put hzn (fun y hy => by rw [HS2.out]; simp [List.mem_append, Bool.or_assoc]), hBx.setCell (p := ⟨P, zn, none⟩) (Nat.le_refl _) _⟩
        case measure => simp [intOf]; omega
    · obtain rfl : k = 8 := by omega
      clear hU2
      have kSr := kS.below hBx hwP
      have hBr := HB3.out _ hBx
      obtain ⟨cS, fS, lS⟩ := kSr.facts
      go_wp2_with fail
      refine (HEn.out _ (hv.to hBr) (HLy.out.below hBr)).mono ?_
      rintro e w4 ⟨rfl, hb4⟩
      have HIx : Hid (∀ (k : Nat) (a b : Int) (c d f : Bool), k < 64 → entP es k = (a, b, c, d, f) → ∀ W : World, (Instr.index 86 (.agg (enW (entL es)).toArray) (.int .i64 k)).run Tryd.prog W = .ok (.agg #[.int .i64 a, .int .i64 b, .bool c, .bool d, .bool f]) W) := Lib.hid (fun k a b c d f hk he => idx_hyp es hk he)
      generalize (enW (entL es)).toArray = X at *
      have hU4 := hUk.to hb4
      have hBw4 := bnext hBr hb4
      have hP4 : P < w4.heap.size := hU4.lt
      clear cS fS lS hUk hBx kSr kS hBr hb4 hL hv
      go_wp2_with fail
      go_loopw [31] (fun i wr => ∃ k : Nat, k ≤ 64 ∧ i = .int .i64 k ∧ UsI wr P (fun x => decide (x = (rn : Int)) || decide (x ∈ frmL ls 8) || preB es x k) ∧ Below P w4 wr ∧ w4.heap.size ≤ wr.heap.size) (fun i _ => 64 - (intOf i).toNat)
      case atStart => exact ⟨0, by omega, rfl, hU4.eq (fun y hy => by simp [preB]), Below.refl _ _, Nat.le_refl _⟩
      case round =>
        obtain ⟨k, hk, rfl, hUk, hBx, hsx⟩ := hrel
        by_cases hlt : k < 64
        · have hkI : (k : Int) < 64 := by omega
          rcases hee : entP es k with ⟨a1, b1, c1, d1, f1⟩
          have hix := HIx.out k a1 b1 c1 d1 f1 hlt hee
          have hrg := entP_rng HT.out hlt
          have hps : ∀ x, preB es x (k + 1) = (preB es x k || (decide (a1 = 1) && decide (b1 = x))) := fun x => by rw [preB_succ, hee]
          rw [hee] at hrg
          simp only at hrg
          have HPS := Lib.hid hps
          have hPr : P < wr.heap.size := hUk.lt
          have hPne : P ≠ wr.heap.size := by omega
          clear hee hps
          by_cases ha : a1 = 1
          · subst ha
            obtain ⟨bn, rfl⟩ : ∃ bn : Nat, b1 = bn := ⟨b1.toNat, by omega⟩
            have hbn : bn < 256 := by omega
            have hbnI : (bn : Int) < 256 := by omega
            have cU := hUk.cell hbn
            have fU := hUk.frozen
            have lU := hUk.lt
            clear hrg
            go_wp2_with fail
            go_roundw
            case rel =>
              refine ⟨k + 1, by omega, by go_num, ?_, (hBx.setCell (p := ⟨P, bn, none⟩) (Nat.le_refl _) _).alloc (by simp; omega) _, by simp; omega⟩
              refine UsI.to (UsI.put hUk hbn (fun y hy => ?_)) (balloc (Below.refl _ _) _)
              rw [HPS.out]
              simp [Bool.or_assoc, eq_comm]
            case measure => simp [intOf]; omega
          · have hd : (a1 == 1) = false := by simpa using ha
            have hf1 : decide (a1 = 1) = false := decide_eq_false ha
            rw [hf1] at HPS
            clear ha hrg
            have hUa := hUk.to (balloc (Below.refl _ wr) (.cells #[.int .i64 a1, .int .i64 b1, .bool c1, .bool d1, .bool f1] 52))
            go_wp2_with fail
            go_roundw
            case rel => exact ⟨k + 1, by omega, by go_num, hUa.eq (fun y hy => by simp [HPS.out]), hBx.alloc (by omega) _, by simp; omega⟩
            case measure => simp [intOf]; omega
        · obtain rfl : k = 64 := by omega
          clear hU4
          go_wp2_with fail
          clear HIx
          have hPr5 : P < wr.heap.size := hUk.lt
          have HBr := Lib.hid (show ∀ W, Below P wr W → Below w.heap.size w W from fun W h => hBw4.trans ((hBx.trans h).mono (by omega)))
          have hU6 : UsI wr P (usedB (rs, (rn : Int), ls, es)) := hUk
          clear hUk
          have hub : ∀ k, fitF (rs, (rn : Int), ls, es) fr k = if fr.getD k 0 < 0 ∨ 255 < fr.getD k 0 then 2 else if usedB (rs, (rn : Int), ls, es) (fr.getD k 0) = true ∨ fr.getD k 0 ∈ fr.take k then 7 else 0 := fun k => rfl
          have HUB := Lib.hid hub
          clear hub
          generalize usedB (rs, (rn : Int), ls, es) = U at *
          generalize fitF (rs, (rn : Int), ls, es) fr = G at *
          obtain ⟨n, hn⟩ : ∃ n, n = fr.length := ⟨_, rfl⟩
          rw [← hn] at HFd HZ hfn HFm ⊢
          have HN := Lib.hid hn
          clear hn hF
          go_loopw [11, 43] (fun _ i W => ∃ k : Nat, k ≤ n ∧ i = .int .i64 k ∧ fst0 G k = 0 ∧ UsI W P (fun x => U x || decide (x ∈ fr.take k)) ∧ Below P wr W) (fun _ i _ => n - (intOf i).toNat)
          case atStart => exact ⟨0, by omega, rfl, rfl, hU6.eq (fun y hy => by simp), Below.refl _ _⟩
          case round =>
            obtain ⟨k, hk, rfl, h0, hUk, hBx⟩ := hrel
            by_cases hlt : k < n
            · obtain ⟨g, off, z, rfl, hg, hz, hc⟩ := (HFm.out.below (HBr.out _ hBx) (Nat.le_refl _)).numb hlt
              have hgk := HUB.out k
              rw [hz] at hgk
              have hFd := HFd.out k h0 hlt
              have htk : fr.take (k + 1) = fr.take k ++ [z] := by
                have hl : k < fr.length := by have := HN.out; omega
                rw [List.take_add_one, List.getElem?_eq_getElem hl, ← hz, List.getD_eq_getElem?_getD, List.getElem?_eq_getElem hl]
                rfl
              have HTK := Lib.hid htk
              have HB9 := HBr.out _ hBx
              clear htk hz
              by_cases hz0 : z < 0
              · rw [if_pos (.inl hz0)] at hgk
                have hZ : Hid (Z = 2) := Lib.hid (by rw [HZ.out]; omega)
                have hd0 : decide (z < 0) = true := decide_eq_true hz0
                clear hgk hFd HZ
                go_wp2_with fail
                go_ret
                exact ⟨congrArg (fun z => Ending.returned (.int .i64 z)) hZ.out.symm, HB9⟩
              by_cases hz1 : 255 < z
              · rw [if_pos (.inr hz1)] at hgk
                have hZ : Hid (Z = 2) := Lib.hid (by rw [HZ.out]; omega)
                have hz2 : ¬ z < 256 := by omega
                have hz3 : (256 : Int) ≤ z := by omega
                clear hgk hFd HZ
                go_wp2_with fail
                go_ret
                exact ⟨congrArg (fun z => Ending.returned (.int .i64 z)) hZ.out.symm, HB9⟩
              rw [if_neg (by omega)] at hgk
              obtain ⟨zn, rfl⟩ : ∃ zn : Nat, z = zn := ⟨z.toNat, by omega⟩
              have hzn : zn < 256 := by omega
              have hznI : (zn : Int) < 256 := by omega
              have hznJ : ¬ (256 : Int) ≤ zn := by omega
              have cU := hUk.cell hzn
              have fU := hUk.frozen
              have lU := hUk.lt
              clear hz0 hz1
              by_cases hu : U zn = true ∨ (zn : Int) ∈ fr.take k
              · rw [if_pos hu] at hgk
                have hZ : Hid (Z = 7) := Lib.hid (by rw [HZ.out]; omega)
                have hb : (U zn || decide ((zn : Int) ∈ fr.take k)) = true := by simpa using hu
                simp only [hb] at cU
                clear hgk hFd HZ hu hb
                go_wp2_with fail
                go_ret
                exact ⟨congrArg (fun z => Ending.returned (.int .i64 z)) hZ.out.symm, HB9⟩
              · rw [if_neg hu] at hgk
                have hb : (U zn || decide ((zn : Int) ∈ fr.take k)) = false := by simpa using hu
                simp only [hb] at cU
                have HG1 : Hid (fst0 G (k + 1) = 0) := Lib.hid (fst0_step G k h0 hgk)
                clear hgk hFd hu hb h0
                go_wp2_with fail
                refine ⟨?_, ?_⟩
                · refine ⟨u4, .int .i64 zn, .int .i64 ((k : Int) + 1), ⟨k + 1, by omega, by go_num, HG1.out, ?_, hBx.setCell (p := ⟨P, zn, none⟩) (Nat.le_refl _) _⟩, rfl, rfl, rfl⟩
                  refine UsI.put hUk hzn (fun y hy => ?_)
                  rw [HTK.out]
                  simp [Bool.or_assoc, List.mem_append]
                · simp [intOf]; omega
            · obtain rfl : k = n := by omega
              have hZ : Hid (Z = 0) := Lib.hid (by rw [HZ.out, h0])
              have HB9 := HBr.out _ hBx
              clear h0
              go_wp2_with fail
              go_ret
              exact ⟨congrArg (fun z => Ending.returned (.int .i64 z)) hZ.out.symm, HB9⟩
end Go.Proofs.YtmjahjdnfijpkaaDoor
/- fork.sides: the words of both sides of a fork. -/
namespace Go.Proofs.YtmjahjdnfijpkaaDoor
open Go Go.Proofs Go.RowKit
set_option linter.unusedSimpArgs false
set_option linter.unusedVariables false
set_option maxRecDepth 100000

/-- The words of the pages below n, changed, and zeros. -/
def mixL (f : Nat → Nat) (es : List Nat) (n : Nat) : List Nat := (List.range 64).map fun p => if p < n then f (es.getD p 0) else 0
theorem mixL_len (f : Nat → Nat) (es : List Nat) (n : Nat) : (mixL f es n).length = 64 := by simp [mixL]
theorem mixL_succ (f : Nat → Nat) (es : List Nat) (n : Nat) (hn : n < 64) : mixL f es (n + 1) = (mixL f es n).set n (f (es.getD n 0)) := by
  apply List.ext_getElem?
  intro i
  unfold mixL
  rw [List.getElem?_set]
  by_cases hi : i < 64
  · by_cases h : n = i
    · subst h
      simp [hi]
    · rw [if_neg h]
      have h1 : (i < n) = (i < n + 1) := propext ⟨fun _ => by omega, fun _ => by omega⟩
      simp [hi, h1]
  · by_cases h : n = i
    · omega
    · simp [hi, h]
theorem mixL_all (f : Nat → Nat) (es : List Nat) (h : es.length = 64) : mixL f es 64 = es.map f := by
  apply List.ext_getElem?
  intro i
  unfold mixL
  by_cases hi : i < 64
  · have hi2 : i < es.length := by omega
    simp [hi, hi2]
  · have hi2 : ¬ i < es.length := by omega
    simp [hi, hi2]
theorem mixL_zero (f : Nat → Nat) (es : List Nat) : mixL f es 0 = List.replicate 64 0 := by
  unfold mixL
  rw [show (fun p => if p < 0 then f (es.getD p 0) else 0) = (fun _ => 0) from funext fun p => if_neg (by omega)]
  rfl
theorem words_zero : (#[.int .u64 0, .int .u64 0, .int .u64 0, .int .u64 0, .int .u64 0, .int .u64 0, .int .u64 0, .int .u64 0, .int .u64 0, .int .u64 0, .int .u64 0, .int .u64 0, .int .u64 0, .int .u64 0, .int .u64 0, .int .u64 0, .int .u64 0, .int .u64 0, .int .u64 0, .int .u64 0, .int .u64 0, .int .u64 0, .int .u64 0, .int .u64 0, .int .u64 0, .int .u64 0, .int .u64 0, .int .u64 0, .int .u64 0, .int .u64 0, .int .u64 0, .int .u64 0, .int .u64 0, .int .u64 0, .int .u64 0, .int .u64 0, .int .u64 0, .int .u64 0, .int .u64 0, .int .u64 0, .int .u64 0, .int .u64 0, .int .u64 0, .int .u64 0, .int .u64 0, .int .u64 0, .int .u64 0, .int .u64 0, .int .u64 0, .int .u64 0, .int .u64 0, .int .u64 0, .int .u64 0, .int .u64 0, .int .u64 0, .int .u64 0, .int .u64 0, .int .u64 0, .int .u64 0, .int .u64 0, .int .u64 0, .int .u64 0, .int .u64 0, .int .u64 0] : Array Value) = (uw (List.replicate 64 0)).toArray := by kernel_rfl
theorem uw_put {w : World} {P : Nat} {l : List Nat} {t : TypeId} (h : Bk w P (uw l).toArray t) (k x : Nat) : Bk (w.setCell ⟨P, k, none⟩ (.int .u64 (x : Int))) P (uw (l.set k x)).toArray t := by
  have := h.put k (.int .u64 (x : Int))
  rw [List.setIfInBounds_toArray] at this
  unfold uw at this ⊢
  rw [List.map_set]
  exact this
theorem uw_cell {w : World} {P : Nat} {l : List Nat} {t : TypeId} (h : Bk w P (uw l).toArray t) {k : Nat} (hk : k < l.length) : w.cell? ⟨P, k, none⟩ = some (.int .u64 ((l.getD k 0 : Nat) : Int)) := by
  rw [h.cell, List.getElem?_toArray]
  unfold uw
  rw [List.getElem?_map, List.getD_eq_getElem?_getD, List.getElem?_eq_getElem hk]
  rfl
/-- What Write and Refer make of the word of a present entry. -/
theorem par_word {x : Nat} {n : Int} {a b c : Bool} (h : unpR x = ((1, n, a, b, c), 0)) : writeR x false = (((parW x : Nat) : Int), 0) ∧ referR (parW x) false = (((chiW x : Nat) : Int), 0) ∧ parW x < 65536 ∧ chiW x < 65536 := by
  have hc := unpR_ok x (by rw [h])
  rw [h] at hc
  simp only at hc
  obtain ⟨_, h0, h1⟩ := chk_ok _ _ _ _ _ hc
  have hk : unpK x = 1 := by unfold unpK; rw [h]
  obtain ⟨m, rfl⟩ : ∃ m : Nat, n = m := ⟨n.toNat, by omega⟩
  have e1 : parW x = packN 1 m false true c := by unfold parW; rw [if_pos hk, h]; rfl
  have e2 : chiW x = packN 1 m false true false := by unfold chiW; rw [if_pos hk, h]; rfl
  have c1 := chk_pr (m : Int) false true c h0 h1 (by decide)
  have c2 := chk_pr (m : Int) false true false h0 h1 (by decide)
  have u1 := unp_pack 1 m false true c c1
  refine ⟨?_, ?_, by rw [e1]; exact packN_lt _ _ _ _ _ c1, by rw [e2]; exact packN_lt _ _ _ _ _ c2⟩
  · unfold writeR chgR
    rw [h, if_neg (by simp), if_neg (by simp), e1]
    rfl
  · unfold referR chgR
    rw [e1, u1, if_neg (by simp), if_neg (by simp), e2]
    rfl
theorem par_other {x : Nat} (h : unpK x ≠ 1) : parW x = x ∧ chiW x = x := by
  unfold parW chiW
  rw [if_neg h, if_neg h]
  exact ⟨rfl, rfl⟩

/-- Two results that lie in boxes. -/
theorem Bk.resCC {P : Program} {fn : Func} {w : World} {b c : Nat} {cs cs2 : Array Value} {t t2 : TypeId} {p q : Tmp} {ty : TypeId} (h : Bk w b cs t) (h2 : Bk w c cs2 t2) (hf : fn.results = #[.cell p ty, .cell q ty]) (tmps : Array Value) (hp : tmps.getD p undef = .pointer (some ⟨b, 0, none⟩)) (hq : tmps.getD q undef = .pointer (some ⟨c, 0, none⟩))
    (hu : (P.underlying ty).map (·.isRow) = some true) (hi : (P.info? ty).map (·.size) = some cs.size) (hi2 : (P.info? ty).map (·.size) = some cs2.size) : (results fn tmps).run P w = .ok (.tuple #[.agg cs, .agg cs2]) w := by
  have hp' : tmps[p]?.getD undef = .pointer (some ⟨b, 0, none⟩) := by simpa using hp
  have hq' : tmps[q]?.getD undef = .pointer (some ⟨c, 0, none⟩) := by simpa using hq
  simp [results, hf, hp', hq', asAddr, h.loadVar (P := P) ty hu hi, h2.loadVar (P := P) ty hu hi2]

set_option maxHeartbeats 4000000 in
theorem sides_any (rs : List (Int × Int)) (r : Int) (ls : List Int) (es : List Nat) (v : Value) (w : World) (hv : SpV w v (rs, r, ls, es)) (hs : wsmall es) (hL : LayOK w) (hT : tabE r ls es = 0) :
    Calls Tryd.prog 49 #[v] w fun e w' => e = .returned (.tuple #[.agg (uw (es.map parW)).toArray, .agg (uw (es.map chiW)).toArray]) ∧ Below w.heap.size w w' := by
  obtain ⟨A, c, L, cl, B, d, hve, hA, hLs, hB, hcc⟩ := id hv
  subst hve
  unfold spcV at hv ⊢
  simp only at hv ⊢ hA hLs hB hcc
  have h64 := (tab_zero hT).2.1
  have hEn := fun W h1 h2 => fEntries_any rs r ls es _ W (h1 : SpV W (.agg #[.slice A rs.length c, .int .i64 r, .slice L ls.length cl, .slice B es.length d]) (rs, r, ls, es)) hs h2 hT
  rw [← mixL_all parW es h64, ← mixL_all chiW es h64]
  rw [h64] at hB hEn hv ⊢
  obtain ⟨bB, oB, rfl, hBl, _⟩ := id (hB.2 (by omega))
  have H64 := Lib.hid h64
  have HT := Lib.hid hT
  have HEn := Lib.hid hEn
  have HLy := Lib.hid hL
  have HBm := Lib.hid hB
  have kS := ((Bk.new w #[.slice A rs.length c, .int .i64 r, .slice L ls.length cl, .slice (some ⟨bB, oB, none⟩) 64 d] 28).alloc (.cells #[.int .u64 0, .int .u64 0, .int .u64 0, .int .u64 0, .int .u64 0, .int .u64 0, .int .u64 0, .int .u64 0, .int .u64 0, .int .u64 0, .int .u64 0, .int .u64 0, .int .u64 0, .int .u64 0, .int .u64 0, .int .u64 0, .int .u64 0, .int .u64 0, .int .u64 0, .int .u64 0, .int .u64 0, .int .u64 0, .int .u64 0, .int .u64 0, .int .u64 0, .int .u64 0, .int .u64 0, .int .u64 0, .int .u64 0, .int .u64 0, .int .u64 0, .int .u64 0, .int .u64 0, .int .u64 0, .int .u64 0, .int .u64 0, .int .u64 0, .int .u64 0, .int .u64 0, .int .u64 0, .int .u64 0, .int .u64 0, .int .u64 0, .int .u64 0, .int .u64 0, .int .u64 0, .int .u64 0, .int .u64 0, .int .u64 0, .int .u64 0, .int .u64 0, .int .u64 0, .int .u64 0, .int .u64 0, .int .u64 0, .int .u64 0, .int .u64 0, .int .u64 0, .int .u64 0, .int .u64 0, .int .u64 0, .int .u64 0, .int .u64 0, .int .u64 0] 76)).alloc (.cells #[.int .u64 0, .int .u64 0, .int .u64 0, .int .u64 0, .int .u64 0, .int .u64 0, .int .u64 0, .int .u64 0, .int .u64 0, .int .u64 0, .int .u64 0, .int .u64 0, .int .u64 0, .int .u64 0, .int .u64 0, .int .u64 0, .int .u64 0, .int .u64 0, .int .u64 0, .int .u64 0, .int .u64 0, .int .u64 0, .int .u64 0, .int .u64 0, .int .u64 0, .int .u64 0, .int .u64 0, .int .u64 0, .int .u64 0, .int .u64 0, .int .u64 0, .int .u64 0, .int .u64 0, .int .u64 0, .int .u64 0, .int .u64 0, .int .u64 0, .int .u64 0, .int .u64 0, .int .u64 0, .int .u64 0, .int .u64 0, .int .u64 0, .int .u64 0, .int .u64 0, .int .u64 0, .int .u64 0, .int .u64 0, .int .u64 0, .int .u64 0, .int .u64 0, .int .u64 0, .int .u64 0, .int .u64 0, .int .u64 0, .int .u64 0, .int .u64 0, .int .u64 0, .int .u64 0, .int .u64 0, .int .u64 0, .int .u64 0, .int .u64 0, .int .u64 0] 76)
  have kP := (Bk.new (w.alloc (.cells #[.slice A rs.length c, .int .i64 r, .slice L ls.length cl, .slice (some ⟨bB, oB, none⟩) 64 d] 28)) #[.int .u64 0, .int .u64 0, .int .u64 0, .int .u64 0, .int .u64 0, .int .u64 0, .int .u64 0, .int .u64 0, .int .u64 0, .int .u64 0, .int .u64 0, .int .u64 0, .int .u64 0, .int .u64 0, .int .u64 0, .int .u64 0, .int .u64 0, .int .u64 0, .int .u64 0, .int .u64 0, .int .u64 0, .int .u64 0, .int .u64 0, .int .u64 0, .int .u64 0, .int .u64 0, .int .u64 0, .int .u64 0, .int .u64 0, .int .u64 0, .int .u64 0, .int .u64 0, .int .u64 0, .int .u64 0, .int .u64 0, .int .u64 0, .int .u64 0, .int .u64 0, .int .u64 0, .int .u64 0, .int .u64 0, .int .u64 0, .int .u64 0, .int .u64 0, .int .u64 0, .int .u64 0, .int .u64 0, .int .u64 0, .int .u64 0, .int .u64 0, .int .u64 0, .int .u64 0, .int .u64 0, .int .u64 0, .int .u64 0, .int .u64 0, .int .u64 0, .int .u64 0, .int .u64 0, .int .u64 0, .int .u64 0, .int .u64 0, .int .u64 0, .int .u64 0] 76).alloc (.cells #[.int .u64 0, .int .u64 0, .int .u64 0, .int .u64 0, .int .u64 0, .int .u64 0, .int .u64 0, .int .u64 0, .int .u64 0, .int .u64 0, .int .u64 0, .int .u64 0, .int .u64 0, .int .u64 0, .int .u64 0, .int .u64 0, .int .u64 0, .int .u64 0, .int .u64 0, .int .u64 0, .int .u64 0, .int .u64 0, .int .u64 0, .int .u64 0, .int .u64 0, .int .u64 0, .int .u64 0, .int .u64 0, .int .u64 0, .int .u64 0, .int .u64 0, .int .u64 0, .int .u64 0, .int .u64 0, .int .u64 0, .int .u64 0, .int .u64 0, .int .u64 0, .int .u64 0, .int .u64 0, .int .u64 0, .int .u64 0, .int .u64 0, .int .u64 0, .int .u64 0, .int .u64 0, .int .u64 0, .int .u64 0, .int .u64 0, .int .u64 0, .int .u64 0, .int .u64 0, .int .u64 0, .int .u64 0, .int .u64 0, .int .u64 0, .int .u64 0, .int .u64 0, .int .u64 0, .int .u64 0, .int .u64 0, .int .u64 0, .int .u64 0, .int .u64 0] 76)
  have kC := Bk.new ((w.alloc (.cells #[.slice A rs.length c, .int .i64 r, .slice L ls.length cl, .slice (some ⟨bB, oB, none⟩) 64 d] 28)).alloc (.cells #[.int .u64 0, .int .u64 0, .int .u64 0, .int .u64 0, .int .u64 0, .int .u64 0, .int .u64 0, .int .u64 0, .int .u64 0, .int .u64 0, .int .u64 0, .int .u64 0, .int .u64 0, .int .u64 0, .int .u64 0, .int .u64 0, .int .u64 0, .int .u64 0, .int .u64 0, .int .u64 0, .int .u64 0, .int .u64 0, .int .u64 0, .int .u64 0, .int .u64 0, .int .u64 0, .int .u64 0, .int .u64 0, .int .u64 0, .int .u64 0, .int .u64 0, .int .u64 0, .int .u64 0, .int .u64 0, .int .u64 0, .int .u64 0, .int .u64 0, .int .u64 0, .int .u64 0, .int .u64 0, .int .u64 0, .int .u64 0, .int .u64 0, .int .u64 0, .int .u64 0, .int .u64 0, .int .u64 0, .int .u64 0, .int .u64 0, .int .u64 0, .int .u64 0, .int .u64 0, .int .u64 0, .int .u64 0, .int .u64 0, .int .u64 0, .int .u64 0, .int .u64 0, .int .u64 0, .int .u64 0, .int .u64 0, .int .u64 0, .int .u64 0, .int .u64 0] 76)) #[.int .u64 0, .int .u64 0, .int .u64 0, .int .u64 0, .int .u64 0, .int .u64 0, .int .u64 0, .int .u64 0, .int .u64 0, .int .u64 0, .int .u64 0, .int .u64 0, .int .u64 0, .int .u64 0, .int .u64 0, .int .u64 0, .int .u64 0, .int .u64 0, .int .u64 0, .int .u64 0, .int .u64 0, .int .u64 0, .int .u64 0, .int .u64 0, .int .u64 0, .int .u64 0, .int .u64 0, .int .u64 0, .int .u64 0, .int .u64 0, .int .u64 0, .int .u64 0, .int .u64 0, .int .u64 0, .int .u64 0, .int .u64 0, .int .u64 0, .int .u64 0, .int .u64 0, .int .u64 0, .int .u64 0, .int .u64 0, .int .u64 0, .int .u64 0, .int .u64 0, .int .u64 0, .int .u64 0, .int .u64 0, .int .u64 0, .int .u64 0, .int .u64 0, .int .u64 0, .int .u64 0, .int .u64 0, .int .u64 0, .int .u64 0, .int .u64 0, .int .u64 0, .int .u64 0, .int .u64 0, .int .u64 0, .int .u64 0, .int .u64 0, .int .u64 0] 76
  simp only [World.size_alloc] at kP kC
  have hB1 := balloc (balloc (balloc (Below.refl _ w) (.cells #[.slice A rs.length c, .int .i64 r, .slice L ls.length cl, .slice (some ⟨bB, oB, none⟩) 64 d] 28)) (.cells #[.int .u64 0, .int .u64 0, .int .u64 0, .int .u64 0, .int .u64 0, .int .u64 0, .int .u64 0, .int .u64 0, .int .u64 0, .int .u64 0, .int .u64 0, .int .u64 0, .int .u64 0, .int .u64 0, .int .u64 0, .int .u64 0, .int .u64 0, .int .u64 0, .int .u64 0, .int .u64 0, .int .u64 0, .int .u64 0, .int .u64 0, .int .u64 0, .int .u64 0, .int .u64 0, .int .u64 0, .int .u64 0, .int .u64 0, .int .u64 0, .int .u64 0, .int .u64 0, .int .u64 0, .int .u64 0, .int .u64 0, .int .u64 0, .int .u64 0, .int .u64 0, .int .u64 0, .int .u64 0, .int .u64 0, .int .u64 0, .int .u64 0, .int .u64 0, .int .u64 0, .int .u64 0, .int .u64 0, .int .u64 0, .int .u64 0, .int .u64 0, .int .u64 0, .int .u64 0, .int .u64 0, .int .u64 0, .int .u64 0, .int .u64 0, .int .u64 0, .int .u64 0, .int .u64 0, .int .u64 0, .int .u64 0, .int .u64 0, .int .u64 0, .int .u64 0] 76)) (.cells #[.int .u64 0, .int .u64 0, .int .u64 0, .int .u64 0, .int .u64 0, .int .u64 0, .int .u64 0, .int .u64 0, .int .u64 0, .int .u64 0, .int .u64 0, .int .u64 0, .int .u64 0, .int .u64 0, .int .u64 0, .int .u64 0, .int .u64 0, .int .u64 0, .int .u64 0, .int .u64 0, .int .u64 0, .int .u64 0, .int .u64 0, .int .u64 0, .int .u64 0, .int .u64 0, .int .u64 0, .int .u64 0, .int .u64 0, .int .u64 0, .int .u64 0, .int .u64 0, .int .u64 0, .int .u64 0, .int .u64 0, .int .u64 0, .int .u64 0, .int .u64 0, .int .u64 0, .int .u64 0, .int .u64 0, .int .u64 0, .int .u64 0, .int .u64 0, .int .u64 0, .int .u64 0, .int .u64 0, .int .u64 0, .int .u64 0, .int .u64 0, .int .u64 0, .int .u64 0, .int .u64 0, .int .u64 0, .int .u64 0, .int .u64 0, .int .u64 0, .int .u64 0, .int .u64 0, .int .u64 0, .int .u64 0, .int .u64 0, .int .u64 0, .int .u64 0] 76)
  have HIx : Hid (∀ (k : Nat) (a b : Int) (c d f : Bool), k < 64 → entP es k = (a, b, c, d, f) → ∀ W : World, (Instr.index 86 (.agg (enW (entL es)).toArray) (.int .i64 k)).run Tryd.prog W = .ok (.agg #[.int .i64 a, .int .i64 b, .bool c, .bool d, .bool f]) W) := Lib.hid (fun k a b c d f hk he => idx_hyp es hk he)
  clear hT h64 hEn hL hB
  go_enter Tryd.func49, Tryd.ntmps49
  go_upto_region 1 with fail
  generalize ((w.alloc (.cells #[.slice A rs.length c, .int .i64 r, .slice L ls.length cl, .slice (some ⟨bB, oB, none⟩) 64 d] 28)).alloc (.cells #[.int .u64 0, .int .u64 0, .int .u64 0, .int .u64 0, .int .u64 0, .int .u64 0, .int .u64 0, .int .u64 0, .int .u64 0, .int .u64 0, .int .u64 0, .int .u64 0, .int .u64 0, .int .u64 0, .int .u64 0, .int .u64 0, .int .u64 0, .int .u64 0, .int .u64 0, .int .u64 0, .int .u64 0, .int .u64 0, .int .u64 0, .int .u64 0, .int .u64 0, .int .u64 0, .int .u64 0, .int .u64 0, .int .u64 0, .int .u64 0, .int .u64 0, .int .u64 0, .int .u64 0, .int .u64 0, .int .u64 0, .int .u64 0, .int .u64 0, .int .u64 0, .int .u64 0, .int .u64 0, .int .u64 0, .int .u64 0, .int .u64 0, .int .u64 0, .int .u64 0, .int .u64 0, .int .u64 0, .int .u64 0, .int .u64 0, .int .u64 0, .int .u64 0, .int .u64 0, .int .u64 0, .int .u64 0, .int .u64 0, .int .u64 0, .int .u64 0, .int .u64 0, .int .u64 0, .int .u64 0, .int .u64 0, .int .u64 0, .int .u64 0, .int .u64 0] 76)).alloc (.cells #[.int .u64 0, .int .u64 0, .int .u64 0, .int .u64 0, .int .u64 0, .int .u64 0, .int .u64 0, .int .u64 0, .int .u64 0, .int .u64 0, .int .u64 0, .int .u64 0, .int .u64 0, .int .u64 0, .int .u64 0, .int .u64 0, .int .u64 0, .int .u64 0, .int .u64 0, .int .u64 0, .int .u64 0, .int .u64 0, .int .u64 0, .int .u64 0, .int .u64 0, .int .u64 0, .int .u64 0, .int .u64 0, .int .u64 0, .int .u64 0, .int .u64 0, .int .u64 0, .int .u64 0, .int .u64 0, .int .u64 0, .int .u64 0, .int .u64 0, .int .u64 0, .int .u64 0, .int .u64 0, .int .u64 0, .int .u64 0, .int .u64 0, .int .u64 0, .int .u64 0, .int .u64 0, .int .u64 0, .int .u64 0, .int .u64 0, .int .u64 0, .int .u64 0, .int .u64 0, .int .u64 0, .int .u64 0, .int .u64 0, .int .u64 0, .int .u64 0, .int .u64 0, .int .u64 0, .int .u64 0, .int .u64 0, .int .u64 0, .int .u64 0, .int .u64 0] 76) = w1 at *
  obtain ⟨P, hP⟩ : ∃ P, P = w.heap.size + 1 := ⟨_, rfl⟩
  rw [← hP] at kP kC ⊢
  obtain ⟨C, hC⟩ : ∃ C, C = P + 1 := ⟨_, rfl⟩
  rw [← hC] at kC ⊢
  have hwP : w.heap.size < P := by omega
  have hPC : P < C := by omega
  have hbP : bB < P := by omega
  clear hP hC
  obtain ⟨cS, fS, lS⟩ := kS.facts
  go_wp2_with fail
  refine (HEn.out _ (hv.to hB1) (HLy.out.below hB1)).mono ?_
  rintro e w2 ⟨rfl, hb2⟩
  generalize (enW (entL es)).toArray = X at *
  replace kS := kS.to hb2
  replace kP := kP.to hb2
  replace kC := kC.to hb2
  replace hB1 := bnext hB1 hb2
  rw [words_zero, ← mixL_zero parW es] at kP
  rw [words_zero, ← mixL_zero chiW es] at kC
  have HBm2 := Lib.hid (show ∀ W, Below P w2 W → Below w.heap.size w W from fun W h => hB1.trans (h.mono (by omega)))
  have hC2 := kC.lt
  clear cS fS lS hb2 hv HEn
  go_wp2_with fail
  go_loopw [4, 6, 9] (fun _ _ i wr => ∃ k : Nat, k ≤ 64 ∧ i = .int .i64 k ∧ Bk wr P (uw (mixL parW es k)).toArray 76 ∧ Bk wr C (uw (mixL chiW es k)).toArray 76 ∧ Below P w2 wr) (fun _ _ i _ => 64 - (intOf i).toNat)
  case atStart => exact ⟨0, by omega, rfl, kP, kC, Below.refl _ _⟩
  case round =>
    obtain ⟨k, hk, rfl, kPr, kCr, hBx⟩ := hrel
    have kSr := kS.below hBx hwP
    have hBw := HBm2.out _ hBx
    have hCr := kCr.lt
    by_cases hlt : k < 64
    · have hkI : (k : Int) < 64 := by omega
      obtain ⟨bB', oB', hBe, hcw⟩ := word_at (HBm.out.below hBw (Nat.le_refl _)) H64.out hlt
      injection hBe with hBe
      injection hBe with hBe1 hBe2 hBe3
      subst hBe1 hBe2
      have hpm := mixL_succ parW es k hlt
      have hcm := mixL_succ chiW es k hlt
      have hlp := mixL_len parW es k
      have hlc := mixL_len chiW es k
      rcases hee : entP es k with ⟨a1, b1, c1, d1, f1⟩
      have hix := HIx.out k a1 b1 c1 d1 f1 hlt hee
      have hun : unpR (es.getD k 0) = ((a1, b1, c1, d1, f1), 0) := Prod.ext hee (unp_in HT.out k hlt)
      have hxs := getD_small28 hs H64.out k hlt
      generalize es.getD k 0 = x at *
      generalize hgp : mixL parW es k = mp at *
      generalize hgc : mixL chiW es k = mc at *
      have cP := uw_cell kPr (k := k) (by omega)
      have fP := kPr.frozen
      have cC := uw_cell kCr (k := k) (by omega)
      have fC := kCr.frozen
      have hne1 : P ≠ C := by omega
      have hne2 : C ≠ P := by omega
      have hne3 : bB ≠ P := by omega
      have hne4 : bB ≠ C := by omega
      have hPr : P < wr.heap.size := by omega
      have lBr : bB < wr.heap.size := World.block_lt_of_cell? _ _ hcw
      have HPM := Lib.hid hpm
      have HCM := Lib.hid hcm
      have HUN := Lib.hid hun
      clear hpm hcm hun hgp hgc hee
      obtain ⟨cS, fS, lS⟩ := kSr.facts
      by_cases ha : a1 = 1
      · subst ha
        obtain ⟨hw1, hw2, hw3, hw4⟩ := par_word HUN.out
        have HW1 := Lib.hid hw1
        have HW2 := Lib.hid hw2
        clear hw1 hw2
        have kP5 : Bk (((wr.setCell ⟨P, k, none⟩ (.int .u64 (x : Int))).setCell ⟨C, k, none⟩ (.int .u64 (x : Int))).alloc (.cells #[.int .i64 1, .int .i64 b1, .bool c1, .bool d1, .bool f1] 52)) P (uw (mp.set k x)).toArray 76 := ((uw_put kPr k x).far (p := ⟨C, k, none⟩) hne1 _).alloc _
        have kC5 : Bk (((wr.setCell ⟨P, k, none⟩ (.int .u64 (x : Int))).setCell ⟨C, k, none⟩ (.int .u64 (x : Int))).alloc (.cells #[.int .i64 1, .int .i64 b1, .bool c1, .bool d1, .bool f1] 52)) C (uw (mc.set k x)).toArray 76 := (uw_put (kCr.far (p := ⟨P, k, none⟩) hne2 _) k x).alloc _
        have hB5 : Below P w2 (((wr.setCell ⟨P, k, none⟩ (.int .u64 (x : Int))).setCell ⟨C, k, none⟩ (.int .u64 (x : Int))).alloc (.cells #[.int .i64 1, .int .i64 b1, .bool c1, .bool d1, .bool f1] 52)) := ((hBx.setCell (p := ⟨P, k, none⟩) (Nat.le_refl _) _).setCell (p := ⟨C, k, none⟩) (by show P ≤ C; omega) _).alloc (by simp; omega) _
        go_wp2_with fail
        generalize (((wr.setCell ⟨P, k, none⟩ (.int .u64 (x : Int))).setCell ⟨C, k, none⟩ (.int .u64 (x : Int))).alloc (.cells #[.int .i64 1, .int .i64 b1, .bool c1, .bool d1, .bool f1] 52)) = w5 at *
        clear cS fS lS cP fP cC fC
        refine (Write_any x false _ hxs (HLy.out.below (HBm2.out _ hB5))).mono ?_
        rintro e w6 ⟨rfl, hb6⟩
        rw [HW1.out]
        have kP5L := kP5.lt
        replace kP5 := kP5.to hb6
        replace kC5 := kC5.to hb6
        replace hB5 : Below P w2 w6 := hB5.trans (hb6.mono (Nat.le_of_lt kP5L))
        have cP := uw_cell kP5 (k := k) (by simp; omega)
        have fP := kP5.frozen
        have lP := kP5.lt
        go_wp2_with fail
        have kP7 := uw_put kP5 k (parW x)
        have kC7 := kC5.far (p := ⟨P, k, none⟩) hne2 (.int .u64 ((parW x : Nat) : Int))
        have hB7 := hB5.setCell (p := ⟨P, k, none⟩) (Nat.le_refl _) (.int .u64 ((parW x : Nat) : Int))
        rw [List.set_set] at kP7
        have lP7 := kP7.lt
        generalize w6.setCell ⟨P, k, none⟩ (.int .u64 ((parW x : Nat) : Int)) = w7 at *
        clear cP fP lP
        refine (Refer_any (parW x) false _ (by omega) (HLy.out.below (HBm2.out _ hB7))).mono ?_
        rintro e w8 ⟨rfl, hb8⟩
        rw [HW2.out]
        replace kP7 := kP7.to hb8
        replace kC7 := kC7.to hb8
        replace hB7 : Below P w2 w8 := hB7.trans (hb8.mono (Nat.le_of_lt lP7))
        have cC := uw_cell kC7 (k := k) (by simp; omega)
        have fC := kC7.frozen
        have lC := kC7.lt
        go_wp2_with fail
        have kC9 := uw_put kC7 k (chiW x)
        rw [List.set_set] at kC9
        refine ⟨⟨k + 1, by omega, by go_num, ?_, ?_, hB7.setCell (p := ⟨C, k, none⟩) (by show P ≤ C; omega) _⟩, by simp [intOf]; omega⟩
        · rw [HPM.out]; exact kP7.far (p := ⟨C, k, none⟩) hne1 _
        · rw [HCM.out]; exact kC9
      · have hd : (a1 == 1) = false := by simpa using ha
        obtain ⟨hp1, hp2⟩ := par_other (x := x) (by unfold unpK; rw [HUN.out]; exact ha)
        have HP1 := Lib.hid hp1
        have HP2 := Lib.hid hp2
        clear hp1 hp2 ha
        go_wp2_with fail
        refine ⟨⟨k + 1, by omega, by go_num, ?_, ?_, ((hBx.setCell (p := ⟨P, k, none⟩) (Nat.le_refl _) _).setCell (p := ⟨C, k, none⟩) (by show P ≤ C; omega) _).alloc (by simp; omega) _⟩, by simp [intOf]; omega⟩
        · rw [HPM.out, HP1.out]; exact ((uw_put kPr k x).far (p := ⟨C, k, none⟩) hne1 _).alloc _
        · rw [HCM.out, HP2.out]; exact (uw_put (kCr.far (p := ⟨P, k, none⟩) hne2 _) k x).alloc _
    · obtain rfl : k = 64 := by omega
      have lp := mixL_len parW es 64
      have lc := mixL_len chiW es 64
      generalize hgm : mixL parW es 64 = mp at *
      generalize hgc : mixL chiW es 64 = mc at *
      have Hgm := Lib.hid hgm
      have Hgc := Lib.hid hgc
      clear hgm hgc
      go_upto_region 10 with fail
      have hzp : (uw mp).toArray.size = 64 := by simp [uw_len, lp]
      have hzc : (uw mc).toArray.size = 64 := by simp [uw_len, lc]
      have op : (uw mp).toArray.all (·.oneCell') = true := all_oneCell_toArray (oneCells_uw mp)
      have oc : (uw mc).toArray.all (·.oneCell') = true := all_oneCell_toArray (oneCells_uw mc)
      have hu : (Tryd.prog.underlying 76).map (·.isRow) = some true := by kernel_rfl
      obtain ⟨dd, hu, hd⟩ := Option.map_eq_some_iff.1 hu
      have lpw : (uw mp).length = 64 := by simp [uw_len, lp]
      have lcw : (uw mc).length = 64 := by simp [uw_len, lc]
      have e1 := setRow_self wr.drew P _ _ _ kPr.drew
      have e2 := setRow_self wr.drew C _ _ _ kCr.drew
      refine wp_region_held_drew (S := fun w' => w' = wr.drew) (by kernel_rfl) rfl (fun _ => ?_)
      refine wpAnyH_take (i := 0) (v := .agg (uw mp).toArray) rfl (by kernel_rfl) (by kernel_rfl) (by kernel_rfl) (fun _ _ _ h => h) (yieldsIf_load_mid (by rfl) 76 _ rfl P 0 rfl (uw mp) dd (fun w' e => by subst e; exact kPr.drew.range) hu hd (by rw [lpw]; kernel_rfl)) rfl ?_
      refine wpAnyH_take (i := 1) (v := .agg (uw mc).toArray) rfl (by kernel_rfl) (by kernel_rfl) (by kernel_rfl) (fun _ _ _ h => h) (yieldsIf_load_mid (by rfl) 76 _ rfl C 0 rfl (uw mc) dd (fun w' e => by subst e; exact kCr.drew.range) hu hd (by rw [lcw]; kernel_rfl)) rfl ?_
      refine wpAnyH_all (rs := [2]) (by kernel_rfl) (by simp) (fun i hi => ?_)
      obtain rfl : i = 2 := by simpa using hi
      refine Or.inl ?_
      refine wp_store_row 76 _ _ rfl P (uw mp).toArray rfl rfl 76 (uw mp).toArray kPr.drew (by rw [hzp]; kernel_rfl) rfl op ⟨e1, ?_⟩
      rw [e1]
      refine wpAnyH_all (rs := [3]) (by kernel_rfl) (by simp) (fun i hi => ?_)
      obtain rfl : i = 3 := by simpa using hi
      refine Or.inl ?_
      refine wp_store_row 76 _ _ rfl C (uw mc).toArray rfl rfl 76 (uw mc).toArray kCr.drew (by rw [hzc]; kernel_rfl) rfl oc ⟨e2, ?_⟩
      rw [e2]
      refine wpAnyH_done (by kernel_rfl) ?_ _
      have hBf := below_drew (HBm2.out _ hBx)
      have kF := kPr.drew
      have kG := kCr.drew
      generalize wr.drew = wf at *
      simp only [Exit.then]
      go_at_K
      go_frame
      go_wp2
      exact bodyPost_ret (kF.resCC (P := Tryd.prog) kG rfl _ rfl rfl (by kernel_rfl) (by rw [hzp]; kernel_rfl) (by rw [hzc]; kernel_rfl)) rfl ⟨by rw [Hgm.out, Hgc.out], hBf⟩
end Go.Proofs.YtmjahjdnfijpkaaDoor
