/- What space.Size and space.Owner return. -/
import Derived.Test.YtpkgfkhaiifooaaDoorSpF
import Derived.Test.YtpkgfkhaiifooaaDoorGV
namespace Go.Proofs.YtpkgfkhaiifooaaDoor
open Go Go.Proofs Go.RowKit Go.Shelf
set_option linter.unusedSimpArgs false
set_option linter.unusedVariables false
set_option maxRecDepth 100000
attribute [local go_sem] Oper.semAt_some

theorem keepE_set {W : World} {Br P : Nat} {B : Option Addr} (h1 : 0 ≠ P) (h2 : Br ≠ P) (h3 : ∀ b o p, B = some ⟨b, o, p⟩ → b ≠ P) (x : Value) : KeepE Br B W (W.setCell ⟨P, 0, none⟩ x) :=
  ⟨Below.heap_setCell W ⟨P, 0, none⟩ x _ h1, Below.heap_setCell W ⟨P, 0, none⟩ x _ h2, fun b o p e => Below.heap_setCell W ⟨P, 0, none⟩ x _ (h3 b o p e)⟩
theorem bk_ownF {β : Type} {B q : Nat} {f : β → Array Value} {t : TypeId} : OwnFrom B (fun (s : β) W => Bk W q (f s) t) := fun s W W' row hs hg hr =>
  (hg.block q hs.lt (fun e => by obtain ⟨_, o, ho, hc⟩ := hr q e.symm; have : W.heap[q]? = _ := hs; rw [this] at ho; cases ho; cases hc)).trans hs
/-- How many of the pages have an entry. -/
def cntSp (es : List Nat) (pre : List Pg) : Nat := (pre.filter fun x => (entP es x.1.toNat).1 != 0).length
theorem filt_one (b : Bool) (x : Pg) (f : Pg → Bool) (h : f x = b) : ([x].filter f).length = if b then 1 else 0 := by
  cases b <;> simp [List.filter, h]
theorem filtN_one (b : Bool) (x : Nat) (f : Nat → Bool) (h : f x = b) : ([x].filter f).length = if b then 1 else 0 := by
  cases b <;> simp [List.filter, h]
theorem cntSp_snoc (es : List Nat) (pre : List Pg) (x : Pg) : cntSp es (pre ++ [x]) = cntSp es pre + ((entP es x.1.toNat).1 != 0).toNat := by
  unfold cntSp
  rw [List.filter_append, List.length_append, filt_one _ x (fun x => (entP es x.1.toNat).1 != 0) rfl]
  generalize ((entP es x.1.toNat).1 != 0) = z
  cases z <;> rfl
theorem cntSp_len (es : List Nat) (pre : List Pg) : cntSp es pre ≤ pre.length := List.length_filter_le _ _
theorem unpK_3 (x : Nat) : unpK x = 0 ∨ unpK x = 1 ∨ unpK x = 2 := by
  by_cases h : unpE x = 0
  · rw [unpK_eq x h]
    have := unpE_lt4 x h
    omega
  · left
    unfold unpK unpR
    rw [if_neg h]
theorem kin_succ (es : List Nat) (kd : Int) (n : Nat) : (kinL es kd (n + 1)).length = (kinL es kd n).length + if unpK (es.getD n 0) = kd then 1 else 0 := by
  unfold kinL
  rw [List.length_map, List.length_map, List.range_succ, List.filter_append, List.length_append, filtN_one _ n (fun p => unpK (es.getD p 0) == kd) rfl]
  generalize unpK (es.getD n 0) = z
  by_cases h : z = kd <;> simp [h]
theorem kin_sum (es : List Nat) : ∀ n : Nat, n ≤ 64 → cntSp es (pgs 0 n) = (kinL es 1 n).length + (kinL es 2 n).length
  | 0, _ => rfl
  | n + 1, hn => by
    have hk : (entP es n).1 = unpK (es.getD n 0) := rfl
    rw [pgs_succ, cntSp_snoc, kin_sum es n (by omega), pg_val _ (by omega) (by omega), Int.zero_add, Int.toNat_natCast, hk, kin_succ, kin_succ]
    rcases unpK_3 (es.getD n 0) with h | h | h <;> rw [h] <;> simp <;> omega

set_option maxHeartbeats 4000000 in
theorem Size_any (rs : List (Int × Int)) (r : Int) (ls : List Int) (es : List Nat) (v : Value) (w : World) (hv : SpV w v (rs, r, ls, es)) (hn : rs.length ≤ 1000000) (hs : wsmall es) (hL : LayOK w) :
    Calls Tryd.prog 27 #[v] w fun e w' => e = .returned (.tuple #[.int .i64 (sizR (rs, r, ls, es)).1, .int .i64 (sizR (rs, r, ls, es)).2]) ∧ Below w.heap.size w w' := by
  obtain ⟨A, c, L, cl, B, d, hve, hA, hLs, hB, hcc⟩ := id hv
  subst hve
  unfold spcV at hv ⊢
  simp only at hv ⊢ hA hLs hB hcc
  have kS := Bk.new w #[.slice A rs.length c, .int .i64 r, .slice L ls.length cl, .slice B es.length d] 28
  have hB1 := balloc (Below.refl _ w) (.cells #[.slice A rs.length c, .int .i64 r, .slice L ls.length cl, .slice B es.length d] 28)
  have HC := Lib.hid (spCheck_any rs r ls es _ _ (hv.to hB1) hn hs (hL.below hB1))
  obtain ⟨cS, fS, lS⟩ := kS.facts
  by_cases hE : spcE (rs, r, ls, es) = 0
  case neg =>
    have hR : sizR (rs, r, ls, es) = (0, spcE (rs, r, ls, es)) := by unfold sizR; rw [if_pos hE]
    rw [hR]
    have hd : (spcE (rs, r, ls, es) != 0) = true := by simpa using hE
    generalize spcE (rs, r, ls, es) = z at *
    clear hR hE
    go_enter Tryd.func27, Tryd.ntmps27
    go_wp2_with (go_at_call 15; refine HC.out.mono ?_; rintro e w2 ⟨rfl, hb2⟩)
    go_ret2
    exact ⟨rfl, bnext hB1 hb2⟩
  obtain ⟨hg, hT, _⟩ := spc_zero hE
  simp only at hg hT
  obtain ⟨h8, h64, _⟩ := tab_zero hT
  have hR : sizR (rs, r, ls, es) = ((cntSp es (pgs 0 64) : Int), 0) := by unfold sizR; rw [if_neg (by simpa using hE), kin_sum es 64 (by omega)]; simp
  rw [hR]
  rw [hE] at HC
  clear hR hE
  rw [h8] at kS hLs hcc HC hB1 cS lS fS ⊢
  rw [h64] at kS hB HC hB1 cS lS fS ⊢
  have hF : ∀ f, Fence.wide.fn f := fun _ => trivial
  refine (callsIn_wide (n := 4)).1 ?_
  refine callsIn_of_wp_marks Tryd.func27 rfl trivial ?_ rfl
  simp only [Tryd.ntmps27, List.size_toArray, List.length_cons, List.length_nil, Nat.reduceAdd, Nat.reduceSub, Array.replicate_succ, Array.replicate_zero, List.push_toArray, List.append_toArray, List.nil_append, List.cons_append]
  gi_wp2_with fail
  refine (callsIn_wide.2 HC.out).mono ?_
  rintro e w2 ⟨rfl, hb2⟩
  replace kS := kS.to hb2
  replace hB1 := bnext hB1 hb2
  clear cS fS lS hb2
  obtain ⟨cS, fS, lS⟩ := (kS.alloc (.cells #[.int .i64 0] 3)).facts
  gi_wp2_with fail
  refine (entries_in Fence.wide 3 trivial rfl r L B 8 cl 64 d _).mono ?_
  rintro e w' ⟨rfl, rfl⟩
  -- RANGE Size
  have kP := Bk.new w2 #[.int .i64 0] 3
  have hcP := balloc (Below.refl _ w2) (.cells #[.int .i64 0] 3)
  have hsP : (w2.alloc (.cells #[.int .i64 0] 3)).heap.size = w2.heap.size + 1 := by simp
  have hsw2 : w.heap.size < w2.heap.size := kS.lt
  generalize w2.alloc (.cells #[.int .i64 0] 3) = w3 at *
  have hP3 : w2.heap.size < w3.heap.size := by omega
  clear hsP
  replace hB1 := bnext hB1 hcP
  have hlay : 0 < w.heap.size := hL.lt
  have hbA : ∀ b o p, B = some ⟨b, o, p⟩ → b < w.heap.size := by
    obtain ⟨b', off', rfl, hb', _⟩ := hB.2 (by omega)
    intro b o p e
    injection e with e
    injection e with e
    subst e
    exact hb'
  have hL3 := hL.below hB1
  have kBr := Bk.new w3 #[.int .i64 r, .slice L 8 cl, .slice B 64 d] 26
  have hB4 := balloc (Below.refl _ w3) (.cells #[.int .i64 r, .slice L 8 cl, .slice B 64 d] 26)
  have hs4 : (w3.alloc (.cells #[.int .i64 r, .slice L 8 cl, .slice B 64 d] 26)).heap.size = w3.heap.size + 1 := by simp
  generalize hw4 : w3.alloc (.cells #[.int .i64 r, .slice L 8 cl, .slice B 64 d] 26) = w4 at *
  have hL4 := hL3.below hB4
  have hs5 : w3.heap.size < w4.heap.size := by omega
  have hsw : w.heap.size < w3.heap.size := by have := hB1.size; omega
  have HIt : ItW w4 w3.heap.size B := ⟨by omega, by omega, fun b o p e => by have := hbA b o p e; omega⟩
  have hB14 := bnext hB1 hB4
  clear cS fS lS hw4 hs4
  gi_wp2_with fail
  refine wpIn_rangeFunc_ownH rfl (by omega) (gf := 84) (lb := #[.pointer (some ⟨w3.heap.size, 0, none⟩)]) rfl trivial (enters_of Tryd.func84 (by kernel_rfl) rfl)
    (entries_stops w3.heap.size B d r ls es hT hs _ hL4 (hB.below hB14 (Nat.le_refl _)) (kBr.cell 2)) keepE_t (keepE_b HIt.l HIt.r HIt.b) (Below.refl _ _) (fun _ => rfl)
    (fun pre W => Bk W w2.heap.size #[.int .i64 (cntSp es pre : Nat)] 3 ∧ Below w2.heap.size w4 W) (fun _ _ _ => False) ?hI ?hIx ?h0
    (fun x a' W => ∃ q, Bk W q (entA (entP es x.1.toNat)) 38 ∧ w4.heap.size ≤ q ∧ a' = { tmps := #[.agg #[.slice A rs.length c, .int .i64 r, .slice L 8 cl, .slice B 64 d], .pointer (some ⟨w.heap.size, 0, none⟩), .int .i64 0, .int .i64 0, .int .i64 0, .pointer (some ⟨w2.heap.size, 0, none⟩), undef, .pointer (some ⟨q, 0, none⟩), .agg #[.slice A rs.length c, .int .i64 r, .slice L 8 cl, .slice B 64 d], .int .i64 0, .int .i64 0, .bool false, undef, .pointer (some ⟨w.heap.size, 1, none⟩), .agg #[.int .i64 r, .slice L 8 cl, .slice B 64 d], .func (.func 84) #[] #[.pointer (some ⟨w3.heap.size, 0, none⟩)], .int .i64 x.1, entV (entP es x.1.toNat), undef, undef, undef, undef, undef, undef], defers := [] }) ?hAx ?assign ?body ?done ?stop
  case hI => exact OwnFrom.and (bk_ownF (f := fun pre => #[.int .i64 (cntSp es pre : Nat)])) (ownFrom_below (by omega) (by omega))
  case hIx => exact fun _ _ _ _ _ hs _ _ => hs
  case h0 => exact ⟨kP.to hB4, Below.refl _ _⟩
  case hAx => exact fun x a' _ W W' row ⟨q, h1, h2⟩ hg hr => ⟨q, bk_own () W W' row h1 hg hr, h2⟩
  case assign =>
    intro l pre x W K hi hK
    unfold entV at hK ⊢
    gi_wp2
    exact hK _ _ (keepsFrom_below (balloc (Below.refl _ _) _)) ((HIt.le hi.2.size).keep (balloc (Below.refl _ _) _)) ⟨hi.1.alloc _, hi.2.alloc (by have := hi.2.size; omega) _⟩ ⟨_, Bk.new _ _ _, hi.2.size, rfl⟩
  case body =>
    rintro l pre ⟨x, hx0, hx1⟩ a' W hl _ ⟨kPW, hbW⟩ ⟨q, kq, hq, rfl⟩ hlen
    obtain ⟨p, rfl⟩ : ∃ p : Nat, x = p := ⟨x.toNat, by omega⟩
    simp only [Int.toNat_natCast] at kq ⊢
    have hsn := cntSp_snoc es pre ⟨(p : Int), hx0, hx1⟩
    simp only [Int.toNat_natCast] at hsn
    have hm := cntSp_len es pre
    generalize entP es p = ee at *
    obtain ⟨k1, n1, a1, b1, c1⟩ := ee
    simp only at hsn
    unfold entV
    unfold entA at kq
    simp only at kq ⊢
    generalize cntSp es pre = m at *
    have hm64 : m < 64 := by omega
    have Hsn := Lib.hid hsn
    clear hsn hm
    obtain ⟨cP, fP, lP⟩ := kPW.facts
    obtain ⟨cQ, fQ, lQ⟩ := kq.facts
    by_cases hk0 : k1 = 0
    · subst hk0
      gi_wp2
      exact ⟨KeepsFrom.refl _ _, (HIt.le hbW.size).keep (Below.refl _ _), by rw [Hsn.out]; exact kPW, hbW⟩
    · have hd : (k1 != 0) = true := by simpa using hk0
      have hk1 : ¬ k1 = 0 := hk0
      have Hk := Lib.hid (show (k1 != 0).toNat = 1 by rw [hd]; rfl)
      clear hk0 hk1
      gi_wp2
      refine ⟨(KeepsOthers.setCell _ _ _).from _, keepE_set (by omega) (by omega) (fun b o p e => by have := hbA b o p e; omega) _, ?_, hbW.setCell (p := ⟨w2.heap.size, 0, none⟩) (Nat.le_refl _) _⟩
      rw [Hsn.out, Hk.out]
      have := kPW.put 0 (.int .i64 ((m : Int) + 1))
      rw [show ((m + 1 : Nat) : Int) = (m : Int) + 1 by omega]
      exact this
  case done =>
    rintro D ys W hD rfl ⟨kPW, hbW⟩ hK
    obtain ⟨cP, fP, lP⟩ := kPW.facts
    gi_wp2
    refine ⟨by simp, .inl ⟨_, _, rfl, run_takeDeferred hK, ?_⟩⟩
    exact ⟨_, results_tmp2 rfl _ _ _, rfl, (hB14.trans (hbW.mono (by omega))).trans (belowK_b (w := w) (Nat.le_refl _) _ D _ _ (by omega) hK rfl rfl)⟩
  case stop => exact fun D c pre W _ _ h _ => h.elim
  -- END Size

/-- The pages so far that have the frame. -/
def ownP (es : List Nat) (frame : Int) (pre : List Pg) : List Int := (pre.filter fun x => ownB es frame x.1.toNat).map fun x => x.1
def OwnI (es : List Nat) (frame : Int) (P : Nat) (w4 : World) (pre : List Pg) (W : World) : Prop := (∃ v, Boxed W P 22 v ∧ W.ownsRow w4.heap.size 3 1 v (ownP es frame pre).length (iw (ownP es frame pre)) ∧ True) ∧ Below P w4 W ∧ w4.heap.size ≤ W.heap.size
theorem ownP_yes {es : List Nat} {frame : Int} {pre : List Pg} {x : Pg} (h : ownB es frame x.1.toNat = true) : ownP es frame (pre ++ [x]) = ownP es frame pre ++ [x.1] := by
  unfold ownP
  rw [List.filter_append, List.map_append]
  simp [List.filter, h]
theorem ownP_no {es : List Nat} {frame : Int} {pre : List Pg} {x : Pg} (h : ownB es frame x.1.toNat = false) : ownP es frame (pre ++ [x]) = ownP es frame pre := by
  unfold ownP
  rw [List.filter_append, List.map_append]
  simp [List.filter, h]
theorem ownP_len (es : List Nat) (frame : Int) (pre : List Pg) : (ownP es frame pre).length ≤ pre.length := by unfold ownP; rw [List.length_map]; exact List.length_filter_le _ _
theorem ownP_all (es : List Nat) (frame : Int) : ∀ n : Nat, n ≤ 64 → ownP es frame (pgs 0 n) = ownL es frame n
  | 0, _ => rfl
  | n + 1, hn => by
    have hv : (pg (0 + (n : Int))).1 = (n : Int) := by rw [pg_val _ (by omega) (by omega)]; omega
    have hx : ownL es frame (n + 1) = ownL es frame n ++ if ownB es frame n then [(n : Int)] else [] := by
      unfold ownL
      rw [List.range_succ, List.filter_append, List.map_append]
      cases h : ownB es frame n <;> simp [List.filter, h]
    rw [pgs_succ, hx, ← ownP_all es frame n (by omega)]
    cases h : ownB es frame n
    · rw [ownP_no (by rw [hv, Int.toNat_natCast]; exact h)]; simp
    · rw [ownP_yes (by rw [hv, Int.toNat_natCast]; exact h), hv]; simp
theorem ownB_of {es : List Nat} {frame : Int} {p : Nat} {k n : Int} {a b c : Bool} (h : entP es p = (k, n, a, b, c)) : ownB es frame p = (decide (k = 1) && decide (n = frame)) := by unfold ownB; rw [h]

theorem spIsFrame_t (n : Int) (w : World) (h0 : 0 ≤ n) (h1 : n < 256) : Calls Tryd.prog 55 #[.int .i64 n] w fun e w' => e = .returned (.bool true) ∧ w' = w := by
  refine (spIsFrame n w).mono ?_
  rintro e w' ⟨rfl, rfl⟩
  exact ⟨by rw [decide_eq_true h0, decide_eq_true h1]; rfl, rfl⟩
theorem spIsFrame_f (n : Int) (w : World) (h : n < 0 ∨ 255 < n) : Calls Tryd.prog 55 #[.int .i64 n] w fun e w' => e = .returned (.bool false) ∧ w' = w := by
  refine (spIsFrame n w).mono ?_
  rintro e w' ⟨rfl, rfl⟩
  have h2 : (decide (0 ≤ n) && decide (n < 256)) = false := by rw [Bool.and_eq_false_iff]; simp only [decide_eq_false_iff_not]; omega
  exact ⟨by rw [h2], rfl⟩

set_option maxHeartbeats 4000000 in
theorem Owner_any (rs : List (Int × Int)) (r : Int) (ls : List Int) (es : List Nat) (v : Value) (frame : Int) (w : World) (hv : SpV w v (rs, r, ls, es)) (hn : rs.length ≤ 1000000) (hs : wsmall es) (hL : LayOK w) :
    Calls Tryd.prog 25 #[v, .int .i64 frame] w fun e w' => IsRes w w' (ownR (rs, r, ls, es) frame).1 (ownR (rs, r, ls, es) frame).2 e := by
  obtain ⟨A, c, L, cl, B, d, hve, hA, hLs, hB, hcc⟩ := id hv
  subst hve
  unfold spcV at hv ⊢
  simp only at hv ⊢ hA hLs hB hcc
  have kS := (Bk.new w #[.slice A rs.length c, .int .i64 r, .slice L ls.length cl, .slice B es.length d] 28).alloc (.cells #[.int .i64 frame] 3)
  have kFr := Bk.new (w.alloc (.cells #[.slice A rs.length c, .int .i64 r, .slice L ls.length cl, .slice B es.length d] 28)) #[.int .i64 frame] 3
  simp only [World.size_alloc] at kFr
  have hB1 := balloc (balloc (Below.refl _ w) (.cells #[.slice A rs.length c, .int .i64 r, .slice L ls.length cl, .slice B es.length d] 28)) (.cells #[.int .i64 frame] 3)
  generalize hw1 : (w.alloc (.cells #[.slice A rs.length c, .int .i64 r, .slice L ls.length cl, .slice B es.length d] 28)).alloc (.cells #[.int .i64 frame] 3) = w1 at *
  have HC := Lib.hid (spCheck_any rs r ls es _ _ (hv.to hB1) hn hs (hL.below hB1))
  obtain ⟨cS, fS, lS⟩ := kS.facts
  by_cases hE : spcE (rs, r, ls, es) = 0
  case neg =>
    have hR : ownR (rs, r, ls, es) frame = ([], spcE (rs, r, ls, es)) := by unfold ownR; rw [if_pos hE]
    rw [hR]
    have hd : (spcE (rs, r, ls, es) != 0) = true := by simpa using hE
    generalize spcE (rs, r, ls, es) = z at *
    clear hR hE
    go_enter Tryd.func25, Tryd.ntmps25
    go_wp2_with (go_at_call 15; refine HC.out.mono ?_; rintro e w2 ⟨rfl, hb2⟩)
    go_ret2
    exact ⟨_, rfl, IsV.nil _, bnext hB1 hb2⟩
  obtain ⟨hg, hT, _⟩ := spc_zero hE
  simp only at hg hT
  by_cases hfr : frame < 0 ∨ 255 < frame
  · have hR : ownR (rs, r, ls, es) frame = ([], 2) := by unfold ownR; rw [if_neg (by simpa using hE), if_pos hfr]
    rw [hR]
    rw [hE] at HC
    have HF := Lib.hid (fun W => spIsFrame_f frame W hfr)
    clear hR hE hfr
    go_enter Tryd.func25, Tryd.ntmps25
    go_wp2_with (first
      | (go_at_call 15; refine HC.out.mono ?_; rintro e w2 ⟨rfl, hb2⟩; obtain ⟨cF, fF, lF⟩ := (kFr.to hb2).facts)
      | (go_at_call 55; refine (HF.out _).mono ?_; rintro e w' ⟨rfl, rfl⟩))
    go_ret2
    exact ⟨_, rfl, IsV.nil _, bnext hB1 hb2⟩
  obtain ⟨h8, h64, _⟩ := tab_zero hT
  have hR : ownR (rs, r, ls, es) frame = (ownP es frame (pgs 0 64), 0) := by unfold ownR; rw [if_neg (by simpa using hE), if_neg hfr, ownP_all es frame 64 (by omega)]
  rw [hR]
  have HF := Lib.hid (fun W => spIsFrame_t frame W (by omega) (by omega))
  rw [hE] at HC
  clear hR hE hfr
  clear cS fS lS
  rw [h8] at kS hLs hcc HC hw1 ⊢
  rw [h64] at kS hB HC hw1 ⊢
  obtain ⟨cS, fS, lS⟩ := kS.facts
  have hF : ∀ f, Fence.wide.fn f := fun _ => trivial
  refine (callsIn_wide (n := 4)).1 ?_
  refine callsIn_of_wp_marks Tryd.func25 rfl trivial ?_ rfl
  simp only [Tryd.ntmps25, List.size_toArray, List.length_cons, List.length_nil, Nat.reduceAdd, Nat.reduceSub, Array.replicate_succ, Array.replicate_zero, List.push_toArray, List.append_toArray, List.nil_append, List.cons_append]
  gi_wp2_with fail
  refine (callsIn_wide.2 HC.out).mono ?_
  rintro e w2 ⟨rfl, hb2⟩
  replace kS := kS.to hb2
  replace kFr := kFr.to hb2
  replace hB1 := bnext hB1 hb2
  clear cS fS lS hb2 hw1
  obtain ⟨cS, fS, lS⟩ := (kS.alloc (.cells #[.slice none 0 0] 22)).facts
  obtain ⟨cF, fF, lF⟩ := kFr.facts
  gi_wp2_with (gi_at_call 55; refine (callsIn_wide.2 (HF.out _)).mono ?_; rintro e w' ⟨rfl, rfl⟩)
  refine (entries_in Fence.wide 3 trivial rfl r L B 8 cl 64 d _).mono ?_
  rintro e w'' ⟨rfl, rfl⟩
  -- RANGE Owner
  obtain ⟨i0, hi, hz0, hz1, hz2⟩ := info_parts infoInt
  have kP := Boxed.new w' 22 (.slice none 0 0)
  have hcP := balloc (Below.refl _ w') (.cells #[.slice none 0 0] 22)
  have hsP : (w'.alloc (.cells #[.slice none 0 0] 22)).heap.size = w'.heap.size + 1 := by simp
  have hsw2 : w.heap.size + 1 < w'.heap.size := kFr.lt
  generalize w'.alloc (.cells #[.slice none 0 0] 22) = w3 at *
  have hP3 : w'.heap.size < w3.heap.size := by omega
  clear hsP cF fF lF
  replace hB1 := bnext hB1 hcP
  replace kFr := kFr.to hcP
  have hlay : 0 < w.heap.size := hL.lt
  have hbA : ∀ b o p, B = some ⟨b, o, p⟩ → b < w.heap.size := by
    obtain ⟨b', off', rfl, hb', _⟩ := hB.2 (by omega)
    intro b o p e
    injection e with e
    injection e with e
    subst e
    exact hb'
  have hL3 := hL.below hB1
  have kBr := Bk.new w3 #[.int .i64 r, .slice L 8 cl, .slice B 64 d] 26
  have hB4 := balloc (Below.refl _ w3) (.cells #[.int .i64 r, .slice L 8 cl, .slice B 64 d] 26)
  have hs4 : (w3.alloc (.cells #[.int .i64 r, .slice L 8 cl, .slice B 64 d] 26)).heap.size = w3.heap.size + 1 := by simp
  generalize hw4 : w3.alloc (.cells #[.int .i64 r, .slice L 8 cl, .slice B 64 d] 26) = w4 at *
  have hL4 := hL3.below hB4
  have hs5 : w3.heap.size < w4.heap.size := by omega
  have hsw : w.heap.size < w3.heap.size := by have := hB1.size; omega
  have HIt : ItW w4 w3.heap.size B := ⟨by omega, by omega, fun b o p e => by have := hbA b o p e; omega⟩
  have hB14 := bnext hB1 hB4
  clear cS fS lS hw4 hs4
  replace kFr := kFr.to hB4
  have kP4 : Boxed w4 w'.heap.size 22 (.slice none 0 0) := (hB4.block w'.heap.size kP.lt).trans kP
  gi_wp2_with fail
  refine wpIn_rangeFunc_ownH rfl (by omega) (gf := 84) (lb := #[.pointer (some ⟨w3.heap.size, 0, none⟩)]) rfl trivial (enters_of Tryd.func84 (by kernel_rfl) rfl)
    (entries_stops w3.heap.size B d r ls es hT hs _ hL4 (hB.below hB14 (Nat.le_refl _)) (kBr.cell 2)) keepE_t (keepE_b HIt.l HIt.r HIt.b) (Below.refl _ _) (fun _ => rfl)
    (OwnI es frame w'.heap.size w4) (fun _ _ _ => False) ?hI ?hIx ?h0
    (fun x a' W => ∃ q, Bk W q (entA (entP es x.1.toNat)) 38 ∧ w4.heap.size ≤ q ∧ a' = { tmps := #[.agg #[.slice A rs.length c, .int .i64 r, .slice L 8 cl, .slice B 64 d], .int .i64 frame, .pointer (some ⟨w.heap.size, 0, none⟩), .pointer (some ⟨w.heap.size + 1, 0, none⟩), .slice none 0 0, .int .i64 0, .int .i64 0, .pointer (some ⟨w'.heap.size, 0, none⟩), .int .i64 x.1, .pointer (some ⟨q, 0, none⟩), .agg #[.slice A rs.length c, .int .i64 r, .slice L 8 cl, .slice B 64 d], .int .i64 0, .int .i64 0, .bool false, undef, .int .i64 frame, .bool true, .bool false, .pointer (some ⟨w.heap.size, 1, none⟩), .agg #[.int .i64 r, .slice L 8 cl, .slice B 64 d], .func (.func 84) #[] #[.pointer (some ⟨w3.heap.size, 0, none⟩)], .int .i64 x.1, entV (entP es x.1.toNat), undef, undef, undef, undef, undef, undef, undef, undef, undef, undef, undef, undef, undef, undef], defers := [] }) ?hAx ?assign ?body ?done ?stop
  case hI => exact OwnFrom.and (Own.from (holdsRow_own w4.heap.size w'.heap.size 22 3 1 (fun pre => (ownP es frame pre).length) (fun pre => iw (ownP es frame pre)) (fun _ _ => True)) _) (OwnFrom.and (ownFrom_below (by omega) (by omega)) (fun _ _ _ _ hs hg _ => Nat.le_trans hs hg.size))
  case hIx => exact fun _ _ _ _ _ hs _ _ => hs
  case h0 => exact ⟨⟨_, kP4, World.ownsRow_nil _ _ _ _, trivial⟩, Below.refl _ _, Nat.le_refl _⟩
  case hAx => exact fun x a' _ W W' row ⟨q, h1, h2⟩ hg hr => ⟨q, bk_own () W W' row h1 hg hr, h2⟩
  case assign =>
    rintro l pre x W K ⟨⟨v, hbx, hrow, _⟩, hbW, hsz⟩ hK
    unfold entV at hK ⊢
    gi_wp2
    exact hK _ _ (keepsFrom_below (balloc (Below.refl _ _) _)) ((HIt.le hsz).keep (balloc (Below.refl _ _) _)) ⟨⟨v, hbx.alloc _, hrow.alloc _, trivial⟩, hbW.alloc (by have := hbW.size; omega) _, by simp; omega⟩ ⟨_, Bk.new _ _ _, hsz, rfl⟩
  case body =>
    rintro l pre ⟨x, hx0, hx1⟩ a' W hl _ ⟨⟨v, hbx, hrow, _⟩, hbW, hsz⟩ ⟨q, kq, hq, rfl⟩ hlen
    obtain ⟨p, rfl⟩ : ∃ p : Nat, x = p := ⟨x.toNat, by omega⟩
    simp only [Int.toNat_natCast] at kq ⊢
    have HY := Lib.hid (fun h => ownP_yes (es := es) (frame := frame) (pre := pre) (x := ⟨(p : Int), hx0, hx1⟩) h)
    have HN := Lib.hid (fun h => ownP_no (es := es) (frame := frame) (pre := pre) (x := ⟨(p : Int), hx0, hx1⟩) h)
    simp only [Int.toNat_natCast] at HY HN
    have hm := ownP_len es frame pre
    rcases hee : entP es p with ⟨k1, n1, a1, b1, c1⟩
    have hob := ownB_of (frame := frame) hee
    rw [hob] at HY HN
    rw [hee] at kq
    clear hob hee
    unfold entV
    unfold entA at kq
    simp only at kq ⊢
    have hm64 : (ownP es frame pre).length < 64 := by omega
    clear hm
    have kFW : Bk W (w.heap.size + 1) #[.int .i64 frame] 3 := kFr.below hbW hsw2
    obtain ⟨cF, fF, lF⟩ := kFW.facts
    obtain ⟨cQ, fQ, lQ⟩ := kq.facts
    have hKE0 := (HIt.le hsz).keep (Below.refl W.heap.size W)
    have hno : ownP es frame (pre ++ [⟨(p : Int), hx0, hx1⟩]) = ownP es frame pre → KeepsFrom w4.heap.size W W ∧ KeepE w3.heap.size B W W ∧ OwnI es frame w'.heap.size w4 (pre ++ [⟨(p : Int), hx0, hx1⟩]) W := fun h => by unfold OwnI; rw [h]; exact ⟨KeepsFrom.refl _ _, hKE0, ⟨_, hbx, hrow, trivial⟩, hbW, hsz⟩
    have HNO := Lib.hid hno
    clear hno hKE0
    by_cases hk1 : k1 = 1
    case neg =>
      have hd : (k1 == 1) = false := by simpa using hk1
      rw [show decide (k1 = 1) = false from decide_eq_false hk1, Bool.false_and] at HN
      clear hk1 HY
      gi_wp2
      exact HNO.out (HN.out (by trivial))
    by_cases hn1 : n1 = frame
    case neg =>
      subst hk1
      have hd : (n1 == frame) = false := by simpa using hn1
      rw [show decide (n1 = frame) = false from decide_eq_false hn1, Bool.and_false] at HN
      clear hn1 HY
      gi_wp2
      exact HNO.out (HN.out (by trivial))
    subst hk1 hn1
    rw [show (decide ((1 : Int) = 1) && decide (n1 = n1)) = true by simp] at HY
    have HY2 := Lib.hid (HY.out rfl)
    clear HY HN HNO
    have hc0 := hbx.cell
    have hf0 := hbx.frozen
    gi_wp2_with (gi_at_builtin; refine wpListIn_append_own _ rfl _ _ 22 rfl w4.heap.size 3 i0 (.int .i64 0) 1 8 Tryd.underlying22 hi hz0 hz1 hz2 rfl (by decide) _ _ _ rfl (hrow.alloc _) ⟨W.heap.size, 0, none⟩ 1 1 [.int .i64 p] rfl rfl (cell_one_new _ _ _) (by simp [Value.oneCell']) (by simp only [maxLen]; omega) (by omega) (by simp; omega) ?_; intro v' w5 hown' hgrow _; obtain ⟨g', cap', rfl⟩ := ownsRow_succ hown'; obtain ⟨hv1, hv2, hr2, hk2, hb2, hkb⟩ := boxed_append (n₀ := w'.heap.size) hbx hrow (by omega) (by omega) hsz hown' hgrow; have hc1 := hv1.cell; have hf1 := hv1.frozen)
    refine ⟨hk2.from _, ⟨hkb _ (by omega) (by omega), hkb _ (by omega) (by omega), fun b o p e => hkb _ (by have := hbA b o p e; omega) (by have := hbA b o p e; omega)⟩, ⟨_, hv2, ?_, trivial⟩, hbW.trans hb2, Nat.le_trans hsz hb2.size⟩
    rw [HY2.out]
    have e1 : iw (ownP es n1 pre ++ [(p : Int)]) = iw (ownP es n1 pre) ++ [.int .i64 p] := by simp [iw]
    rw [e1, List.length_append]
    exact hr2
  case done =>
    rintro D ys W hD rfl ⟨⟨v, hbx, hrow, _⟩, hbW, hsz⟩ hK
    have hc0 := hbx.cell
    gi_wp2
    refine ⟨by simp, .inl ⟨_, _, rfl, run_takeDeferred hK, ?_⟩⟩
    exact ⟨_, results_tmp2 rfl _ _ _, v, rfl, IsV.own (ownsRow_putObj hrow _ hK rfl), (hB14.trans (hbW.mono (by omega))).trans (belowK_b (w := w) (Nat.le_refl _) _ D _ _ (by omega) hK rfl rfl)⟩
  case stop => exact fun D c pre W _ _ h _ => h.elim
  -- END Owner
end Go.Proofs.YtpkgfkhaiifooaaDoor
