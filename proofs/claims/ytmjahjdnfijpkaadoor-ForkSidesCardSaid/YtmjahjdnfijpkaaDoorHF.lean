/- Several texts in one. -/
import Derived.Test.YtmjahjdnfijpkaaDoorFkF
import Derived.Test.YtmjahjdnfijpkaaDoorHE
import Derived.Test.YtmjahjdnfijpkaaDoorFkE
/- fork.Same; counts as a row of ints; lists of address spaces in memory. -/
namespace Go.Proofs.YtmjahjdnfijpkaaDoor
open Go Go.Proofs Go.RowKit
set_option linter.unusedSimpArgs false
set_option linter.unusedVariables false
set_option maxRecDepth 100000

theorem difR_zero {a b : Sp} (h : (difR a b).2 = 0) : (difR a b).1.length ≤ 64 := by
  unfold difR at h ⊢
  split
  · simp
  · exact difL_len a b 64
theorem difR_bad {a b : Sp} (h : (difR a b).2 ≠ 0) : samR a b = (false, (difR a b).2) := by
  unfold samR
  rw [decide_eq_false (fun hh => h hh.1)]
theorem samR_ok {a b : Sp} (h : (difR a b).2 = 0) : samR a b = (decide ((difR a b).1 = []), 0) := by
  unfold samR
  rw [h]
  simp
set_option maxHeartbeats 2000000 in
theorem fSame_any (rs : List (Int × Int)) (r : Int) (ls : List Int) (es : List Nat) (v : Value) (rs2 : List (Int × Int)) (r2 : Int) (ls2 : List Int) (es2 : List Nat) (v2 : Value) (w : World) (hv : SpV w v (rs, r, ls, es)) (hv2 : SpV w v2 (rs2, r2, ls2, es2)) (hn : rs.length ≤ 1000000) (hn2 : rs2.length ≤ 1000000) (hs : wsmall es) (hs2 : wsmall es2) (hL : LayOK w) :
    Calls Tryd.prog 22 #[v, v2] w fun e w' => e = .returned (.tuple #[.bool (samR (rs, r, ls, es) (rs2, r2, ls2, es2)).1, .int .i64 (samR (rs, r, ls, es) (rs2, r2, ls2, es2)).2]) ∧ Below w.heap.size w w' := by
  obtain ⟨A, c, L, cl, B, d, hve, hA, hLs, hB, hcc⟩ := id hv
  subst hve
  obtain ⟨A2, c2, L2, cl2, B2, d2, hve2, hA2, hLs2, hB2, hcc2⟩ := id hv2
  subst hve2
  unfold spcV at hv hv2 ⊢
  simp only at hv hv2 ⊢ hA hLs hB hcc hA2 hLs2 hB2 hcc2
  have kS := (Bk.new w #[.slice A rs.length c, .int .i64 r, .slice L ls.length cl, .slice B es.length d] 28).alloc (.cells #[.slice A2 rs2.length c2, .int .i64 r2, .slice L2 ls2.length cl2, .slice B2 es2.length d2] 28)
  have kU := Bk.new (w.alloc (.cells #[.slice A rs.length c, .int .i64 r, .slice L ls.length cl, .slice B es.length d] 28)) #[.slice A2 rs2.length c2, .int .i64 r2, .slice L2 ls2.length cl2, .slice B2 es2.length d2] 28
  simp only [World.size_alloc] at kU
  have hB1 := balloc (balloc (Below.refl _ w) (.cells #[.slice A rs.length c, .int .i64 r, .slice L ls.length cl, .slice B es.length d] 28)) (.cells #[.slice A2 rs2.length c2, .int .i64 r2, .slice L2 ls2.length cl2, .slice B2 es2.length d2] 28)
  generalize hw1 : (w.alloc (.cells #[.slice A rs.length c, .int .i64 r, .slice L ls.length cl, .slice B es.length d] 28)).alloc (.cells #[.slice A2 rs2.length c2, .int .i64 r2, .slice L2 ls2.length cl2, .slice B2 es2.length d2] 28) = w1 at *
  have HD := Lib.hid (fDiffer_any rs r ls es _ rs2 r2 ls2 es2 _ _ (hv.to hB1) (hv2.to hB1) hn hn2 hs hs2 (hL.below hB1))
  obtain ⟨cS, fS, lS⟩ := kS.facts
  obtain ⟨cU, fU, lU⟩ := kU.facts
  have HY := Lib.hid (fun h => samR_ok (a := (rs, r, ls, es)) (b := (rs2, r2, ls2, es2)) h)
  have HN := Lib.hid (fun h => difR_bad (a := (rs, r, ls, es)) (b := (rs2, r2, ls2, es2)) h)
  generalize samR (rs, r, ls, es) (rs2, r2, ls2, es2) = sR at *
  generalize difR (rs, r, ls, es) (rs2, r2, ls2, es2) = dR at *
  obtain ⟨l, er⟩ := dR
  simp only at HD HY HN
  by_cases h0 : er = 0
  case neg =>
    have hd : (er != 0) = true := by simpa using h0
    have HS := Lib.hid (HN.out h0)
    clear HY HN
    go_enter Tryd.func22, Tryd.ntmps22
    go_wp2_with fail
    refine HD.out.mono ?_
    rintro e w2 ⟨vd, rfl, hvd, hb2⟩
    clear cS fS lS cU fU lU
    go_wp2_with fail
    go_ret2
    exact ⟨by rw [HS.out]; rfl, bnext hB1 hb2⟩
  subst h0
  have HS := Lib.hid (HY.out rfl)
  have hln : ((l.length : Int) == 0) = decide (l = []) := by
    rcases l with _ | ⟨x, l⟩
    · rfl
    · have h1 : ((((x :: l).length : Nat) : Int) == 0) = false := by
        rw [beq_eq_false_iff_ne, List.length_cons]
        omega
      rw [h1]
      rfl
  have HLn := Lib.hid hln
  clear HY HN hln
  go_enter Tryd.func22, Tryd.ntmps22
  go_wp2_with fail
  refine HD.out.mono ?_
  rintro e w2 ⟨vd, rfl, ⟨Ad, cd, rfl, hrd⟩, hb2⟩
  clear cS fS lS cU fU lU
  go_wp2_with fail
  go_ret2
  refine ⟨?_, bnext hB1 hb2⟩
  rw [HS.out]
  simp only [← HLn.out]
  rfl
/-- A row of address spaces. -/
def SpsV (w : World) (A : Option Addr) (l : List Sp) : Prop := ∃ xs : List Value, Rd w 4 A l.length xs ∧ ∀ k, k < l.length → ∃ A' c L cl B d, xs[k * 4]? = some (.slice A' (l.getD k sp0).1.length c) ∧ xs[k * 4 + 1]? = some (.int .i64 (l.getD k sp0).2.1) ∧ xs[k * 4 + 2]? = some (.slice L (l.getD k sp0).2.2.1.length cl) ∧ xs[k * 4 + 3]? = some (.slice B (l.getD k sp0).2.2.2.length d) ∧
  Rd w 2 A' (l.getD k sp0).1.length (flat2 .i64 (l.getD k sp0).1) ∧ Rd w 1 L (l.getD k sp0).2.2.1.length (iw (l.getD k sp0).2.2.1) ∧ Rd w 1 B (l.getD k sp0).2.2.2.length (uw (l.getD k sp0).2.2.2) ∧ (l.getD k sp0).2.2.1.length ≤ cl
theorem SpsV.to {w w' : World} {A : Option Addr} {l : List Sp} (h : SpsV w A l) (hb : Below w.heap.size w w') : SpsV w' A l := by
  obtain ⟨xs, h1, h2⟩ := h
  refine ⟨xs, h1.below hb (Nat.le_refl _), fun k hk => ?_⟩
  obtain ⟨A', c, L, cl, B, d, e0, e1, e2, e3, q1, q2, q3, q4⟩ := h2 k hk
  exact ⟨A', c, L, cl, B, d, e0, e1, e2, e3, q1.below hb (Nat.le_refl _), q2.below hb (Nat.le_refl _), q3.below hb (Nat.le_refl _), q4⟩
/-- One of them. -/
theorem SpsV.get {w : World} {A : Option Addr} {l : List Sp} (h : SpsV w A l) {k : Nat} (hk : k < l.length) : ∃ b off A' c L cl B d, A = some ⟨b, off, none⟩ ∧ w.cell? ⟨b, off + k * 4, none⟩ = some (.slice A' (l.getD k sp0).1.length c) ∧ w.cell? ⟨b, off + k * 4 + 1, none⟩ = some (.int .i64 (l.getD k sp0).2.1) ∧ w.cell? ⟨b, off + k * 4 + 2, none⟩ = some (.slice L (l.getD k sp0).2.2.1.length cl) ∧ w.cell? ⟨b, off + k * 4 + 3, none⟩ = some (.slice B (l.getD k sp0).2.2.2.length d) ∧
    SpV w (.agg #[.slice A' (l.getD k sp0).1.length c, .int .i64 (l.getD k sp0).2.1, .slice L (l.getD k sp0).2.2.1.length cl, .slice B (l.getD k sp0).2.2.2.length d]) (l.getD k sp0) := by
  obtain ⟨xs, h1, h2⟩ := h
  obtain ⟨b, off, e, _, hc⟩ := h1.2 (by omega)
  obtain ⟨A', c, L, cl, B, d, e0, e1, e2, e3, q1, q2, q3, q4⟩ := h2 k hk
  refine ⟨b, off, A', c, L, cl, B, d, e, hc _ _ e0, ?_, ?_, ?_, ⟨A', c, L, cl, B, d, rfl, q1, q2, q3, q4⟩⟩
  · rw [Nat.add_assoc]; exact hc _ _ e1
  · rw [Nat.add_assoc]; exact hc _ _ e2
  · rw [Nat.add_assoc]; exact hc _ _ e3
/-- A row of counts. -/
theorem ct_cell {w : World} {P : Nat} {cs : List Int} {t : TypeId} (h : Bk w P (iw cs).toArray t) {x : Nat} (hx : x < cs.length) : w.cell? ⟨P, x, none⟩ = some (.int .i64 (cs.getD x 0)) := by
  rw [h.cell, List.getElem?_toArray, iw, List.getElem?_map, List.getD_eq_getElem?_getD, List.getElem?_eq_getElem hx]
  rfl
theorem ct_put {w : World} {P : Nat} {cs : List Int} {t : TypeId} (h : Bk w P (iw cs).toArray t) (x : Nat) (z : Int) : Bk (w.setCell ⟨P, x, none⟩ (.int .i64 z)) P (iw (cs.set x z)).toArray t := by
  have := h.put x (.int .i64 z)
  rw [List.setIfInBounds_toArray] at this
  unfold iw at this ⊢
  rw [List.map_set]
  exact this
theorem ct_made : madeCells #[.int .i64 0] 256 = (iw zer).toArray := by kernel_rfl
theorem ct_is {w : World} {P n : Nat} {cs : List Int} {t : TypeId} (h : Bk w P (iw cs).toArray t) (hn : cs.length = n) : IsV w (.slice (some ⟨P, 0, none⟩) n n) cs := by
  refine ⟨some ⟨P, 0, none⟩, n, by rw [hn], by simp [iw], fun _ => ⟨P, 0, rfl, h.lt, fun j u hu => ?_⟩⟩
  rw [Nat.zero_add, h.cell, List.getElem?_toArray]
  exact hu
theorem bump_bd {c : List Int} {x N : Int} (h : ∀ f, 0 ≤ c.getD f 0 ∧ c.getD f 0 ≤ N) (f : Nat) : 0 ≤ (bump c x).getD f 0 ∧ (bump c x).getD f 0 ≤ N + 1 := by
  have h1 := h f
  have h2 := h x.toNat
  unfold bump
  rw [List.getD_eq_getElem?_getD, List.getElem?_set]
  split
  · split
    · simp only [Option.getD_some]
      omega
    · simp only [Option.getD_none]
      omega
  · rw [← List.getD_eq_getElem?_getD]
    omega
theorem bumps_bd (l : List Int) : ∀ (c : List Int) (N : Int), (∀ f, 0 ≤ c.getD f 0 ∧ c.getD f 0 ≤ N) → ∀ f, 0 ≤ (l.foldl bump c).getD f 0 ∧ (l.foldl bump c).getD f 0 ≤ N + l.length := by
  induction l with
  | nil => intro c N h f; simpa using h f
  | cons x l ih =>
    intro c N h f
    have := ih (bump c x) (N + 1) (fun f => bump_bd h f) f
    rw [List.foldl_cons, List.length_cons]
    push_cast
    omega
theorem couL_succ (l : List Sp) (k : Nat) (hk : k < l.length) : couL l (k + 1) = (numL (l.getD k sp0).2.2.2 1 64).foldl bump (couL l k) := by
  unfold couL
  rw [List.take_add_one, List.getElem?_eq_getElem hk, List.flatMap_append, List.foldl_append, List.getD_eq_getElem?_getD, List.getElem?_eq_getElem hk]
  simp
theorem couL_bd (l : List Sp) : ∀ k : Nat, k ≤ l.length → ∀ f, 0 ≤ (couL l k).getD f 0 ∧ (couL l k).getD f 0 ≤ 64 * (k : Int)
  | 0, _, f => by
    have : couL l 0 = zer := by simp [couL]
    rw [this, zer_at]
    simp
  | k + 1, hk, f => by
    rw [couL_succ l k (by omega)]
    have h1 := bumps_bd (numL (l.getD k sp0).2.2.2 1 64) (couL l k) (64 * (k : Int)) (couL_bd l k (by omega)) f
    have h2 := nums_len (l.getD k sp0).2.2.2 1 64
    omega
end Go.Proofs.YtmjahjdnfijpkaaDoor
/- fork.Counts: the map counts of all frames. -/
namespace Go.Proofs.YtmjahjdnfijpkaaDoor
open Go Go.Proofs Go.RowKit
set_option linter.unusedSimpArgs false
set_option linter.unusedVariables false
set_option maxRecDepth 100000

theorem couE_big {l : List Sp} (h : 8 < l.length) : couR l = ([], 15) := by
  have : couE l = 15 := by unfold couE; rw [if_pos h]
  unfold couR
  rw [this]
  rfl
theorem couE_few {l : List Sp} (h : l.length ≤ 8) : couE l = fst0 (fun i => spcE (l.getD i sp0)) l.length := by unfold couE; rw [if_neg (by omega)]
theorem couR_bad {l : List Sp} {k : Nat} (h : l.length ≤ 8) (hk : k < l.length) (h0 : fst0 (fun i => spcE (l.getD i sp0)) k = 0) (he : spcE (l.getD k sp0) ≠ 0) : couR l = ([], spcE (l.getD k sp0)) := by
  have : couE l = spcE (l.getD k sp0) := by
    rw [couE_few h]
    exact fst0_hit _ k _ h0 he hk
  unfold couR
  rw [this, if_pos he]
theorem couR_ok {l : List Sp} (h : l.length ≤ 8) (h0 : fst0 (fun i => spcE (l.getD i sp0)) l.length = 0) : couR l = (couL l l.length, 0) := by
  unfold couR
  rw [couE_few h, h0]
  rfl
theorem bump_nat (c : List Int) (n : Nat) : bump c (n : Int) = c.set n (c.getD n 0 + 1) := by unfold bump; rw [Int.toNat_natCast]
theorem make_ct : ∀ W : World, (Instr.makeSlice 23 (.int .i64 256) (.int .i64 256)).run Tryd.prog W = .ok (.slice (some ⟨W.heap.size, 0, none⟩) 256 256) (W.alloc (.cells (iw zer).toArray 3)) := fun W => by
  have h := run_make_row' (P := Tryd.prog) 23 3 (.int .i64 0) 8 Tryd.underlying23 infoInt rfl .i64 .i64 256 (by omega) (by omega) W
  rw [ct_made] at h
  exact h
/-- Counts and an error as results: counts lie in a row of their own. -/
def CoRes (w w' : World) (zs : List Int) (er : Int) (e : Ending) : Prop := ∃ v, e = .returned (.tuple #[v, .int .i64 er]) ∧ IsV w' v zs ∧ (er = 0 → ∃ P, v = .slice (some ⟨P, 0, none⟩) 256 256 ∧ w.heap.size ≤ P ∧ Bk w' P (iw zs).toArray 3) ∧ Below w.heap.size w w'
/-- Between two address spaces of Counts. -/
def CouI (l : List Sp) (P : Nat) (w2 : World) (i : Value) (wr : World) : Prop := ∃ k : Nat, k ≤ l.length ∧ i = .int .i64 k ∧ fst0 (fun i => spcE (l.getD i sp0)) k = 0 ∧ Bk wr P (iw (couL l k)).toArray 3 ∧ Below P w2 wr
/-- Between two entries. -/
def CouJ (cs : List Int) (es : List Nat) (P : Nat) (w2 : World) (i : Value) (wr : World) : Prop := ∃ p : Nat, p ≤ 64 ∧ i = .int .i64 p ∧ Bk wr P (iw ((numL es 1 p).foldl bump cs)).toArray 3 ∧ Below P w2 wr

set_option maxHeartbeats 8000000 in
theorem fCounts_any (l : List Sp) (A : Option Addr) (c : Nat) (w : World) (hl : SpsV w A l) (hn : ∀ k, k < l.length → (l.getD k sp0).1.length ≤ 1000000 ∧ wsmall (l.getD k sp0).2.2.2) (hL : LayOK w) :
    Calls Tryd.prog 30 #[.slice A l.length c] w fun e w' => CoRes w w' (couR l).1 (couR l).2 e := by
  by_cases h8 : l.length ≤ 8
  case neg =>
    rw [couE_big (by omega)]
    have hd : decide ((8 : Int) < l.length) = true := decide_eq_true (by omega)
    have hd2 : (8 : Int) < l.length := by omega
    go_enter Tryd.func30, Tryd.ntmps30
    go_wp2_with fail
    go_ret2
    exact ⟨_, rfl, IsV.nil _, fun h => absurd h (by decide), Below.refl _ _⟩
  have hd : ¬ (8 : Int) < l.length := by omega
  have HBad := Lib.hid (fun k hk h0 he => couR_bad (l := l) (k := k) h8 hk h0 he)
  have HOk := Lib.hid (fun h0 => couR_ok (l := l) h8 h0)
  have HSt := Lib.hid (fun k hk => couL_succ l k hk)
  have HBd := Lib.hid (fun k hk => couL_bd l k hk)
  generalize couR l = R at *
  have HN := Lib.hid hn
  have HL := Lib.hid hl
  have HLy := Lib.hid hL
  obtain ⟨N, hN⟩ : ∃ N, N = l.length := ⟨_, rfl⟩
  rw [← hN] at hd h8 ⊢
  have HNN := Lib.hid hN
  clear hN hn hl
  have hmk := make_ct
  go_enter Tryd.func30, Tryd.ntmps30
  go_upto_region 4 with fail
  clear hmk
  have kC := Bk.new w (iw zer).toArray 3
  have hB1 := balloc (Below.refl _ w) (.cells (iw zer).toArray 3)
  generalize w.alloc (.cells (iw zer).toArray 3) = w2 at *
  have HB12 := Lib.hid (show ∀ W, Below w.heap.size w2 W → Below w.heap.size w W from fun W h => hB1.trans h)
  have hcz : couL l 0 = zer := by simp [couL]
  rw [← hcz] at kC
  obtain ⟨P, hP⟩ : ∃ P, P = w.heap.size := ⟨_, rfl⟩
  rw [← hP] at kC HB12 ⊢
  have HP := Lib.hid hP
  clear hP hB1 hcz
  go_wp2_with fail
  go_loopw [16] (fun i wr => CouI l P w2 i wr) (fun i _ => N - (intOf i).toNat)
  case atStart => exact ⟨0, by omega, rfl, rfl, kC, Below.refl _ _⟩
  case round =>
    obtain ⟨k, hk, rfl, h0, kk, hBx⟩ := hrel
    by_cases hlt : k < N
    · have hltL : k < l.length := by have := HNN.out; omega
      have hBw := HB12.out _ hBx
      obtain ⟨b, off, A', c', L, cl, B, d, rfl, x0, x1, x2, x3, hv⟩ := (HL.out.to (by rw [← HP.out]; exact hBw)).get hltL
      obtain ⟨hn1, hs1⟩ := HN.out k hltL
      have HS := Lib.hid (HSt.out k hltL)
      have HB := Lib.hid (HBad.out k hltL h0)
      have H0 := Lib.hid (fun he => fst0_step (fun i => spcE (l.getD i sp0)) k h0 he)
      have hbd := HBd.out k (by omega)
      have hlen := cou_len l k
      generalize l.getD k sp0 = s at *
      generalize couL l k = cs at *
      obtain ⟨rs, r, ls, es⟩ := s
      simp only at x0 x1 x2 x3 hn1 hs1 HS HB H0 hv
      go_upto_region 7 with fail
      have kS := Bk.new wr #[.slice A' rs.length c', .int .i64 r, .slice L ls.length cl, .slice B es.length d] 28
      have hcS := balloc (Below.refl _ wr) (.cells #[.slice A' rs.length c', .int .i64 r, .slice L ls.length cl, .slice B es.length d] 28)
      generalize wr.alloc (.cells #[.slice A' rs.length c', .int .i64 r, .slice L ls.length cl, .slice B es.length d] 28) = wS at *
      have hPr : P < wr.heap.size := kk.lt
      replace kk := kk.to hcS
      replace hBx := hBx.trans (hcS.mono (by omega))
      replace hBw := hBw.trans (hcS.mono (by omega))
      replace hv := hv.to hcS
      have hPS : P < wS.heap.size := kk.lt
      have hLr := HLy.out.below (show Below w.heap.size w wS by rw [← HP.out]; exact hBw)
      have HC := Lib.hid (spCheck_any rs r ls es _ _ hv hn1 hs1 hLr)
      obtain ⟨qS, hqS⟩ : ∃ qS, qS = wr.heap.size := ⟨_, rfl⟩
      rw [← hqS] at kS hPr ⊢
      clear hcS x0 x1 x2 x3 hqS
      obtain ⟨cS, fS, lS⟩ := kS.facts
      by_cases hE : spcE (rs, r, ls, es) = 0
      case neg =>
        have HR := Lib.hid (HB.out hE)
        have hd3 : (spcE (rs, r, ls, es) != 0) = true := by simpa using hE
        generalize spcE (rs, r, ls, es) = z at *
        clear HB H0 HS
        go_wp2_with fail
        refine HC.out.mono ?_
        rintro e w5 ⟨rfl, hb5⟩
        clear cS fS lS
        go_wp2_with fail
        go_ret2
        rw [HR.out]
        exact ⟨_, rfl, IsV.nil _, fun h => absurd h hE, by rw [← HP.out]; exact hBw.trans (hb5.mono (by omega))⟩
      replace H0 := Lib.hid (H0.out hE)
      have hT := (spc_zero hE).2.1
      simp only at hT
      have HT := Lib.hid hT
      have HEn := Lib.hid (fun W h1 h2 => fEntries_any rs r ls es _ W (h1 : SpV W (.agg #[.slice A' rs.length c', .int .i64 r, .slice L ls.length cl, .slice B es.length d]) (rs, r, ls, es)) hs1 h2 hT)
      rw [hE] at HC
      clear HB hE hT
      go_wp2_with fail
      refine HC.out.mono ?_
      rintro e w5 ⟨rfl, hb5⟩
      clear cS fS lS
      replace kk := kk.to hb5
      have hP5 : P < w5.heap.size := kk.lt
      replace kS := kS.to hb5
      replace hBx := hBx.trans (hb5.mono (by omega))
      replace hBw := hBw.trans (hb5.mono (by omega))
      replace hv := hv.to hb5
      replace hLr := hLr.below hb5
      clear hb5
      obtain ⟨cS, fS, lS⟩ := kS.facts
      go_wp2_with fail
      refine (HEn.out _ hv hLr).mono ?_
      rintro e w6 ⟨rfl, hb6⟩
      clear cS fS lS
      replace kk := kk.to hb6
      replace hBx := hBx.trans (hb6.mono (by omega))
      replace hBw := hBw.trans (hb6.mono (by omega))
      clear hb6 hv hLr kS HC HEn
      have HIx : Hid (∀ (k : Nat) (a b : Int) (c d f : Bool), k < 64 → entP es k = (a, b, c, d, f) → ∀ W : World, (Instr.index 86 (.agg (enW (entL es)).toArray) (.int .i64 k)).run Tryd.prog W = .ok (.agg #[.int .i64 a, .int .i64 b, .bool c, .bool d, .bool f]) W) := Lib.hid (fun k a b c d f hk he => idx_hyp es hk he)
      generalize (enW (entL es)).toArray = X at *
      have hP6 : P < w6.heap.size := kk.lt
      go_wp2_with fail
      go_loopw [27] (fun i wx => CouJ cs es P w6 i wx) (fun i _ => 64 - (intOf i).toNat)
      case atStart => exact ⟨0, by omega, rfl, kk, Below.refl _ _⟩
      case round =>
        obtain ⟨p, hp, rfl, kp, hBy⟩ := hrel
        by_cases hlp : p < 64
        · have hpI : (p : Int) < 64 := by omega
          rcases hee : entP es p with ⟨a1, b1, c1, d1, f1⟩
          have hix := HIx.out p a1 b1 c1 d1 f1 hlp hee
          have hrg := entP_rng HT.out hlp
          have y1 := nums_yes (es := es) (kd := 1) (k := p)
          have n1 := nums_no (es := es) (kd := 1) (k := p)
          have l1 := nums_len es 1 p
          have hb2 := bumps_bd (numL es 1 p) cs (64 * (k : Int)) hbd
          have hln2 := bumps_len (numL es 1 p) cs
          rw [hee] at y1 n1 hrg
          simp only at y1 n1 hrg
          have kE := Bk.new wr #[.int .i64 a1, .int .i64 b1, .bool c1, .bool d1, .bool f1] 52
          have hPx : P < wr.heap.size := kp.lt
          have kp2 := kp.alloc (.cells #[.int .i64 a1, .int .i64 b1, .bool c1, .bool d1, .bool f1] 52)
          have hBy2 := hBy.alloc (by omega) (.cells #[.int .i64 a1, .int .i64 b1, .bool c1, .bool d1, .bool f1] 52)
          clear hee HIx kp hBy
          by_cases ha : a1 = 1
          · have H1 := Lib.hid (y1 ha)
            subst ha
            obtain ⟨bn, rfl⟩ : ∃ bn : Nat, b1 = bn := ⟨b1.toNat, by omega⟩
            have hbn : bn < 256 := by omega
            have hbnI : (bn : Int) < 256 := by omega
            have hz := hb2 bn
            have cU := ct_cell kp2 (x := bn) (by omega)
            have HPt := Lib.hid (fun z => ct_put kp2 bn z)
            have HBm := Lib.hid (bump_nat ((numL es 1 p).foldl bump cs) bn)
            generalize hgz : ((numL es 1 p).foldl bump cs).getD bn 0 = z at *
            clear hgz y1 n1 hrg hb2
            have hz1 : 0 ≤ z ∧ z ≤ 1000 := by omega
            obtain ⟨hz2, hz3⟩ := hz1
            go_upto_region 13 with fail
            generalize wr.alloc (.cells #[.int .i64 1, .int .i64 (bn : Int), .bool c1, .bool d1, .bool f1] 52) = w7 at *
            obtain ⟨cE, fE, lE⟩ := kE.facts
            have fU := kp2.frozen
            clear hix hz
            go_wp2_with fail
            go_roundw
            case rel => exact ⟨p + 1, by omega, by go_num, by rw [H1.out, List.foldl_append]; show Bk _ P (iw (bump _ _)).toArray _; rw [HBm.out]; exact HPt.out _, hBy2.setCell (p := ⟨P, bn, none⟩) (Nat.le_refl _) _⟩
            case measure => simp [intOf]; omega
          · have H1 := Lib.hid (n1 ha)
            have hd1 : (a1 == 1) = false := by simpa using ha
            clear y1 n1 ha hb2
            go_upto_region 13 with fail
            generalize wr.alloc (.cells #[.int .i64 a1, .int .i64 b1, .bool c1, .bool d1, .bool f1] 52) = w7 at *
            obtain ⟨cE, fE, lE⟩ := kE.facts
            clear hix
            go_wp2_with fail
            go_roundw
            case rel => exact ⟨p + 1, by omega, by go_num, by rw [H1.out]; exact kp2, hBy2⟩
            case measure => simp [intOf]; omega
        · obtain rfl : p = 64 := by omega
          clear HIx
          go_wp2_with fail
          go_roundw
          case rel => exact ⟨k + 1, by omega, by go_num, H0.out, by rw [HS.out]; exact kp, hBx.trans hBy⟩
          case measure => simp [intOf]; omega
    · have hkN : k = l.length := by have := HNN.out; omega
      subst hkN
      have HR := Lib.hid (HOk.out h0)
      have hlen := cou_len l l.length
      have hBw := HB12.out _ hBx
      clear h0
      go_wp2_with fail
      go_ret2
      rw [HR.out]
      exact ⟨_, rfl, ct_is kk hlen, fun _ => ⟨P, rfl, by rw [HP.out]; exact Nat.le_refl _, kk⟩, by rw [← HP.out]; exact hBw⟩
end Go.Proofs.YtmjahjdnfijpkaaDoor
