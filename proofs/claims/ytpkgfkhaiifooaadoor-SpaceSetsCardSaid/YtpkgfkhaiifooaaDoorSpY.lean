/- What the reference of chapter 27 returns: Moved. -/
import Derived.Test.YtpkgfkhaiifooaaDoorSpQ
import Derived.Test.YtpkgfkhaiifooaaDoorSpU
import Derived.Test.YtpkgfkhaiifooaaDoorSpM
import Derived.Test.YtpkgfkhaiifooaaDoorMadeP
import Derived.Test.YtpkgfkhaiifooaaDoorGZ
import Derived.Deep.RegionLaw
namespace Go.Proofs.YtpkgfkhaiifooaaDoor
open Go Go.Proofs Go.RowKit
set_option linter.unusedSimpArgs false
set_option linter.unusedVariables false
set_option maxRecDepth 100000

set_option maxHeartbeats 4000000 in
theorem rownerL_any (rs : List (Int × Int)) (r : Int) (ls : List Int) (es : List Nat) (v : Value) (frame : Int) (w : World) (hv : SpV w v (rs, r, ls, es)) (hs : wsmall es) (hT : tabE r ls es = 0) :
    Calls Tryd.prog 59 #[v, .int .i64 frame] w fun e w' => ∃ v, e = .returned v ∧ IsV w' v (ownL es frame 64) ∧ ILoc w.heap.size v ∧ Below w.heap.size w w' := by
  obtain ⟨A, c, L, cl, B, d, rfl, hA, hLs, hB, hcc⟩ := hv
  simp only at hA hLs hB hcc
  unfold spcV
  simp only
  have kS := Bk.new w #[.slice A rs.length c, .int .i64 r, .slice L ls.length cl, .slice B es.length d] 28
  have hB1 := balloc (Below.refl _ w) (.cells #[.slice A rs.length c, .int .i64 r, .slice L ls.length cl, .slice B es.length d] 28)
  generalize hw1 : w.alloc (.cells #[.slice A rs.length c, .int .i64 r, .slice L ls.length cl, .slice B es.length d] 28) = w1 at *
  have hT1 : TbV w1 (.agg #[.int .i64 r, .slice L ls.length cl, .slice B es.length d]) (r, ls, es) := tbv_of (hLs.below hB1 (Nat.le_refl _)) (hB.below hB1 (Nat.le_refl _)) hcc
  obtain ⟨i0, hi, hz0, hz1, hz2⟩ := info_parts infoInt
  go_enter Tryd.func59, Tryd.ntmps59
  go_wp2_with fail
  clear hw1
  go_loopw [5, 6] (fun v i wr => ∃ k : Nat, k ≤ 64 ∧ i = .int .i64 k ∧ wr.ownsRow w1.heap.size 3 1 v (ownL es frame k).length (iw (ownL es frame k)) ∧ Below w1.heap.size w1 wr) (fun _ i _ => 64 - (intOf i).toNat)
  case atStart => exact ⟨0, by omega, rfl, World.ownsRow_nil _ _ _ _, Below.refl _ _⟩
  case round =>
    obtain ⟨k, hk, rfl, hown, hBx⟩ := hrel
    obtain ⟨cS, fS, lS⟩ := (kS.to hBx).facts
    have hkl := ownL_len es frame k
    by_cases hlt : k < 64
    · have hkI : (k : Int) < 64 := by omega
      have HG := Lib.hid (fun W h => rGet_any r ls es (.agg #[.int .i64 r, .slice L ls.length cl, .slice B es.length d]) k W h hs)
      rw [get_in hT k hlt] at HG
      have her := unp_in hT k hlt
      rcases hu : unpR (es.getD k 0) with ⟨⟨ek, en, ea, eb, ec⟩, er⟩
      have hee : entP es k = (ek, en, ea, eb, ec) := by unfold entP; rw [hu]
      have HY := Lib.hid (fun h => ownL_yes (es := es) (frame := frame) (k := k) h)
      have HN := Lib.hid (fun h => ownL_no (es := es) (frame := frame) (k := k) h)
      rw [ownB_of (frame := frame) hee] at HY HN
      rw [hu] at HG her
      simp only at her HG
      subst her
      clear hu hee
      have hTr := hT1.to hBx
      by_cases hk1 : ek = 1
      case neg =>
        have d1 : (ek == 1) = false := by simpa using hk1
        rw [show decide (ek = 1) = false from decide_eq_false hk1, Bool.false_and] at HN
        have HS2 := Lib.hid (HN.out (by trivial))
        clear hk1 HY HN
        go_wp2_with (go_at_call 62; refine (HG.out _ hTr).mono ?_; rintro e w3 ⟨rfl, hb3⟩)
        go_roundw
        case rel => exact ⟨k + 1, by omega, by go_num, by rw [HS2.out]; exact (own_below hown hb3).alloc _, balloc (bnext hBx hb3) _⟩
        case measure => simp [intOf]; omega
      by_cases hn1 : en = frame
      case neg =>
        subst hk1
        have d1 : (en == frame) = false := by simpa using hn1
        rw [show decide (en = frame) = false from decide_eq_false hn1, Bool.and_false] at HN
        have HS2 := Lib.hid (HN.out (by trivial))
        clear hn1 HY HN
        go_wp2_with (go_at_call 62; refine (HG.out _ hTr).mono ?_; rintro e w3 ⟨rfl, hb3⟩)
        go_roundw
        case rel => exact ⟨k + 1, by omega, by go_num, by rw [HS2.out]; exact (own_below hown hb3).alloc _, balloc (bnext hBx hb3) _⟩
        case measure => simp [intOf]; omega
      subst hk1 hn1
      rw [show (decide ((1 : Int) = 1) && decide (en = en)) = true by simp] at HY
      have HS2 := Lib.hid (HY.out rfl)
      clear HY HN
      go_wp2_with (first
        | (go_at_call 62; refine (HG.out _ hTr).mono ?_; rintro e w3 ⟨rfl, hb3⟩; obtain ⟨w8, hw8⟩ : ∃ w8, w8 = w3.alloc (.cells #[.int .i64 1, .int .i64 en, .bool ea, .bool eb, .bool ec] 38) := ⟨_, rfl⟩; have hown8 : w8.ownsRow _ _ _ _ _ _ := (by rw [hw8]; exact (own_below hown hb3).alloc _); have hBx8 : Below w1.heap.size w1 w8 := (by rw [hw8]; exact balloc (bnext hBx hb3) _); have k8 := Bk.new w3 #[.int .i64 1, .int .i64 en, .bool ea, .bool eb, .bool ec] 38; rw [← hw8] at k8; obtain ⟨c8, f8, l8⟩ := k8.facts; replace hw8 := hw8.symm)
        | (at_builtin; refine wpList_append_own _ rfl _ _ 22 rfl w1.heap.size 3 i0 (.int .i64 0) 1 8 Tryd.underlying22 hi hz0 hz1 hz2 rfl (by decide) _ _ _ rfl (hown8.alloc _) ⟨w8.heap.size, 0, none⟩ 1 1 [.int .i64 k] rfl rfl (cell_one_new _ _ _) (by simp [Value.oneCell']) (by simp only [maxLen]; omega) (by omega) (by have := hBx8.size; simp; omega) ?_; intro v' w9 hown' hgrow _))
      have hown2 : w9.ownsRow w1.heap.size 3 1 v' (ownL es en (k + 1)).length (iw (ownL es en (k + 1))) := by
        rw [HS2.out]; simpa [iw] using hown'
      have hBx2 : Below w1.heap.size w1 w9 := (hBx8.alloc hBx8.size _).grown hgrow (by have := hBx8.size; simp; omega) (fun q e => (hown8.lt q e).1)
      clear hown' hgrow hown8 hown hBx8 hBx
      go_wp2_with fail
      go_roundw
      case rel => first | exact ⟨k + 1, by omega, by go_num, hown2, hBx2⟩ | ((repeat apply Exists.intro); exact ⟨⟨k + 1, by omega, by go_num, hown2, hBx2⟩, rfl⟩)
      case measure => simp [intOf]; omega
    · obtain rfl : k = 64 := by omega
      go_wp2_with fail
      go_ret
      exact ⟨_, rfl, IsV.own hown, (fun A n c hv b off h0 he => by subst hv; exact Nat.le_trans hB1.size (own_loc hown b off h0 he)), bnext hB1 hBx⟩


def movK (es : List Nat) (x : Nat) (zs : List Int) : List Nat := zs.foldl (fun l z => l.set z.toNat x) es
theorem movK_len (es : List Nat) (x : Nat) (zs : List Int) : (movK es x zs).length = es.length := by
  unfold movK
  suffices h : ∀ (zs : List Int) (l : List Nat), (zs.foldl (fun l z => l.set z.toNat x) l).length = l.length from h zs es
  intro zs
  induction zs with
  | nil => intro l; rfl
  | cons z zs ih => intro l; rw [List.foldl_cons, ih, List.length_set]
theorem movK_snoc (es : List Nat) (x : Nat) (zs : List Int) (z : Int) : movK es x (zs ++ [z]) = (movK es x zs).set z.toNat x := by simp [movK]
theorem movK_own (es : List Nat) (f : Int) (x : Nat) : ∀ n, movK es x (ownL es f n) = movL es f x n
  | 0 => rfl
  | n + 1 => by
    unfold movL
    cases h : ownB es f n
    · rw [ownL_no h, movK_own es f x n]; rfl
    · rw [ownL_yes h, movK_snoc, movK_own es f x n, Int.toNat_natCast]; rfl
theorem ownL_at {es : List Nat} {f : Int} {k : Nat} {z : Int} (h : (ownL es f 64)[k]? = some z) : ∃ p : Nat, z = p ∧ p < 64 ∧ ownB es f p = true := by
  have hm := List.mem_of_getElem? h
  unfold ownL at hm
  obtain ⟨j, hj, rfl⟩ := List.mem_map.1 hm
  obtain ⟨h1, h2⟩ := List.mem_filter.1 hj
  exact ⟨j, rfl, List.mem_range.1 h1, h2⟩
/-- All blocks but one lie as they lay. -/
structure MqR (w w5 : World) (P : Nat) (wr : World) : Prop where
  same : ∀ b, b < w5.heap.size → b ≠ P → wr.heap[b]? = w5.heap[b]?
  size : w5.heap.size ≤ wr.heap.size
  below : Below w.heap.size w wr
theorem MqR.rd {w w5 wr : World} {P sz n : Nat} {A : Option Addr} {xs : List Value} (h : MqR w w5 P wr) (hr : Rd w5 sz A n xs) (hne : ∀ b off, 0 < n → A = some ⟨b, off, none⟩ → b ≠ P) : Rd wr sz A n xs := by
  refine ⟨hr.1, fun h0 => ?_⟩
  obtain ⟨b, off, rfl, hb, hc⟩ := hr.2 h0
  have hs := h.same b hb (hne b off h0 rfl)
  exact ⟨b, off, rfl, by have := h.size; omega, fun j u hu => (World.cell?_of_block (a := ⟨b, off + j, none⟩) hs).trans (hc j u hu)⟩
theorem tbv_put123 {w : World} {v : Value} {t : Tb} {lo g : Nat} (h : TbV w v t) (hl : TLoc lo v) (hg : g < lo) (x y z : Value) : TbV (((w.setCell ⟨g, 1, none⟩ x).setCell ⟨g, 2, none⟩ y).setCell ⟨g, 3, none⟩ z) v t := by
  obtain ⟨A, c, B, d, rfl, h1, h2, h3⟩ := h
  obtain ⟨l1, l2⟩ := hl _ _ _ _ _ _ _ rfl
  have k1 : ∀ b off, 0 < t.2.1.length → A = some ⟨b, off, none⟩ → b ≠ g := fun b off hn e => by have := l1 b off hn e; omega
  have k2 : ∀ b off, 0 < t.2.2.length → B = some ⟨b, off, none⟩ → b ≠ g := fun b off hn e => by have := l2 b off hn e; omega
  exact ⟨A, c, B, d, rfl, ((h1.far (p := ⟨g, 1, none⟩) k1 x).far (p := ⟨g, 2, none⟩) k1 y).far (p := ⟨g, 3, none⟩) k1 z, ((h2.far (p := ⟨g, 1, none⟩) k2 x).far (p := ⟨g, 2, none⟩) k2 y).far (p := ⟨g, 3, none⟩) k2 z, h3⟩
theorem rd_lt6 {w : World} {sz n : Nat} {A : Option Addr} {xs : List Value} (h : Rd w sz A n xs) : ∀ b off, 0 < n → A = some ⟨b, off, none⟩ → b < w.heap.size := fun b off h0 he => by
  obtain ⟨b', off', e', hb', _⟩ := h.2 h0
  rw [he] at e'
  injection e' with e'
  injection e' with e'
  omega
/-- From page to page. -/
def MqI (w w5 : World) (P lo : Nat) (rs : List (Int × Int)) (A6 : Option Addr) (c6 : Nat) (r : Int) (ls : List Int) (es : List Nat) (wr : World) : Prop :=
  ∃ L6 cl6 B6 d6, Bk wr P #[.slice A6 rs.length c6, .int .i64 r, .slice L6 ls.length cl6, .slice B6 es.length d6] 28 ∧ TbV wr (.agg #[.int .i64 r, .slice L6 ls.length cl6, .slice B6 es.length d6]) (r, ls, es) ∧ TLoc lo (.agg #[.int .i64 r, .slice L6 ls.length cl6, .slice B6 es.length d6]) ∧ MqR w w5 P wr

set_option maxHeartbeats 8000000 in
theorem rMoved_any (rs : List (Int × Int)) (r : Int) (ls : List Int) (es : List Nat) (v : Value) (frame slot : Int) (w : World) (hv : SpV w v (rs, r, ls, es)) (hn : rs.length ≤ 1000000) (hs : wsmall es) :
    Calls Tryd.prog 21 #[v, .int .i64 frame, .int .i64 slot] w fun e w' => SpRes3 w w' (movR (rs, r, ls, es) frame slot).1 (movR (rs, r, ls, es) frame slot).2.1 (movR (rs, r, ls, es) frame slot).2.2 e := by
  obtain ⟨A, c, L, cl, B, d, hve, hA, hLs, hB, hcc⟩ := id hv
  subst hve
  unfold spcV at hv ⊢
  simp only at hv ⊢ hA hLs hB hcc
  have kS := (Bk.new w #[.slice A rs.length c, .int .i64 r, .slice L ls.length cl, .slice B es.length d] 28).alloc (.cells #[.slice none 0 0, .int .i64 0, .slice none 0 0, .slice none 0 0] 28)
  have kR := Bk.new (w.alloc (.cells #[.slice A rs.length c, .int .i64 r, .slice L ls.length cl, .slice B es.length d] 28)) #[.slice none 0 0, .int .i64 0, .slice none 0 0, .slice none 0 0] 28
  simp only [World.size_alloc] at kR
  have hB1 := balloc (balloc (Below.refl _ w) (.cells #[.slice A rs.length c, .int .i64 r, .slice L ls.length cl, .slice B es.length d] 28)) (.cells #[.slice none 0 0, .int .i64 0, .slice none 0 0, .slice none 0 0] 28)
  generalize hw1 : (w.alloc (.cells #[.slice A rs.length c, .int .i64 r, .slice L ls.length cl, .slice B es.length d] 28)).alloc (.cells #[.slice none 0 0, .int .i64 0, .slice none 0 0, .slice none 0 0] 28) = w1 at *
  have HC := Lib.hid (rSpCheck_any rs r ls es _ _ (hv.to hB1) hn hs)
  obtain ⟨cS, fS, lS⟩ := kS.facts
  by_cases hE : spcE (rs, r, ls, es) = 0
  case neg =>
    have hR : movR (rs, r, ls, es) frame slot = (sp0, 0, spcE (rs, r, ls, es)) := by unfold movR; rw [if_pos hE]
    rw [hR]
    have hd : (spcE (rs, r, ls, es) != 0) = true := by simpa using hE
    generalize spcE (rs, r, ls, es) = z at *
    clear hR hE
    go_enter Tryd.func21, Tryd.ntmps21
    go_wp2_with (go_at_call 24; refine HC.out.mono ?_; rintro e w2 ⟨rfl, hb2⟩; clear cS fS lS; obtain ⟨cR, fR, lR⟩ := (kR.to hb2).facts)
    have kF := (kR.to hb2).put4 (.slice none 0 0) (.int .i64 0) (.slice none 0 0) (.slice none 0 0)
    have hBF := below_put4 (bnext hB1 hb2) (g := w.heap.size + 1) (by omega) (.slice none 0 0) (.int .i64 0) (.slice none 0 0) (.slice none 0 0)
    exact bodyPost_ret (kF.res3 (P := Tryd.prog) rfl _ rfl (by kernel_rfl) (by kernel_rfl)) rfl ⟨_, rfl, SpV.zero _, SLoc.zero _, hBF⟩
  obtain ⟨hg, hT, _⟩ := spc_zero hE
  simp only at hg hT
  rw [hE] at HC
  by_cases hbad : frame < 0 ∨ 255 < frame ∨ slot < 0 ∨ 255 < slot
  · have hR : movR (rs, r, ls, es) frame slot = (sp0, 0, 2) := by unfold movR; rw [if_neg (by simpa using hE), if_pos hbad]
    rw [hR]
    have hcs : frame < 0 ∨ (¬ frame < 0 ∧ 256 ≤ frame) ∨ (¬ frame < 0 ∧ ¬ 256 ≤ frame ∧ slot < 0) ∨ (¬ frame < 0 ∧ ¬ 256 ≤ frame ∧ ¬ slot < 0 ∧ 256 ≤ slot) := by omega
    clear hR hE hbad hT hg
    rcases hcs with h1 | ⟨h1, h2⟩ | ⟨h1, h2, h3⟩ | ⟨h1, h2, h3, h4⟩
    all_goals
      go_enter Tryd.func21, Tryd.ntmps21
      go_wp2_with (go_at_call 24; refine HC.out.mono ?_; rintro e w2 ⟨rfl, hb2⟩; clear cS fS lS; obtain ⟨cR, fR, lR⟩ := (kR.to hb2).facts)
      have kF := (kR.to hb2).put4 (.slice none 0 0) (.int .i64 0) (.slice none 0 0) (.slice none 0 0)
      have hBF := below_put4 (bnext hB1 hb2) (g := w.heap.size + 1) (by omega) (.slice none 0 0) (.int .i64 0) (.slice none 0 0) (.slice none 0 0)
      exact bodyPost_ret (kF.res3 (P := Tryd.prog) rfl _ rfl (by kernel_rfl) (by kernel_rfl)) rfl ⟨_, rfl, SpV.zero _, SLoc.zero _, hBF⟩
  obtain ⟨xw, hpk, hx⟩ := pack_slot slot (by omega) (by omega)
  have hR : movR (rs, r, ls, es) frame slot = ((rs, r, ls, movL es frame xw 64), ((ownL es frame 64).length : Int), 0) := by
    unfold movR
    rw [if_neg (by simpa using hE), if_neg hbad, hpk]
    rfl
  rw [hR, ← movK_own]
  have g1 : ¬ frame < 0 := by omega
  have g2 : ¬ 256 ≤ frame := by omega
  have g3 : ¬ slot < 0 := by omega
  have g4 : ¬ 256 ≤ slot := by omega
  have HOw := Lib.hid (fun v W h => rSpOwn_any rs r ls es v W h hn (by have := (tab_zero hT).1; omega) (by have := (tab_zero hT).2.1; omega))
  have HOn := Lib.hid (fun v W h => rownerL_any rs r ls es v frame W h hs hT)
  have HTab := Lib.hid hT
  have HPk := Lib.hid hpk
  have HAt := Lib.hid (fun k z (h : (ownL es frame 64)[k]? = some z) => ownL_at h)
  have hzl := ownL_len es frame 64
  generalize hzz : ownL es frame 64 = zs at *
  have HZ := Lib.hid hzz
  clear hR hE hbad hT hg hpk hzz
  go_enter Tryd.func21, Tryd.ntmps21
  go_wp2_with fail
  refine HC.out.mono ?_
  rintro e w2 ⟨rfl, hb2⟩
  replace kS := kS.to hb2
  replace kR := kR.to hb2
  replace hB1 := bnext hB1 hb2
  clear cS fS lS hb2 hw1
  obtain ⟨cS, fS, lS⟩ := kS.facts
  go_wp2_with fail
  refine (HOw.out _ _ (hv.to hB1)).mono ?_
  rintro e w3 ⟨v3, rfl, hv3, hl3, hb3⟩
  obtain ⟨A6, c6, L6, cl6, B6, d6, rfl, hA6, hL6, hB6, hc6⟩ := id hv3
  obtain ⟨m1, m2, m3⟩ := hl3 _ _ _ _ _ _ _ _ _ _ rfl
  simp only [spcV] at hv3 hl3 hA6 hL6 hB6 hc6 m1 m2 m3 ⊢
  have hsw : w.heap.size + 1 < w2.heap.size := kR.lt
  replace kS := kS.to hb3
  replace kR := kR.to hb3
  replace hB1 := bnext hB1 hb3
  clear cS fS lS
  go_upto_region 7 with fail
  have kP := Bk.new w3 #[.slice A6 rs.length c6, .int .i64 r, .slice L6 ls.length cl6, .slice B6 es.length d6] 28
  have hcN := balloc (Below.refl _ w3) (.cells #[.slice A6 rs.length c6, .int .i64 r, .slice L6 ls.length cl6, .slice B6 es.length d6] 28)
  generalize w3.alloc (.cells #[.slice A6 rs.length c6, .int .i64 r, .slice L6 ls.length cl6, .slice B6 es.length d6] 28) = w4 at *
  have hs23 : w2.heap.size ≤ w3.heap.size := hb3.size
  have hs34 : w3.heap.size < w4.heap.size := kP.lt
  have hA6l := rd_lt6 hA6
  have hA4 := hA6.to hcN
  have hT4 : TbV w4 (.agg #[.int .i64 r, .slice L6 ls.length cl6, .slice B6 es.length d6]) (r, ls, es) := tbv_of (hL6.to hcN) (hB6.to hcN) hc6
  have hTl : TLoc w2.heap.size (.agg #[.int .i64 r, .slice L6 ls.length cl6, .slice B6 es.length d6]) := by
    intro r' A' n' c' B' m' d' h
    simp only [tabV, Value.agg.injEq, Array.mk.injEq, List.cons.injEq, Value.slice.injEq] at h
    obtain ⟨_, ⟨rfl, rfl, rfl⟩, ⟨rfl, rfl, rfl⟩, _⟩ := h
    exact ⟨m2, m3⟩
  replace kS := kS.to hcN
  replace kR := kR.to hcN
  replace hB1 := bnext hB1 hcN
  clear hcN hb3 hv3 hl3
  obtain ⟨cS, fS, lS⟩ := kS.facts
  go_wp2_with fail
  refine (HOn.out _ _ (hv.to hB1)).mono ?_
  rintro e w5 ⟨v5, rfl, hi5, hil, hb5⟩
  obtain ⟨A5, c5, rfl, hr5⟩ := hi5
  have hil2 := hil _ _ _ rfl
  have hs45 : w4.heap.size ≤ w5.heap.size := hb5.size
  replace kP := kP.to hb5
  replace kR := kR.to hb5
  replace hA4 := hA4.to hb5
  replace hT4 := hT4.to hb5
  replace hB1 := bnext hB1 hb5
  clear cS fS lS hb5 kS hil
  go_wp2_with fail
  go_loopw [12] (fun i wr => ∃ k : Nat, k ≤ zs.length ∧ i = .int .i64 k ∧ Hid (tabE r ls (movK es xw (zs.take k)) = 0 ∧ wsmall (movK es xw (zs.take k))) ∧ MqI w w5 w3.heap.size w2.heap.size rs A6 c6 r ls (movK es xw (zs.take k)) wr) (fun i _ => zs.length - (intOf i).toNat)
  case atStart => exact ⟨0, by omega, rfl, Lib.hid ⟨HTab.out, hs⟩, ⟨L6, cl6, B6, d6, kP, hT4, hTl, ⟨fun _ _ _ => rfl, Nat.le_refl _, hB1⟩⟩⟩
  case round =>
    clear kP hT4 hTl hL6 hB6 hc6 m2 m3
    obtain ⟨k, hk, rfl, HV, ⟨L7, cl7, B7, d7, kX, hvX, hlX, hM⟩⟩ := hrel
    have hsz := hM.size
    have hr5r := hM.rd hr5 (fun b off h0 he => by have := hil2 b off h0 he; omega)
    by_cases hlt : k < zs.length
    · obtain ⟨g, off, z, rfl, hgl, hz, hc⟩ := hr5r.numb hlt
      have hzk : zs[k]? = some z := by rw [List.getD_eq_getElem?_getD, List.getElem?_eq_getElem hlt] at hz; rw [List.getElem?_eq_getElem hlt]; simpa using hz
      obtain ⟨p, rfl, hp, hbp⟩ := HAt.out k z hzk
      have htk : zs.take (k + 1) = zs.take k ++ [(p : Int)] := by rw [List.take_add_one, hzk]; rfl
      have hmk : movK es xw (zs.take (k + 1)) = (movK es xw (zs.take k)).set p xw := by rw [htk, movK_snoc, Int.toNat_natCast]
      have hkind : (entP es p).1 = 1 := by unfold ownB at hbp; simp only [Bool.and_eq_true, decide_eq_true_eq] at hbp; exact hbp.1
      have hl : ls.getD (p / 8) 0 ≠ -1 := by
        obtain ⟨_, _, _, _, _, _, hU, hMm⟩ := tab_zero HTab.out
        have hk2 : unpK (es.getD p 0) = 1 := hkind
        rw [unpK_eq _ (hU p hp)] at hk2
        exact fun hcc => hMm p hp ⟨by omega, hcc⟩
      obtain ⟨x', q1, q2, q3, q4⟩ := put_at HV.out.1 p hp 2 slot false false false (by
        have h2 := congrArg Prod.snd HPk.out
        apply Classical.byContradiction
        intro hcc
        unfold packR at h2
        rw [if_pos hcc] at h2
        exact hcc h2) hl
      have hxx : x' = xw := by
        have := HPk.out
        rw [q2] at this
        injection this with this _
        omega
      subst hxx
      have HV2 := Lib.hid (show tabE r ls (movK es x' (zs.take (k + 1))) = 0 ∧ wsmall (movK es x' (zs.take (k + 1))) from by rw [hmk]; exact ⟨q3, wsmall_set HV.out.2 p (by omega)⟩)
      have HMk := Lib.hid hmk
      have HPt := Lib.hid (fun W h => rPut_any r ls (movK es x' (zs.take k)) (.agg #[.int .i64 r, .slice L7 ls.length cl7, .slice B7 (movK es x' (zs.take k)).length d7]) p 2 slot false false false W h HV.out.2)
      rw [q1, ← hmk] at HPt
      have d1 : ((k : Int) < (zs.length : Int)) = True := by simp; omega
      clear hmk htk hzk hz q1 q2 q3 q4 hkind hbp hl HV HPk
      have kRr : Bk wr (w.heap.size + 1) #[.slice none 0 0, .int .i64 0, .slice none 0 0, .slice none 0 0] 28 := (hM.same _ (by have := kR.lt; omega) (by omega)).trans kR
      have hpx := kX.lt
      obtain ⟨cX, fX, lX⟩ := kX.facts
      go_upto_region 11 with fail
      go_region_law
        (first
          | (go_simp; go_at_call 53; refine (HPt.out _ (by repeat (with_reducible first | exact hvX | refine TbV.drew ?_ | refine TbV.alloc ?_ _))).mono ?_; rintro e wQ ⟨vQ, rfl, hvQ, hlQ, hbQ⟩; obtain ⟨AQ, cQ, BQ, dQ, rfl, _, _, _⟩ := id hvQ; simp only [tabV] at hvQ hlQ ⊢; have kXQ := kX.drew.to hbQ; obtain ⟨cXQ, fXQ, lXQ⟩ := kXQ.facts))
      all_goals
        have kF := ((kXQ.put 1 (.int .i64 r)).put 2 (.slice AQ ls.length cQ)).put 3 (.slice BQ (movK es x' (zs.take (k + 1))).length dQ)
        have hvF := tbv_put123 hvQ hlQ (g := w3.heap.size) hpx (.int .i64 r) (.slice AQ ls.length cQ) (.slice BQ (movK es x' (zs.take (k + 1))).length dQ)
        have hMF : MqR w w5 w3.heap.size (((wQ.setCell ⟨w3.heap.size, 1, none⟩ (.int .i64 r)).setCell ⟨w3.heap.size, 2, none⟩ (.slice AQ ls.length cQ)).setCell ⟨w3.heap.size, 3, none⟩ (.slice BQ (movK es x' (zs.take (k + 1))).length dQ)) := by
          refine ⟨fun b hb hne => ?_, ?_, ?_⟩
          · rw [Below.heap_setCell _ ⟨w3.heap.size, 3, none⟩ _ b hne, Below.heap_setCell _ ⟨w3.heap.size, 2, none⟩ _ b hne, Below.heap_setCell _ ⟨w3.heap.size, 1, none⟩ _ b hne]
            exact (hbQ.block b (by show b < wr.heap.size; omega)).trans (hM.same b hb hne)
          · have h7 : wr.heap.size ≤ wQ.heap.size := hbQ.size
            simp
            omega
          · exact (((bnext (below_drew hM.below) hbQ).setCell (p := ⟨w3.heap.size, 1, none⟩) (by show w.heap.size ≤ w3.heap.size; omega) _).setCell (p := ⟨w3.heap.size, 2, none⟩) (by show w.heap.size ≤ w3.heap.size; omega) _).setCell (p := ⟨w3.heap.size, 3, none⟩) (by show w.heap.size ≤ w3.heap.size; omega) _
        have hfin := (show MqI w w5 w3.heap.size w2.heap.size rs A6 c6 r ls (movK es x' (zs.take (k + 1))) _ from ⟨AQ, cQ, BQ, dQ, kF, hvF, hlQ.mono (by show w2.heap.size ≤ wr.heap.size; omega), hMF⟩)
        go_wp2_with fail
        go_roundw
        case rel => exact ⟨k + 1, by omega, by go_num, HV2, hfin⟩
        case measure => simp [intOf]; omega
    · obtain rfl : k = zs.length := by omega
      rw [List.take_length] at kX hvX hlX
      have kRr : Bk wr (w.heap.size + 1) #[.slice none 0 0, .int .i64 0, .slice none 0 0, .slice none 0 0] 28 := (hM.same _ (by have := kR.lt; omega) (by omega)).trans kR
      have hAr := hM.rd hA4 (fun b off h0 he => by have := hA6l b off h0 he; omega)
      have hsp := spv_mk (c := c6) hAr hvX
      obtain ⟨l4, l5⟩ := hlX _ _ _ _ _ _ _ rfl
      have hsl : SLoc w2.heap.size (.agg #[.slice A6 rs.length c6, .int .i64 r, .slice L7 ls.length cl7, .slice B7 (movK es xw zs).length d7]) := SLoc.mk m1 l4 l5
      obtain ⟨es2, he2⟩ : ∃ es2, es2 = movK es xw zs := ⟨_, rfl⟩
      rw [← he2] at kX hvX hlX hsp hsl
      have HE2 := Lib.hid he2
      clear he2 HV
      obtain ⟨cX, fX, lX⟩ := kX.facts
      obtain ⟨cR, fR, lR⟩ := kRr.facts
      have kF := kRr.put4 (.slice A6 rs.length c6) (.int .i64 r) (.slice L7 ls.length cl7) (.slice B7 es2.length d7)
      have hBF := below_put4 hM.below (g := w.heap.size + 1) (by omega) (.slice A6 rs.length c6) (.int .i64 r) (.slice L7 ls.length cl7) (.slice B7 es2.length d7)
      have hvF := spv_put4 hsp hsl hsw (.slice A6 rs.length c6) (.int .i64 r) (.slice L7 ls.length cl7) (.slice B7 es2.length d7)
      go_wp2_with fail
      exact bodyPost_ret (kF.res3 (P := Tryd.prog) rfl _ rfl (by kernel_rfl) (by kernel_rfl)) rfl ⟨_, rfl, by rw [← HE2.out]; exact hvF, hsl.mono (by omega), hBF⟩
end Go.Proofs.YtpkgfkhaiifooaaDoor
