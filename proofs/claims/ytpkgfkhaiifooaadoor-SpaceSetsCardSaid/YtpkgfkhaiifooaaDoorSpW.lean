/- What the reference of chapter 27 returns: Set. -/
import Derived.Test.YtpkgfkhaiifooaaDoorSpQ
import Derived.Test.YtpkgfkhaiifooaaDoorGZ
namespace Go.Proofs.YtpkgfkhaiifooaaDoor
open Go Go.Proofs Go.RowKit
set_option linter.unusedSimpArgs false
set_option linter.unusedVariables false
set_option maxRecDepth 100000

set_option maxHeartbeats 4000000 in
theorem rSet_any (rs : List (Int × Int)) (r : Int) (ls : List Int) (es : List Nat) (v : Value) (page k n : Int) (a b f : Bool) (w : World) (hv : SpV w v (rs, r, ls, es)) (hn : rs.length ≤ 1000000) (hs : wsmall es) :
    Calls Tryd.prog 19 #[v, .int .i64 page, .agg #[.int .i64 k, .int .i64 n, .bool a, .bool b, .bool f]] w fun e w' => SpResL w w' (setR (rs, r, ls, es) page k n a b f).1 (setR (rs, r, ls, es) page k n a b f).2 e := by
  obtain ⟨A, c, L, cl, B, d, hve, hA, hLs, hB, hcc⟩ := id hv
  subst hve
  unfold spcV at hv ⊢
  simp only at hv ⊢ hA hLs hB hcc
  have hB1 := balloc (balloc (balloc (Below.refl _ w) (.cells #[.slice A rs.length c, .int .i64 r, .slice L ls.length cl, .slice B es.length d] 28)) (.cells #[.int .i64 k, .int .i64 n, .bool a, .bool b, .bool f] 38)) (.cells #[.slice none 0 0, .int .i64 0, .slice none 0 0, .slice none 0 0] 28)
  have kS := ((Bk.new w #[.slice A rs.length c, .int .i64 r, .slice L ls.length cl, .slice B es.length d] 28).alloc (.cells #[.int .i64 k, .int .i64 n, .bool a, .bool b, .bool f] 38)).alloc (.cells #[.slice none 0 0, .int .i64 0, .slice none 0 0, .slice none 0 0] 28)
  have kE := (Bk.new (w.alloc (.cells #[.slice A rs.length c, .int .i64 r, .slice L ls.length cl, .slice B es.length d] 28)) #[.int .i64 k, .int .i64 n, .bool a, .bool b, .bool f] 38).alloc (.cells #[.slice none 0 0, .int .i64 0, .slice none 0 0, .slice none 0 0] 28)
  have kR := Bk.new ((w.alloc (.cells #[.slice A rs.length c, .int .i64 r, .slice L ls.length cl, .slice B es.length d] 28)).alloc (.cells #[.int .i64 k, .int .i64 n, .bool a, .bool b, .bool f] 38)) #[.slice none 0 0, .int .i64 0, .slice none 0 0, .slice none 0 0] 28
  simp only [World.size_alloc] at kE kR
  generalize hw1 : ((w.alloc (.cells #[.slice A rs.length c, .int .i64 r, .slice L ls.length cl, .slice B es.length d] 28)).alloc (.cells #[.int .i64 k, .int .i64 n, .bool a, .bool b, .bool f] 38)).alloc (.cells #[.slice none 0 0, .int .i64 0, .slice none 0 0, .slice none 0 0] 28) = w1 at *
  have HC := Lib.hid (rSpCheck_any rs r ls es _ w1 (hv.to hB1) hn hs)
  have hout : ∀ (er : Int) (W : World), setE (rs, r, ls, es) page k n a b f = er → er ≠ 0 → Below w.heap.size w W → Bk W (w.heap.size + 1 + 1) #[.slice none 0 0, .int .i64 0, .slice none 0 0, .slice none 0 0] 28 → (setR (rs, r, ls, es) page k n a b f).1 = sp0 ∧ (setR (rs, r, ls, es) page k n a b f).2 = er := fun er W h1 h2 _ _ => by unfold setR; rw [if_pos (by rw [h1]; exact h2), h1]; exact ⟨rfl, rfl⟩
  obtain ⟨cS, fS, lS⟩ := kS.facts
  obtain ⟨cE, fE, lE⟩ := kE.facts
  obtain ⟨cR, fR, lR⟩ := kR.facts
  by_cases hE : spcE (rs, r, ls, es) = 0
  case neg =>
    have hR : setR (rs, r, ls, es) page k n a b f = (sp0, spcE (rs, r, ls, es)) := by
      have : setE (rs, r, ls, es) page k n a b f = spcE (rs, r, ls, es) := by unfold setE; rw [orE_l _ hE]
      unfold setR; rw [if_pos (by rw [this]; exact hE), this]
    rw [hR]
    have hd : (spcE (rs, r, ls, es) != 0) = true := by simpa using hE
    generalize spcE (rs, r, ls, es) = z at *
    clear hR hE hout
    go_enter Tryd.func19, Tryd.ntmps19
    go_wp2_with (go_at_call 24; refine HC.out.mono ?_; rintro e w2 ⟨rfl, hb2⟩; clear cS fS lS cE fE lE cR fR lR; obtain ⟨cR, fR, lR⟩ := (kR.to hb2).facts)
    have kF := (kR.to hb2).put4 (.slice none 0 0) (.int .i64 0) (.slice none 0 0) (.slice none 0 0)
    have hBF := below_put4 (bnext hB1 hb2) (g := w.heap.size + 1 + 1) (by omega) (.slice none 0 0) (.int .i64 0) (.slice none 0 0) (.slice none 0 0)
    exact bodyPost_ret (kF.res2 (P := Tryd.prog) rfl _ rfl (by kernel_rfl) (by kernel_rfl)) rfl ⟨_, rfl, SpV.zero _, SLoc.zero _, hBF⟩
  -- REST
  obtain ⟨hg, hT, _⟩ := spc_zero hE
  simp only at hg hT
  rw [hE] at HC
  clear hout
  by_cases hpg : page < 0 ∨ 63 < page
  · have hR : setR (rs, r, ls, es) page k n a b f = (sp0, 2) := by
      have : setE (rs, r, ls, es) page k n a b f = 2 := by unfold setE; rw [orE_r _ hE, if_pos hpg]
      unfold setR; rw [if_pos (by rw [this]; decide), this]
    rw [hR]
    have hcs : page < 0 ∨ (¬ page < 0 ∧ 64 ≤ page) := by omega
    clear hR hpg
    rcases hcs with h1 | ⟨h1, h2⟩
    all_goals
      go_enter Tryd.func19, Tryd.ntmps19
      go_wp2_with (first
        | (go_at_call 24; refine HC.out.mono ?_; rintro e w2 ⟨rfl, hb2⟩; clear cS fS lS cE fE lE cR fR lR; obtain ⟨cR, fR, lR⟩ := (kR.to hb2).facts; obtain ⟨cS, fS, lS⟩ := (kS.to hb2).facts; obtain ⟨cE, fE, lE⟩ := (kE.to hb2).facts)
        | fail)
      have kF := (kR.to hb2).put4 (.slice none 0 0) (.int .i64 0) (.slice none 0 0) (.slice none 0 0)
      have hBF := below_put4 (bnext hB1 hb2) (g := w.heap.size + 1 + 1) (by omega) (.slice none 0 0) (.int .i64 0) (.slice none 0 0) (.slice none 0 0)
      exact bodyPost_ret (kF.res2 (P := Tryd.prog) rfl _ rfl (by kernel_rfl) (by kernel_rfl)) rfl ⟨_, rfl, SpV.zero _, SLoc.zero _, hBF⟩
  have h1 : 0 ≤ page := by omega
  have h2 : page < 64 := by omega
  clear hpg
  obtain ⟨p, rfl⟩ : ∃ p : Nat, page = p := ⟨page.toNat, by omega⟩
  have hp : p < 64 := by omega
  have g1 : ¬ (p : Int) < 0 := by omega
  have g2 : ¬ (64 : Int) ≤ p := by omega
  have hS0 : setE (rs, r, ls, es) p k n a b f = if hasP rs p = false then 6 else (putR r ls es p k n a b f).2 := by unfold setE; rw [orE_r _ hE, if_neg (by omega), Int.toNat_natCast]
  by_cases hm : hasP rs p = false
  · have hR : setR (rs, r, ls, es) p k n a b f = (sp0, 6) := by
      rw [if_pos hm] at hS0
      unfold setR; rw [if_pos (by rw [hS0]; decide), hS0]
    rw [hR]
    have Hm := Lib.hid hm
    clear hR hm hS0
    go_enter Tryd.func19, Tryd.ntmps19
    go_wp2_with (first
      | (go_at_call 24; refine HC.out.mono ?_; rintro e w2 ⟨rfl, hb2⟩; clear cS fS lS cE fE lE cR fR lR; obtain ⟨cR, fR, lR⟩ := (kR.to hb2).facts; obtain ⟨cS, fS, lS⟩ := (kS.to hb2).facts; obtain ⟨cE, fE, lE⟩ := (kE.to hb2).facts)
      | (go_at_call 52; refine (rHas_any A rs.length c rs p _ (hA.below (bnext hB1 hb2) (Nat.le_refl _)) hn).mono ?_; rw [hasRg_ok rs p hg hp, Hm.out]; rintro e w3 ⟨rfl, hb3⟩; clear cS fS lS cE fE lE cR fR lR; obtain ⟨cR, fR, lR⟩ := ((kR.to hb2).to hb3).facts; obtain ⟨cS, fS, lS⟩ := ((kS.to hb2).to hb3).facts; obtain ⟨cE, fE, lE⟩ := ((kE.to hb2).to hb3).facts))
    all_goals
      have kF := ((kR.to hb2).to hb3).put4 (.slice none 0 0) (.int .i64 0) (.slice none 0 0) (.slice none 0 0)
      have hBF := below_put4 (bnext (bnext hB1 hb2) hb3) (g := w.heap.size + 1 + 1) (by omega) (.slice none 0 0) (.int .i64 0) (.slice none 0 0) (.slice none 0 0)
      exact bodyPost_ret (kF.res2 (P := Tryd.prog) rfl _ rfl (by kernel_rfl) (by kernel_rfl)) rfl ⟨_, rfl, SpV.zero _, SLoc.zero _, hBF⟩
  have Hm := Lib.hid (show hasP rs p = true by simpa using hm)
  rw [if_neg hm] at hS0
  clear hm
  by_cases hq : (putR r ls es p k n a b f).2 = 0
  case neg =>
    have hR : setR (rs, r, ls, es) p k n a b f = (sp0, (putR r ls es p k n a b f).2) := by unfold setR; rw [if_pos (by rw [hS0]; exact hq), hS0]
    rw [hR]
    have hd : ((putR r ls es p k n a b f).2 != 0) = true := by simpa using hq
    have HP := Lib.hid (fun W h1 => rPut_any r ls es _ p k n a b f W (tbv_of (L := L) (B := B) (cl := cl) (d := d) (hLs.below h1 (Nat.le_refl _)) (hB.below h1 (Nat.le_refl _)) hcc) hs)
    generalize (putR r ls es p k n a b f).2 = z at *
    clear hR hq hS0
    go_enter Tryd.func19, Tryd.ntmps19
    go_wp2_with (first
      | (go_at_call 24; refine HC.out.mono ?_; rintro e w2 ⟨rfl, hb2⟩; clear cS fS lS cE fE lE cR fR lR; obtain ⟨cR, fR, lR⟩ := (kR.to hb2).facts; obtain ⟨cS, fS, lS⟩ := (kS.to hb2).facts; obtain ⟨cE, fE, lE⟩ := (kE.to hb2).facts)
      | (go_at_call 52; refine (rHas_any A rs.length c rs p _ (hA.below (bnext hB1 hb2) (Nat.le_refl _)) hn).mono ?_; rw [hasRg_ok rs p hg hp, Hm.out]; rintro e w3 ⟨rfl, hb3⟩; clear cS fS lS cE fE lE cR fR lR; obtain ⟨cR, fR, lR⟩ := ((kR.to hb2).to hb3).facts; obtain ⟨cS, fS, lS⟩ := ((kS.to hb2).to hb3).facts; obtain ⟨cE, fE, lE⟩ := ((kE.to hb2).to hb3).facts)
      | (go_at_call 53; refine (HP.out _ (bnext (bnext hB1 hb2) hb3)).mono ?_; rintro e w4 ⟨v4, rfl, hv4, hl4, hb4⟩; obtain ⟨A4, c4, B4, d4, rfl, _, _, _⟩ := id hv4; clear cS fS lS cE fE lE cR fR lR; obtain ⟨cR, fR, lR⟩ := (((kR.to hb2).to hb3).to hb4).facts; simp only [tabV]))
    all_goals
      have kF := ((((kR.to hb2).to hb3).to hb4).put4 (.slice none 0 0) (.int .i64 0) (.slice none 0 0) (.slice none 0 0)).alloc (.cells #[.int .i64 (putR r ls es p k n a b f).1.1, .slice A4 (putR r ls es p k n a b f).1.2.1.length c4, .slice B4 (putR r ls es p k n a b f).1.2.2.length d4] 26)
      have hBF := below_put4 (bnext (bnext (bnext hB1 hb2) hb3) hb4) (g := w.heap.size + 1 + 1) (by omega) (.slice none 0 0) (.int .i64 0) (.slice none 0 0) (.slice none 0 0)
      exact bodyPost_ret (kF.res2 (P := Tryd.prog) rfl _ rfl (by kernel_rfl) (by kernel_rfl)) rfl ⟨_, rfl, SpV.zero _, SLoc.zero _, balloc hBF _⟩
  have hR : setR (rs, r, ls, es) p k n a b f = ((rs, (putR r ls es p k n a b f).1), 0) := by unfold setR; rw [if_neg (by rw [hS0]; simpa using hq)]
  rw [hR]
  have HP := Lib.hid (fun W h1 => rPut_any r ls es _ p k n a b f W (tbv_of (L := L) (B := B) (cl := cl) (d := d) (hLs.below h1 (Nat.le_refl _)) (hB.below h1 (Nat.le_refl _)) hcc) hs)
  rw [hq] at HP
  clear hR hq hS0
  rcases hpt : (putR r ls es p k n a b f).1 with ⟨r', ls', es'⟩
  rw [hpt] at HP
  clear hpt
  go_enter Tryd.func19, Tryd.ntmps19
  go_wp2_with (first
    | (go_at_call 24; refine HC.out.mono ?_; rintro e w2 ⟨rfl, hb2⟩; clear cS fS lS cE fE lE cR fR lR; obtain ⟨cR, fR, lR⟩ := (kR.to hb2).facts; obtain ⟨cS, fS, lS⟩ := (kS.to hb2).facts; obtain ⟨cE, fE, lE⟩ := (kE.to hb2).facts)
    | (go_at_call 52; refine (rHas_any A rs.length c rs p _ (hA.below (bnext hB1 hb2) (Nat.le_refl _)) hn).mono ?_; rw [hasRg_ok rs p hg hp, Hm.out]; rintro e w3 ⟨rfl, hb3⟩; clear cS fS lS cE fE lE cR fR lR; obtain ⟨cR, fR, lR⟩ := ((kR.to hb2).to hb3).facts; obtain ⟨cS, fS, lS⟩ := ((kS.to hb2).to hb3).facts; obtain ⟨cE, fE, lE⟩ := ((kE.to hb2).to hb3).facts)
    | (go_at_call 53; refine (HP.out _ (bnext (bnext hB1 hb2) hb3)).mono ?_; rintro e w4 ⟨v4, rfl, hv4, hl4, hb4⟩; obtain ⟨A4, c4, B4, d4, rfl, _, _, _⟩ := id hv4; clear cS fS lS cE fE lE cR fR lR; simp only [tabV] at hv4 hl4 ⊢; obtain ⟨cS, fS, lS⟩ := ((((kS.to hb2).to hb3).to hb4).alloc (.cells #[.int .i64 r', .slice A4 ls'.length c4, .slice B4 es'.length d4] 26)).facts))
  have kR4 := ((kR.to hb2).to hb3).to hb4
  have hB4 := bnext (bnext (bnext hB1 hb2) hb3) hb4
  have hs2 : w.heap.size + 1 + 1 < w3.heap.size := ((kR.to hb2).to hb3).lt
  have hls4 : w.heap.size ≤ w3.heap.size := (bnext (bnext hB1 hb2) hb3).size
  have kT := Bk.new w4 #[.int .i64 r', .slice A4 ls'.length c4, .slice B4 es'.length d4] 26
  have hcT := balloc (Below.refl _ w4) (.cells #[.int .i64 r', .slice A4 ls'.length c4, .slice B4 es'.length d4] 26)
  generalize hw5 : w4.alloc (.cells #[.int .i64 r', .slice A4 ls'.length c4, .slice B4 es'.length d4] 26) = w5 at *
  have hv5 := hv4.to hcT
  have kR5 := kR4.to hcT
  have hB5 := bnext hB4 hcT
  have hs5 : w4.heap.size < w5.heap.size := kT.lt
  have hs34 : w3.heap.size ≤ w4.heap.size := hb4.size
  clear hw5 hcT kR4 hB4
  refine (rSpOwn_any rs r ls es _ _ (hv.to hB5) hn (by have := (tab_zero hT).1; omega) (by have := (tab_zero hT).2.1; omega)).mono ?_
  rintro e w6 ⟨v6, rfl, hv6, hl6, hb6⟩
  obtain ⟨A6, c6, L6, cl6, B6, d6, rfl, hA6, _, _, _⟩ := id hv6
  obtain ⟨m1, m2, m3⟩ := hl6 _ _ _ _ _ _ _ _ _ _ rfl
  simp only [spcV] at hv6 hl6 hA6 m1 m2 m3 ⊢
  clear cS fS lS
  go_upto_region 13 with fail
  have kN := Bk.new w6 #[.slice A6 rs.length c6, .int .i64 r, .slice L6 ls.length cl6, .slice B6 es.length d6] 28
  have hcN := balloc (Below.refl _ w6) (.cells #[.slice A6 rs.length c6, .int .i64 r, .slice L6 ls.length cl6, .slice B6 es.length d6] 28)
  generalize hw7 : w6.alloc (.cells #[.slice A6 rs.length c6, .int .i64 r, .slice L6 ls.length cl6, .slice B6 es.length d6] 28) = w7 at *
  have hs6 : w5.heap.size ≤ w6.heap.size := hb6.size
  have hs7 : w6.heap.size < w7.heap.size := kN.lt
  have hcc7 := bnext hb6 hcN
  have kT7 := kT.to hcc7
  have kR7 := kR5.to hcc7
  have hv7 := hv5.to hcc7
  have hB7 := bnext hB5 hcc7
  have hA7 := hA6.to hcN
  clear hw7 hcN hb6 hcc7 kT kR5 hv5 hB5
  obtain ⟨cT, fT, lT⟩ := kT7.facts
  obtain ⟨cN, fN, lN⟩ := kN.facts
  go_upto_region 14 with fail
  clear cT fT lT cN fN lN
  have kN8 := ((kN.put 1 (.int .i64 r')).put 2 (.slice A4 ls'.length c4)).put 3 (.slice B4 es'.length d4)
  have kR8 := ((kR7.far (p := ⟨w6.heap.size, 1, none⟩) (by show _ ≠ w6.heap.size; omega) (.int .i64 r')).far (p := ⟨w6.heap.size, 2, none⟩) (by show _ ≠ w6.heap.size; omega) (.slice A4 ls'.length c4)).far (p := ⟨w6.heap.size, 3, none⟩) (by show _ ≠ w6.heap.size; omega) (.slice B4 es'.length d4)
  have hB8 := ((hB7.setCell (p := ⟨w6.heap.size, 1, none⟩) (by show _ ≤ w6.heap.size; omega) (.int .i64 r')).setCell (p := ⟨w6.heap.size, 2, none⟩) (by show _ ≤ w6.heap.size; omega) (.slice A4 ls'.length c4)).setCell (p := ⟨w6.heap.size, 3, none⟩) (by show _ ≤ w6.heap.size; omega) (.slice B4 es'.length d4)
  have hsp7 := spv_mk (c := c6) hA7 hv7
  obtain ⟨l4, l5⟩ := hl4 _ _ _ _ _ _ _ rfl
  have hA6l : ∀ b off, 0 < rs.length → A6 = some ⟨b, off, none⟩ → b < w6.heap.size := fun b off h0 he => by
    obtain ⟨b', off', e', hb', _⟩ := hA6.2 h0
    rw [he] at e'
    injection e' with e'
    injection e' with e'
    omega
  have hTl : (∀ b off, 0 < ls'.length → A4 = some ⟨b, off, none⟩ → b < w4.heap.size) ∧ (∀ b off, 0 < es'.length → B4 = some ⟨b, off, none⟩ → b < w4.heap.size) := by
    obtain ⟨_, _, _, _, e', h1, h2, _⟩ := hv4
    simp only [tabV, Value.agg.injEq, Array.mk.injEq, List.cons.injEq, Value.slice.injEq] at e'
    obtain ⟨_, ⟨rfl, _, _⟩, ⟨rfl, _, _⟩, _⟩ := e'
    exact ⟨fun b off h0 he => by
      obtain ⟨b', off', e', hb', _⟩ := h1.2 h0
      rw [he] at e'; injection e' with e'; injection e' with e'; omega, fun b off h0 he => by
      obtain ⟨b', off', e', hb', _⟩ := h2.2 h0
      rw [he] at e'; injection e' with e'; injection e' with e'; omega⟩
  have hsp8 : SpV (((w7.setCell ⟨w6.heap.size, 1, none⟩ (.int .i64 r')).setCell ⟨w6.heap.size, 2, none⟩ (.slice A4 ls'.length c4)).setCell ⟨w6.heap.size, 3, none⟩ (.slice B4 es'.length d4)) (.agg #[.slice A6 rs.length c6, .int .i64 r', .slice A4 ls'.length c4, .slice B4 es'.length d4]) (rs, r', ls', es') := by
    obtain ⟨A', c', L', cl', B', d', e', q1, q2, q3, q4⟩ := hsp7
    simp only [spcV, Value.agg.injEq, Array.mk.injEq, List.cons.injEq, Value.slice.injEq] at e'
    obtain ⟨⟨rfl, _, rfl⟩, _, ⟨rfl, _, rfl⟩, ⟨rfl, _, rfl⟩, _⟩ := e'
    have k1 : ∀ b off, 0 < rs.length → A6 = some ⟨b, off, none⟩ → b ≠ w6.heap.size := fun b off h0 he => by have := hA6l b off h0 he; omega
    have k2 : ∀ b off, 0 < ls'.length → A4 = some ⟨b, off, none⟩ → b ≠ w6.heap.size := fun b off h0 he => by have := hTl.1 b off h0 he; omega
    have k3 : ∀ b off, 0 < es'.length → B4 = some ⟨b, off, none⟩ → b ≠ w6.heap.size := fun b off h0 he => by have := hTl.2 b off h0 he; omega
    exact ⟨A6, _, A4, _, B4, _, rfl, ((q1.far (p := ⟨w6.heap.size, 1, none⟩) k1 _).far (p := ⟨w6.heap.size, 2, none⟩) k1 _).far (p := ⟨w6.heap.size, 3, none⟩) k1 _, ((q2.far (p := ⟨w6.heap.size, 1, none⟩) k2 _).far (p := ⟨w6.heap.size, 2, none⟩) k2 _).far (p := ⟨w6.heap.size, 3, none⟩) k2 _, ((q3.far (p := ⟨w6.heap.size, 1, none⟩) k3 _).far (p := ⟨w6.heap.size, 2, none⟩) k3 _).far (p := ⟨w6.heap.size, 3, none⟩) k3 _, q4⟩
  have hsl : SLoc w3.heap.size (.agg #[.slice A6 rs.length c6, .int .i64 r', .slice A4 ls'.length c4, .slice B4 es'.length d4]) := SLoc.mk (fun b off h0 he => by have := m1 b off h0 he; omega) l4 l5
  generalize ((w7.setCell ⟨w6.heap.size, 1, none⟩ (.int .i64 r')).setCell ⟨w6.heap.size, 2, none⟩ (.slice A4 ls'.length c4)).setCell ⟨w6.heap.size, 3, none⟩ (.slice B4 es'.length d4) = w8 at *
  obtain ⟨cN, fN, lN⟩ := kN8.facts
  obtain ⟨cR, fR, lR⟩ := kR8.facts
  have kF := kR8.put4 (.slice A6 rs.length c6) (.int .i64 r') (.slice A4 ls'.length c4) (.slice B4 es'.length d4)
  have hBF := below_put4 hB8 (g := w.heap.size + 1 + 1) (by omega) (.slice A6 rs.length c6) (.int .i64 r') (.slice A4 ls'.length c4) (.slice B4 es'.length d4)
  have hvF := spv_put4 hsp8 hsl hs2 (.slice A6 rs.length c6) (.int .i64 r') (.slice A4 ls'.length c4) (.slice B4 es'.length d4)
  go_wp2_with fail
  exact bodyPost_ret (kF.res2 (P := Tryd.prog) rfl _ rfl (by kernel_rfl) (by kernel_rfl)) rfl ⟨_, rfl, hvF, hsl.mono hls4, hBF⟩
end Go.Proofs.YtpkgfkhaiifooaaDoor
