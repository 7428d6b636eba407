/- Several texts in one. -/
import Derived.Test.YtomndlnfidkdcaaDoorQA
import Derived.Test.YtomndlnfidkdcaaDoorCowM
/- headgateref26.Drop. -/
namespace Go.Proofs.YtomndlnfidkdcaaDoor
open Go Go.Proofs Go.RowKit Go.Maps
set_option linter.unusedSimpArgs false
set_option linter.unusedVariables false
set_option maxRecDepth 100000

theorem setW_in {w w' : World} {A B : Option Addr} {n : Nat} {t : Sh} {i j y : Nat} (h : InS w A n t) (hR : RR uw 1 w' B n (setW t i j y)) (hy : y < 18446744073709551616) (hi : i < t.length) : InS w' B n (setW t i j y) := by
  have key : ∀ l ∈ setW t i j y, wsmall l ∧ l.length ≤ 70 := by
    intro l hl
    rcases List.mem_or_eq_of_mem_set hl with hl | rfl
    · exact ⟨h.small l hl, h.rows l hl⟩
    · refine ⟨fun x hx => ?_, by rw [List.length_set]; exact h.rows _ (rowAt_mem hi)⟩
      rcases List.mem_or_eq_of_mem_set hx with hx | rfl
      · exact h.small _ (rowAt_mem hi) x hx
      · exact hy
  exact ⟨hR, fun l hl => (key l hl).1, fun l hl => (key l hl).2, h.few⟩
theorem cnt_drop {t : Sh} {i j : Nat} {k n0 : Int} (hi : i < t.length) (hj : j < (rowAt t i).length) (hu : useW (wordAt t i j) = (k, n0)) (hk : k ≠ 0) : cntS (setW t i j 0) (k, n0) = 0 ↔ cntS t (k, n0) = 1 := by
  have h1 := cntS_setW t i j 0 (k, n0) hi hj
  have h0 : useW 0 = (0, 0) := by decide
  rw [if_pos hu, h0, if_neg (fun e => hk (by injection e with e1 e2; exact e1.symm))] at h1
  omega
set_option maxHeartbeats 8000000 in
theorem qDrop_any (A : Option Addr) (n c : Nat) (t : Sh) (table page : Int) (w : World) (h : InS w A n t) :
    Calls Tryd.prog 21 #[.slice A n c, .int .i64 table, .int .i64 page] w fun e w' => DropO (dropR t table page) w w' e := by
  have HC := Lib.hid (qAt_any A n c t table page w h)
  have HIN := Lib.hid h
  have hn := h.few
  have Hlen := Lib.hid h.rr.len
  clear h
  by_cases h0 : askS t table page = 0
  · have hck := HC.out
    rw [h0] at hck
    have HC0 := Lib.hid hck
    obtain ⟨hv, i, j, rfl, rfl, hi, hj⟩ := ask_zero h0
    have hR : dropR t i j = (setW t i j 0, dropF t (wordAt t i j), dropS t (wordAt t i j), 0) := by unfold dropR; rw [if_neg (by simp [h0])]; simp only [Int.toNat_natCast]
    have HV := Lib.hid (And.intro hi hj)
    have hunp : unpE (wordAt t i j) = 0 := hv.ok _ (rowAt_mem hi) _ (wordAt_mem hj)
    have hk3 : (entW (wordAt t i j)).1 = 0 ∨ (entW (wordAt t i j)).1 = 1 ∨ (entW (wordAt t i j)).1 = 2 := by
      rcases ent_cases _ hunp with ⟨e, _⟩ | ⟨n, b, c, e, h0, h1⟩ | ⟨n, e, h0, h1⟩ <;> rw [e] <;> simp
    have hF : dropF t (wordAt t i j) = if (entW (wordAt t i j)).1 = 1 ∧ cntS t (useW (wordAt t i j)) = 1 then (entW (wordAt t i j)).2.1 else -1 := rfl
    have hS : dropS t (wordAt t i j) = if (entW (wordAt t i j)).1 = 2 ∧ cntS t (useW (wordAt t i j)) = 1 then (entW (wordAt t i j)).2.1 else -1 := rfl
    have hud : useW (wordAt t i j) = ((entW (wordAt t i j)).1, (entW (wordAt t i j)).2.1) := rfl
    rcases hent : entW (wordAt t i j) with ⟨k0, n0, a0, b0, c0⟩
    rw [hent] at hk3 hud
    rw [hent, hud] at hF hS
    simp only at hk3 hud hF hS
    rw [hF, hS] at hR
    have HRR := Lib.hid hR
    have HUD := Lib.hid hud
    have hin : i < n := by rw [← Hlen.out]; exact hi
    have hin2 : (i : Int) < (n : Int) := by omega
    obtain ⟨bA, off, B, cB, rfl, hbl, hcell, hRl, hqt, hl70, hsm⟩ := HIN.out.at hin
    obtain ⟨bR, ofR, x, rfl, hbR, hx, hxs, hxc⟩ := hRl.word hsm hj
    have hxw : wordAt t i j = x := hx
    rw [hxw] at hent
    have HENT := Lib.hid hent
    have HXA := Lib.hid (word_at hj hx)
    have hrow : t[i]? = some (rowAt t i) := by
      unfold rowAt
      rw [List.getD_eq_getElem?_getD, List.getElem?_eq_getElem hi]
      rfl
    have HROW := Lib.hid hrow
    obtain ⟨m, hm⟩ : ∃ m, m = (rowAt t i).length := ⟨_, rfl⟩
    have HM := Lib.hid hm
    rw [← hm] at hcell hj hl70
    have hjm2 : (j : Int) < (m : Int) := by omega
    have HCELL := Lib.hid hcell
    have HXC := Lib.hid hxc
    clear hck HC h0 hR hv hunp hud hF hS hent hRl hqt hsm hx hxw hrow hm hcell hxc
    go_enter Tryd.func21, Tryd.ntmps21
    go_wp2_with fail
    refine HC0.out.mono ?_
    rintro e w1 ⟨rfl, hb1⟩
    go_wp2_with fail
    refine (qOwn_any _ n c t w1 (HIN.out.to hb1)).mono ?_
    rintro e w2 ⟨v3, rfl, ⟨vs, hW⟩, hb2⟩
    have hB2 := bnext hb1 hb2
    have hsz := hb1.size
    obtain ⟨ga, capa, rfl, hba, hla⟩ := hW.outer.form (by rw [Hlen.out]; omega)
    rw [Hlen.out] at hW ⊢
    obtain ⟨r, hr, ho⟩ := hW.rows i _ HROW.out
    obtain ⟨g, cR, rfl, hbg, hgl⟩ := ho.form (by rw [← HM.out]; omega)
    rw [← HM.out] at hr
    have hcell2 := (hB2.cell (p := ⟨bA, off + i, none⟩) hbl).trans HCELL.out
    have hxc2 := (hB2.cell (p := ⟨bR, ofR + j, none⟩) hbR).trans HXC.out
    have hbl2 : bA < w2.heap.size := Nat.lt_of_lt_of_le hbl hB2.size
    have hbR2 : bR < w2.heap.size := Nat.lt_of_lt_of_le hbR hB2.size
    go_wp2_with fail
    refine (rEntry_any x w2 hxs _ _ _ _ _ HENT.out).mono ?_
    rintro e w3 ⟨rfl, hb3⟩
    have HB3 := Lib.hid (bnext hB2 hb3)
    have hgs : g < w3.heap.size := by have := hb3.size; omega
    have HW := Lib.hid (hW.to hb3)
    have HR := Lib.hid hr
    clear hW hr ho hb1 hb2 hB2 hcell2 hxc2 hb3
    obtain ⟨fz, r0, _, _, hput⟩ := HW.out.put_at Hlen.out HROW.out HXA.out HR.out
    have hrc := HW.out.cell Hlen.out HR.out
    have hga3 : ga < w3.heap.size := World.block_lt_of_cell? _ _ hrc
    have hp0 : WOv (w3.setCell ⟨g, j, none⟩ (.int .u64 0)) w1.heap.size (.slice (some ⟨ga, 0, none⟩) n capa) (setW t i j 0) vs := hput 0
    have hB4 : Below w.heap.size w (w3.setCell ⟨g, j, none⟩ (.int .u64 0)) := HB3.out.setCell (p := ⟨g, j, none⟩) (by show w.heap.size ≤ g; omega) _
    have HP := Lib.hid (And.intro hp0 hB4)
    clear hp0 hB4 hput
    rcases hk3 with hk | hk | hk
    · subst hk
      go_wp2_with fail
      ((try simp only [Exit.inBlock, Exit.then]); refine bodyPost_ret (results_tmp4 rfl _ _ _) rfl ?_)
      rw [HRR.out]
      refine ⟨⟨.slice (some ⟨ga, 0, none⟩) n capa, ?_, (WO.sho ⟨_, HP.out.1⟩).to (balloc (Below.refl _ _) (.cells #[.int .i64 0, .int .i64 n0, .bool a0, .bool b0, .bool c0] 61))⟩, balloc HP.out.2 _⟩
      rw [if_neg (by simp), if_neg (by simp)]
      rfl
    · subst hk
      go_wp2_with fail
      have hus := rUses_any (some ⟨ga, 0, none⟩) n capa (setW t i j 0) 1 n0 (World.alloc (w3.setCell ⟨g, j, none⟩ (.int .u64 0)) (.cells #[.int .i64 1, .int .i64 n0, .bool a0, .bool b0, .bool c0] 61)) (setW_in HIN.out ((WO.rr ⟨_, HP.out.1⟩ (by rw [setW_len]; exact Hlen.out)).alloc _) (by decide) hi)
      have hcd := cnt_drop (k := 1) (n0 := n0) HV.out.1 HV.out.2 HUD.out (by decide)
      obtain ⟨u, hu⟩ : ∃ u, u = cntS (setW t i j 0) (1, n0) := ⟨_, rfl⟩
      rw [← hu] at hus hcd
      have HCD := Lib.hid hcd
      clear hu hcd
      refine hus.mono ?_
      clear hus
      rintro e w6 ⟨rfl, hb6⟩
      have kE := (Bk.new (w3.setCell ⟨g, j, none⟩ (.int .u64 0)) #[.int .i64 1, .int .i64 n0, .bool a0, .bool b0, .bool c0] 61).to hb6
      have hsz3 : (World.heap (w3.setCell ⟨g, j, none⟩ (.int .u64 0))).size = w3.heap.size := by simp
      rw [hsz3] at kE
      have g0 := kE.cell 0
      have g1 := kE.cell 1
      simp at g0 g1
      clear kE hsz3
      by_cases hu0 : u = 0
      · subst hu0
        go_wp2
        ((try simp only [Exit.inBlock, Exit.then]); refine bodyPost_ret (results_tmp4 rfl _ _ _) rfl ?_)
        rw [HRR.out]
        refine ⟨⟨.slice (some ⟨ga, 0, none⟩) n capa, ?_, ((WO.sho ⟨_, HP.out.1⟩).to (balloc (Below.refl _ _) (.cells #[.int .i64 1, .int .i64 n0, .bool a0, .bool b0, .bool c0] 61))).to hb6⟩, bnext (balloc HP.out.2 _) hb6⟩
        rw [if_pos ⟨by trivial, HCD.out.1 (by trivial)⟩, if_neg (by simp)]; rfl
      · have hbu : ((u : Int) == 0) = false := by simp; omega
        have HU0 := Lib.hid hu0
        clear hu0
        go_wp2
        ((try simp only [Exit.inBlock, Exit.then]); refine bodyPost_ret (results_tmp4 rfl _ _ _) rfl ?_)
        rw [HRR.out]
        refine ⟨⟨.slice (some ⟨ga, 0, none⟩) n capa, ?_, ((WO.sho ⟨_, HP.out.1⟩).to (balloc (Below.refl _ _) (.cells #[.int .i64 1, .int .i64 n0, .bool a0, .bool b0, .bool c0] 61))).to hb6⟩, bnext (balloc HP.out.2 _) hb6⟩
        rw [if_neg (fun e => HU0.out (HCD.out.2 e.2)), if_neg (fun e => HU0.out (HCD.out.2 e.2))]; rfl
    · subst hk
      go_wp2_with fail
      have hus := rUses_any (some ⟨ga, 0, none⟩) n capa (setW t i j 0) 2 n0 (World.alloc (w3.setCell ⟨g, j, none⟩ (.int .u64 0)) (.cells #[.int .i64 2, .int .i64 n0, .bool a0, .bool b0, .bool c0] 61)) (setW_in HIN.out ((WO.rr ⟨_, HP.out.1⟩ (by rw [setW_len]; exact Hlen.out)).alloc _) (by decide) hi)
      have hcd := cnt_drop (k := 2) (n0 := n0) HV.out.1 HV.out.2 HUD.out (by decide)
      obtain ⟨u, hu⟩ : ∃ u, u = cntS (setW t i j 0) (2, n0) := ⟨_, rfl⟩
      rw [← hu] at hus hcd
      have HCD := Lib.hid hcd
      clear hu hcd
      refine hus.mono ?_
      clear hus
      rintro e w6 ⟨rfl, hb6⟩
      have kE := (Bk.new (w3.setCell ⟨g, j, none⟩ (.int .u64 0)) #[.int .i64 2, .int .i64 n0, .bool a0, .bool b0, .bool c0] 61).to hb6
      have hsz3 : (World.heap (w3.setCell ⟨g, j, none⟩ (.int .u64 0))).size = w3.heap.size := by simp
      rw [hsz3] at kE
      have g0 := kE.cell 0
      have g1 := kE.cell 1
      simp at g0 g1
      clear kE hsz3
      by_cases hu0 : u = 0
      · subst hu0
        go_wp2
        ((try simp only [Exit.inBlock, Exit.then]); refine bodyPost_ret (results_tmp4 rfl _ _ _) rfl ?_)
        rw [HRR.out]
        refine ⟨⟨.slice (some ⟨ga, 0, none⟩) n capa, ?_, ((WO.sho ⟨_, HP.out.1⟩).to (balloc (Below.refl _ _) (.cells #[.int .i64 2, .int .i64 n0, .bool a0, .bool b0, .bool c0] 61))).to hb6⟩, bnext (balloc HP.out.2 _) hb6⟩
        rw [if_neg (by simp), if_pos ⟨by trivial, HCD.out.1 (by trivial)⟩]; rfl
      · have hbu : ((u : Int) == 0) = false := by simp; omega
        have HU0 := Lib.hid hu0
        clear hu0
        go_wp2
        ((try simp only [Exit.inBlock, Exit.then]); refine bodyPost_ret (results_tmp4 rfl _ _ _) rfl ?_)
        rw [HRR.out]
        refine ⟨⟨.slice (some ⟨ga, 0, none⟩) n capa, ?_, ((WO.sho ⟨_, HP.out.1⟩).to (balloc (Below.refl _ _) (.cells #[.int .i64 2, .int .i64 n0, .bool a0, .bool b0, .bool c0] 61))).to hb6⟩, bnext (balloc HP.out.2 _) hb6⟩
        rw [if_neg (fun e => HU0.out (HCD.out.2 e.2)), if_neg (fun e => HU0.out (HCD.out.2 e.2))]; rfl
  · have hR : dropR t table page = ([], 0, 0, askS t table page) := by unfold dropR; rw [if_pos h0]
    have hne : (askS t table page != 0) = true := by simpa using h0
    have HRR := Lib.hid hR
    clear hR h0
    go_enter Tryd.func21, Tryd.ntmps21
    go_wp2_with fail
    refine HC.out.mono ?_
    rintro e w1 ⟨rfl, hb⟩
    go_wp2
    ((try simp only [Exit.inBlock, Exit.then]); refine bodyPost_ret (results_tmp4 rfl _ _ _) rfl ?_)
    rw [HRR.out]
    exact ⟨⟨_, rfl, ShO.nil _⟩, hb⟩
end Go.Proofs.YtomndlnfidkdcaaDoor
/- headgateref26.Sharers. -/
namespace Go.Proofs.YtomndlnfidkdcaaDoor
open Go Go.Proofs Go.RowKit Go.Maps
set_option linter.unusedSimpArgs false
set_option linter.unusedVariables false
set_option maxRecDepth 100000

set_option maxHeartbeats 8000000 in
theorem qSharers_any (A : Option Addr) (n c : Nat) (t : Sh) (table page : Int) (w : World) (h : InS w A n t) :
    Calls Tryd.prog 32 #[.slice A n c, .int .i64 table, .int .i64 page] w fun e w' => ShrR (shR t table page).1 (shR t table page).2 w w' e := by
  have HC := Lib.hid (qAt_any A n c t table page w h)
  have HIN := Lib.hid h
  have hn := h.few
  have Hlen := Lib.hid h.rr.len
  clear h
  by_cases h0 : askS t table page = 0
  · have hck := HC.out
    rw [h0] at hck
    have HC0 := Lib.hid hck
    obtain ⟨hv, i, j, rfl, rfl, hi, hj⟩ := ask_zero h0
    have hR : shR t i j = (shL t i j, 0) := by unfold shR; rw [if_neg (by simp [h0])]; simp only [Int.toNat_natCast]
    rw [hR]
    have HV := Lib.hid hv
    rcases hent : entW (wordAt t i j) with ⟨k0, n0, a0, b0, c0⟩
    have hux : useW (wordAt t i j) = (k0, n0) := by unfold useW; rw [hent]; rfl
    have HUX := Lib.hid hux
    have hSL : shL t i j = if k0 = 0 then [] else shAll t i j t.length := by unfold shL; rw [hent]
    have hin : i < n := by rw [← Hlen.out]; exact hi
    have hin2 : (i : Int) < (n : Int) := by omega
    obtain ⟨bA, off, B, cB, rfl, hbl, hcell, hRl, hqt, hl70, hsm⟩ := HIN.out.at hin
    obtain ⟨bR, ofR, x, rfl, hbR, hx, hxs, hxc⟩ := hRl.word hsm hj
    have hxw : wordAt t i j = x := hx
    rw [hxw] at hent
    have HENT := Lib.hid hent
    obtain ⟨m0, hm⟩ : ∃ m, m = (rowAt t i).length := ⟨_, rfl⟩
    rw [← hm] at hcell hj hl70
    have hjm2 : (j : Int) < (m0 : Int) := by omega
    clear hck HC h0 hR hv hent hux hRl hqt hsm hx hxw hm
    go_enter Tryd.func32, Tryd.ntmps32
    go_wp2_with fail
    refine HC0.out.mono ?_
    rintro e w1 ⟨rfl, hb1⟩
    have hcell1 := (hb1.cell (p := ⟨bA, off + i, none⟩) hbl).trans hcell
    have hxc1 := (hb1.cell (p := ⟨bR, ofR + j, none⟩) hbR).trans hxc
    have hbl1 : bA < w1.heap.size := Nat.lt_of_lt_of_le hbl hb1.size
    have hbR1 : bR < w1.heap.size := Nat.lt_of_lt_of_le hbR hb1.size
    go_wp2_with fail
    refine (rEntry_any x w1 hxs _ _ _ _ _ HENT.out).mono ?_
    rintro e w2' ⟨rfl, hb2⟩
    clear hcell hxc hcell1 hxc1 hbl1 hbR1 hbl hbR hl70 hj
    go_wp2
    have kE := Bk.new w2' #[.int .i64 k0, .int .i64 n0, .bool a0, .bool b0, .bool c0] 61
    have hB2 : Below w.heap.size w (w2'.alloc (.cells #[.int .i64 k0, .int .i64 n0, .bool a0, .bool b0, .bool c0] 61)) := balloc (bnext hb1 hb2) _
    obtain ⟨i0, hi0, hz0, hz1, hz2⟩ := info_parts infoPl
    generalize w2'.alloc (.cells #[.int .i64 k0, .int .i64 n0, .bool a0, .bool b0, .bool c0] 61) = w2 at *
    generalize w2'.heap.size = GE at *
    have HIN2 := Lib.hid (HIN.out.to hB2)
    have HB2 := Lib.hid hB2
    clear hb1 hb2 hB2 HIN
    by_cases hk0 : k0 = 0
    · have HS := Lib.hid (show shL t i j = [] by rw [hSL, if_pos hk0])
      have hd0 : (k0 != 0) = false := by simp [hk0]
      have HKE := Lib.hid kE
      clear hSL hk0 kE
      go_loopw [10, 11] (fun s k wr => ∃ q : Nat, q ≤ n ∧ k = .int .i64 q ∧ s = .slice none 0 0 ∧ Below w2.heap.size w2 wr) (fun _ k _ => n - (intOf k).toNat)
      case atStart => exact ⟨0, Nat.zero_le _, rfl, rfl, Below.refl _ _⟩
      case round =>
        obtain ⟨q, hqn, rfl, rfl, hB3⟩ := hrel
        by_cases hqt : q < n
        · have hqt2 : (q : Int) < (n : Int) := by omega
          obtain ⟨bU, ofU, BU, cBU, hAu, hblU, hcU0, hRl, hqq, hl70, hsm⟩ := HIN2.out.at hqt
          have hAu2 : bA = bU ∧ off = ofU := by injection hAu with e; injection e with e1 e2; exact ⟨e1, e2⟩
          obtain ⟨rfl, rfl⟩ := hAu2
          obtain ⟨m, hm⟩ : ∃ m, m = (rowAt t q).length := ⟨_, rfl⟩
          rw [← hm] at hcU0 hl70
          have HCU0 := Lib.hid hcU0
          have hcU := (hB3.cell (p := ⟨bA, off + q, none⟩) hblU).trans hcU0
          have hblw : bA < wr.heap.size := Nat.lt_of_lt_of_le hblU hB3.size
          have HM := Lib.hid hm
          have HRL := Lib.hid hRl
          have HSM := Lib.hid hsm
          have HB3 := Lib.hid hB3
          clear hm hRl hsm hqq hAu hB3 hcU0
          go_wp2
          obtain ⟨wo, rfl⟩ : ∃ wo : World, wo = wr := ⟨_, rfl⟩
          go_loopw [10, 12] (fun s k wr => ∃ p : Nat, p ≤ m ∧ k = .int .i64 p ∧ s = .slice none 0 0 ∧ Below w2.heap.size w2 wr) (fun _ k _ => m - (intOf k).toNat)
          case atStart => exact ⟨0, Nat.zero_le _, rfl, rfl, HB3.out⟩
          case round =>
            obtain ⟨p, hpn, rfl, rfl, hB5⟩ := hrel
            clear hcU
            have hcU := (hB5.cell (p := ⟨bA, off + q, none⟩) hblU).trans HCU0.out
            have hblw5 : bA < wr.heap.size := Nat.lt_of_lt_of_le hblU hB5.size
            by_cases hpt : p < m
            · have hpt2 : (p : Int) < (m : Int) := by omega
              obtain ⟨bR', ofR', y, rfl, hbR', hy, hys, hyc⟩ := (HRL.out.below hB5 (Nat.le_refl _)).word HSM.out (i := p) (by rw [← HM.out]; exact hpt)
              rcases henty : entW y with ⟨k1, n1, a1, b1, c1⟩
              have HENTY := Lib.hid henty
              have HB5 := Lib.hid hB5
              clear hy henty hB5
              go_wp2_with fail
              refine (rEntry_any y wr hys _ _ _ _ _ HENTY.out).mono ?_
              rintro e w6 ⟨rfl, hb6⟩
              have kG := HKE.out.to (bnext HB5.out hb6)
              have hGEl := kG.lt
              have o0 := kG.cell 0
              have o1 := kG.cell 1
              simp at o0 o1
              have HB7 := Lib.hid (bnext HB5.out hb6)
              clear kG hb6
              go_wp2
              go_roundw
              case rel => exact ⟨p + 1, by omega, by go_num, rfl, balloc HB7.out _⟩
              case measure => simp [intOf]; omega
            · have hnlt : ¬ (p : Int) < (m : Int) := by omega
              have HB5 := Lib.hid hB5
              clear hB5
              go_wp2
              go_roundw
              case rel => exact ⟨q + 1, by omega, by go_num, rfl, HB5.out⟩
              case measure => simp [intOf]; omega
        · have hnlt : ¬ (q : Int) < (n : Int) := by omega
          have HBo := Lib.hid (HB2.out.trans (hB3.mono HB2.out.size))
          clear hB3
          go_wp2
          go_ret2
          rw [HS.out]
          exact ⟨none, 0, rfl, Rd.zero _, HBo.out⟩
    · have hS : shL t i j = shAll t i j t.length := by rw [hSL, if_neg hk0]
      have HS := Lib.hid hS
      have hd0 : (k0 != 0) = true := by simpa using hk0
      have hst0 : ShrI w2 (shAll t i j 0) (.slice none 0 0) w2 := ⟨World.ownsRow_nil _ _ _ _, Below.refl _ _⟩
      have HST0 := Lib.hid hst0
      have HKE := Lib.hid kE
      clear hS hSL hk0 hst0 kE
      go_loopw [10, 11] (ShrO w2 t i j) (fun _ k _ => n - (intOf k).toNat)
      case atStart => exact ⟨0, by omega, rfl, HST0.out⟩
      case round =>
        obtain ⟨q, hqn, rfl, hrow, hB3⟩ := hrel
        have hqn' : q ≤ n := by rw [← Hlen.out]; exact hqn
        by_cases hqt : q < n
        · have hqt2 : (q : Int) < (n : Int) := by omega
          obtain ⟨bU, ofU, BU, cBU, hAu, hblU, hcU0, hRl, hqq, hl70, hsm⟩ := HIN2.out.at hqt
          have hAu2 : bA = bU ∧ off = ofU := by injection hAu with e; injection e with e1 e2; exact ⟨e1, e2⟩
          obtain ⟨rfl, rfl⟩ := hAu2
          obtain ⟨m, hm⟩ : ∃ m, m = (rowAt t q).length := ⟨_, rfl⟩
          rw [← hm] at hcU0 hl70
          have HCU0 := Lib.hid hcU0
          have hcU := (hB3.cell (p := ⟨bA, off + q, none⟩) hblU).trans hcU0
          have hblw : bA < wr.heap.size := Nat.lt_of_lt_of_le hblU hB3.size
          have HM := Lib.hid hm
          have HRL := Lib.hid hRl
          have HSM := Lib.hid hsm
          have HQQ := Lib.hid hqq
          have hl64 : m ≤ 64 := by rw [hm]; exact HV.out.row _ (rowAt_mem hqq)
          have hA512 := shAll_le t i j 64 HV.out.row q hqn
          have hA5 : (shAll t i j q).length ≤ 704 := by omega
          have hst1 : ShrI w2 (shAll t i j q ++ shRow t i j q 0) u10 wr := by
            have hsr : shAll t i j q ++ shRow t i j q 0 = shAll t i j q := by simp [shRow]
            rw [hsr]
            exact ⟨hrow, hB3⟩
          have HST1 := Lib.hid hst1
          clear hm hRl hsm hqq hAu hA512 hst1 hrow hB3 hcU0
          go_wp2
          obtain ⟨wo, rfl⟩ : ∃ wo : World, wo = wr := ⟨_, rfl⟩
          go_loopw [10, 12] (ShrN w2 t i j q m) (fun _ k _ => m - (intOf k).toNat)
          case atStart => exact ⟨0, by omega, rfl, HST1.out⟩
          case round =>
            obtain ⟨p, hpn, rfl, hrow5, hB5⟩ := hrel
            by_cases hpt : p < m
            · have hpt2 : (p : Int) < (m : Int) := by omega
              clear hcU
              have hcU := (hB5.cell (p := ⟨bA, off + q, none⟩) hblU).trans HCU0.out
              have hblw5 : bA < wr.heap.size := Nat.lt_of_lt_of_le hblU hB5.size
              obtain ⟨bR', ofR', y, rfl, hbR', hy, hys, hyc⟩ := (HRL.out.below hB5 (Nat.le_refl _)).word HSM.out (i := p) (by rw [← HM.out]; exact hpt)
              have hyw : wordAt t q p = y := hy
              rcases henty : entW y with ⟨k1, n1, a1, b1, c1⟩
              have hshb : shB t i j q p = (decide ((k1, n1) = (k0, n0)) && !(decide (q = i) && decide (p = j))) := by
                unfold shB
                rw [HUX.out, hyw]
                unfold useW
                rw [henty]
                rfl
              have HSHB := Lib.hid hshb
              have HENTY := Lib.hid henty
              have hlen5 : (shAll t i j q ++ shRow t i j q p).length ≤ 800 := by rw [List.length_append]; have := shRow_le t i j q p; omega
              clear hy hyw henty hshb
              go_wp2_with fail
              refine (rEntry_any y wr hys _ _ _ _ _ HENTY.out).mono ?_
              rintro e w6 ⟨rfl, hb6⟩
              have HB7 := Lib.hid (show Below w2.heap.size w2 (w6.alloc (.cells #[.int .i64 k1, .int .i64 n1, .bool a1, .bool b1, .bool c1] 61)) from balloc (bnext hB5 hb6) _)
              have HR7 := Lib.hid ((own_below hrow5 hb6).alloc (.cells #[.int .i64 k1, .int .i64 n1, .bool a1, .bool b1, .bool c1] 61))
              have kG := HKE.out.to (bnext hB5 hb6)
              have hGEl := kG.lt
              have o0 := kG.cell 0
              have o1 := kG.cell 1
              simp at o0 o1
              clear kG hrow5 hB5 hcU hyc
              by_cases hk : k1 = k0
              · subst hk
                have e1 : (k1 == k1) = true := by simp
                by_cases hnn : n1 = n0
                · subst hnn
                  have e2 : (n1 == n1) = true := by simp
                  by_cases hqi : q = i
                  · have e4 : ((q : Int) != (i : Int)) = false := by simp [hqi]
                    by_cases hpj : p = j
                    · have HSB := Lib.hid (HSHB.out.trans (c := false) (by simp [hqi, hpj]))
                      have e3 : ((p : Int) != (j : Int)) = false := by simp [hpj]
                      clear hpj hqi
                      have hnx := Lib.hid (show ShrI w2 (shAll t i j q ++ shRow t i j q (p + 1)) u10 (w6.alloc (.cells #[.int .i64 k1, .int .i64 n1, .bool a1, .bool b1, .bool c1] 61)) by rw [shRow_no t i j q p HSB.out]; exact ⟨HR7.out, HB7.out⟩)
                      go_wp2
                      go_roundw
                      case rel => exact ⟨p + 1, by omega, by go_num, hnx.out⟩
                      case measure => simp [intOf]; omega
                    · have HSB := Lib.hid (HSHB.out.trans (c := true) (by simp [hpj]))
                      have e3 : ((p : Int) != (j : Int)) = true := by simp; omega
                      clear hpj hqi
                      go_wp2_with (at_builtin; refine wpList_append_own_at _ rfl _ _ 45 rfl w2.heap.size 49 i0 (.agg #[.int .i64 0, .int .i64 0]) 2 16 Tryd.underlying45 hi0 hz0 hz1 hz2 rfl (by decide) _ _ _ rfl (HR7.out.alloc _) ⟨w6.heap.size + 1, 0, none⟩ 1 1 [.int .i64 (q : Int), .int .i64 (p : Int)] rfl rfl (by have hc2 := cell2_new (w6.alloc (.cells #[.int .i64 k1, .int .i64 n1, .bool a1, .bool b1, .bool c1] 61)) (.int .i64 (q : Int)) (.int .i64 (p : Int)) 49; rw [World.size_alloc] at hc2; exact hc2) (by simp [Value.oneCell']) (by unfold maxLen; omega) (by omega) (by have := HB7.out.size; simp at this ⊢; omega) ?_; intro v' w8 hown' hgrow _ _)
                      have hnx : ShrI w2 (shAll t i j q ++ shRow t i j q (p + 1)) v' w8 := by
                        rw [shRow_yes t i j q p HSB.out, ← List.append_assoc]
                        unfold ShrI
                        rw [flat2_append, List.length_append]
                        exact ⟨hown', (balloc HB7.out _).grown hgrow (by have := HB7.out.size; simp at this ⊢; omega) (fun g e => (HR7.out.lt g e).1)⟩
                      have HNX := Lib.hid hnx
                      clear hnx hown' hgrow
                      go_wp2
                      go_roundw
                      case rel => exact ⟨p + 1, by omega, by go_num, HNX.out⟩
                      case measure => simp [intOf]; omega
                  · have HSB := Lib.hid (HSHB.out.trans (c := true) (by simp [hqi]))
                    have e3 : ((q : Int) != (i : Int)) = true := by simp; omega
                    clear hqi
                    go_wp2_with (at_builtin; refine wpList_append_own_at _ rfl _ _ 45 rfl w2.heap.size 49 i0 (.agg #[.int .i64 0, .int .i64 0]) 2 16 Tryd.underlying45 hi0 hz0 hz1 hz2 rfl (by decide) _ _ _ rfl (HR7.out.alloc _) ⟨w6.heap.size + 1, 0, none⟩ 1 1 [.int .i64 (q : Int), .int .i64 (p : Int)] rfl rfl (by have hc2 := cell2_new (w6.alloc (.cells #[.int .i64 k1, .int .i64 n1, .bool a1, .bool b1, .bool c1] 61)) (.int .i64 (q : Int)) (.int .i64 (p : Int)) 49; rw [World.size_alloc] at hc2; exact hc2) (by simp [Value.oneCell']) (by unfold maxLen; omega) (by omega) (by have := HB7.out.size; simp at this ⊢; omega) ?_; intro v' w8 hown' hgrow _ _)
                    have hnx : ShrI w2 (shAll t i j q ++ shRow t i j q (p + 1)) v' w8 := by
                      rw [shRow_yes t i j q p HSB.out, ← List.append_assoc]
                      unfold ShrI
                      rw [flat2_append, List.length_append]
                      exact ⟨hown', (balloc HB7.out _).grown hgrow (by have := HB7.out.size; simp at this ⊢; omega) (fun g e => (HR7.out.lt g e).1)⟩
                    have HNX := Lib.hid hnx
                    clear hnx hown' hgrow
                    go_wp2
                    go_roundw
                    case rel => exact ⟨p + 1, by omega, by go_num, HNX.out⟩
                    case measure => simp [intOf]; omega
                · have HSB := Lib.hid (HSHB.out.trans (c := false) (by simp [hnn]))
                  have e2 : (n1 == n0) = false := by simpa using hnn
                  clear hnn
                  have hnx := Lib.hid (show ShrI w2 (shAll t i j q ++ shRow t i j q (p + 1)) u10 (w6.alloc (.cells #[.int .i64 k1, .int .i64 n1, .bool a1, .bool b1, .bool c1] 61)) by rw [shRow_no t i j q p HSB.out]; exact ⟨HR7.out, HB7.out⟩)
                  go_wp2
                  go_roundw
                  case rel => exact ⟨p + 1, by omega, by go_num, hnx.out⟩
                  case measure => simp [intOf]; omega
              · have HSB := Lib.hid (HSHB.out.trans (c := false) (by simp [hk]))
                have e1 : (k1 == k0) = false := by simpa using hk
                clear hk
                have hnx := Lib.hid (show ShrI w2 (shAll t i j q ++ shRow t i j q (p + 1)) u10 (w6.alloc (.cells #[.int .i64 k1, .int .i64 n1, .bool a1, .bool b1, .bool c1] 61)) by rw [shRow_no t i j q p HSB.out]; exact ⟨HR7.out, HB7.out⟩)
                go_wp2
                go_roundw
                case rel => exact ⟨p + 1, by omega, by go_num, hnx.out⟩
                case measure => simp [intOf]; omega
            · have hpm : p = (rowAt t q).length := by rw [← HM.out]; omega
              have hnx : ShrI w2 (shAll t i j (q + 1)) u10 wr := by
                rw [shAll_succ, ← hpm]
                exact ⟨hrow5, hB5⟩
              have HNX := Lib.hid hnx
              have hcU5 := (hB5.cell (p := ⟨bA, off + q, none⟩) hblU).trans HCU0.out
              have hblw5 : bA < wr.heap.size := Nat.lt_of_lt_of_le hblU hB5.size
              have hnlt : ¬ (p : Int) < (m : Int) := by omega
              clear hpm hnx hrow5 hB5
              go_wp2
              go_roundw
              case rel => exact ⟨q + 1, by have := HQQ.out; omega, by go_num, HNX.out⟩
              case measure => simp [intOf]; omega
        · have hqe : q = t.length := by rw [Hlen.out]; omega
          have hnlt : ¬ (q : Int) < (n : Int) := by omega
          obtain ⟨Ao, co, rfl, hRo⟩ := own_slice hrow
          have HRo := Lib.hid hRo
          have HBo := Lib.hid (HB2.out.trans (hB3.mono HB2.out.size))
          clear hrow hB3 hRo
          go_wp2
          go_ret2
          rw [HS.out, ← hqe]
          exact ⟨Ao, co, rfl, HRo.out, HBo.out⟩
  · have hR : shR t table page = ([], askS t table page) := by unfold shR; rw [if_pos h0]
    have hne : (askS t table page != 0) = true := by simpa using h0
    rw [hR]
    clear hR h0
    go_enter Tryd.func32, Tryd.ntmps32
    go_wp2_with fail
    refine HC.out.mono ?_
    rintro e w1 ⟨rfl, hb⟩
    go_wp2
    go_ret2
    exact ⟨none, 0, rfl, Rd.zero _, hb⟩
end Go.Proofs.YtomndlnfidkdcaaDoor
/- Rows of words in blocks of one's own, for headgateref26.Fork and Out. No walk here. -/
namespace Go.Proofs.YtomndlnfidkdcaaDoor
open Go Go.Proofs Go.RowKit Go.Maps
set_option linter.unusedSimpArgs false
set_option linter.unusedVariables false

theorem ownW_put {w : World} {base g c n : Nat} {l : List Nat} (h : w.ownsRow base 52 1 (.slice (some ⟨g, 0, none⟩) n c) n (uw l)) (hn : l.length = n) {j x : Nat} (hj : l[j]? = some x) :
    (∀ o, w.frozen? ⟨g, o, none⟩ = false) ∧ w.cell? ⟨g, j, none⟩ = some (.int .u64 (x : Int)) ∧ ∀ y : Nat, (w.setCell ⟨g, j, none⟩ (.int .u64 (y : Int))).ownsRow base 52 1 (.slice (some ⟨g, 0, none⟩) n c) n (uw (l.set j y)) := by
  have hjl : j < l.length := (List.getElem?_eq_some_iff.1 hj).1
  refine ⟨fun o => h.frozenAt o, (h.cellAt _ (by omega)).trans (by unfold uw; rw [List.getElem?_map, hj]; rfl), fun y => ?_⟩
  rw [← uw_setW]
  exact (h.stored j _).1
theorem setW_grown (w : World) (g j : Nat) (v : Value) : w.grownBy (w.setCell ⟨g, j, none⟩ v) (some g) :=
  ⟨rfl, rfl, rfl, by simp, fun k _ hk => Below.heap_setCell w ⟨g, j, none⟩ _ k (fun e => hk (by rw [e]))⟩
theorem WOv.far {w w' : World} {base : Nat} {vu : Value} {U : Sh} {vs : List Value} (h : WOv w base vu U vs) {b : Nat} (hg : w.grownBy w' (some b)) (ho : vu.ownBlock ≠ some b) (hr : ∀ (i : Nat) (r : Value), vs[i]? = some r → r.ownBlock ≠ some b) : WOv w' base vu U vs := by
  refine ⟨own_kept h.outer hg fun g hv e => ho (by rw [hv, e]), fun i l hl => ?_, h.off, h.apart⟩
  obtain ⟨r, h1, h2⟩ := h.rows i l hl
  exact ⟨r, h1, own_kept h2 hg fun g hv e => hr i r h1 (by rw [hv, e])⟩
end Go.Proofs.YtomndlnfidkdcaaDoor
/- Plain laws of sharings that were made of numbers: sums, who shares, forks, the last sharer, evictions. No program in sight. -/
namespace Go.Proofs.YtomndlnfidkdcaaDoor
open Go
set_option linter.unusedSimpArgs false
set_option linter.unusedVariables false

/-! ### sums -/
def sumN (f : Nat → Nat) : Nat → Nat
  | 0 => 0
  | n + 1 => sumN f n + f n
theorem sumN_congr {f g : Nat → Nat} {n : Nat} (h : ∀ k, k < n → f k = g k) : sumN f n = sumN g n := by
  induction n with
  | zero => rfl
  | succ n ih => rw [sumN, sumN, ih fun k hk => h k (by omega), h n (by omega)]
theorem sumN_add (f g : Nat → Nat) (n : Nat) : sumN (fun i => f i + g i) n = sumN f n + sumN g n := by
  induction n with
  | zero => rfl
  | succ n ih => simp only [sumN, ih]; omega
theorem sumN_zero {f : Nat → Nat} {n : Nat} (h : ∀ k, k < n → f k = 0) : sumN f n = 0 := by
  induction n with
  | zero => rfl
  | succ n ih => rw [sumN, ih fun k hk => h k (by omega), h n (by omega)]
theorem sumN_one {f : Nat → Nat} {n k : Nat} (hk : k < n) (h1 : f k = 1) (h : ∀ j, j < n → j ≠ k → f j = 0) : sumN f n = 1 := by
  induction n with
  | zero => omega
  | succ n ih =>
    rcases Nat.lt_or_ge k n with h2 | h2
    · rw [sumN, ih h2 fun j hj hne => h j (by omega) hne, h n (by omega) (by omega)]
    · obtain rfl : k = n := by omega
      rw [sumN, sumN_zero fun j hj => h j (by omega) (by omega), h1]
theorem sumN_bd {f : Nat → Nat} {B : Nat} (h : ∀ k, f k ≤ B) (n : Nat) : sumN f n ≤ n * B := by
  induction n with
  | zero => simp [sumN]
  | succ n ih => rw [sumN, Nat.succ_mul]; have := h n; omega
/-- Both counts of a number. -/
def bothL (l : List Nat) (i : Nat) : Nat := cntL l (1, (i : Int)) + cntL l (2, (i : Int))
def bothS (t : Sh) (i : Nat) : Nat := cntS t (1, (i : Int)) + cntS t (2, (i : Int))
def nzL (l : List Nat) : Nat := l.countP fun x => decide (x ≠ 0)
def nzS (t : Sh) : Nat := (t.map nzL).sum
theorem cntL_cons (x : Nat) (l : List Nat) (a : Int × Int) : cntL (x :: l) a = cntL l a + if useW x = a then 1 else 0 := by
  simp only [cntL, List.countP_cons, decide_eq_true_eq]
theorem one_sum (x : Nat) (h : unpE x = 0) : sumN (fun i => (if useW x = (1, (i : Int)) then 1 else 0) + (if useW x = (2, (i : Int)) then 1 else 0)) 256 = if x ≠ 0 then 1 else 0 := by
  rcases ent_cases x h with ⟨e, hx⟩ | ⟨n, b, c, e, h0, h1⟩ | ⟨n, e, h0, h1⟩
  · have hu : useW x = (0, 0) := by simp [useW, useE, e]
    rw [if_neg (by omega)]
    refine sumN_zero fun k _ => ?_
    rw [hu, if_neg (by simp), if_neg (by simp)]
  · have hu : useW x = (1, n) := by simp [useW, useE, e]
    have hx : x ≠ 0 := by
      rintro rfl
      rw [entW_nil] at e
      simp at e
    rw [if_pos hx]
    refine sumN_one (k := n.toNat) (by omega) ?_ fun j hj hne => ?_
    · rw [hu, if_pos (by simp; omega), if_neg (by simp)]
    · rw [hu, if_neg (by simp; omega), if_neg (by simp)]
  · have hu : useW x = (2, n) := by simp [useW, useE, e]
    have hx : x ≠ 0 := by
      rintro rfl
      rw [entW_nil] at e
      simp at e
    rw [if_pos hx]
    refine sumN_one (k := n.toNat) (by omega) ?_ fun j hj hne => ?_
    · rw [hu, if_neg (by simp), if_pos (by simp; omega)]
    · rw [hu, if_neg (by simp), if_neg (by simp; omega)]
theorem sum_row (l : List Nat) (h : ∀ x ∈ l, unpE x = 0) : sumN (bothL l) 256 = nzL l := by
  induction l with
  | nil => exact sumN_zero fun k _ => rfl
  | cons x l ih =>
    have h1 := ih fun y hy => h y (by simp [hy])
    have h2 := one_sum x (h x (by simp))
    have h3 : sumN (bothL (x :: l)) 256 = sumN (fun i => bothL l i + ((if useW x = (1, (i : Int)) then 1 else 0) + (if useW x = (2, (i : Int)) then 1 else 0))) 256 :=
      sumN_congr fun k _ => by simp only [bothL, cntL_cons]; omega
    rw [h3, sumN_add, h1, h2, nzL, nzL, List.countP_cons]
    simp only [decide_eq_true_eq]
theorem sum_all (t : Sh) (h : ∀ l ∈ t, ∀ x ∈ l, unpE x = 0) : sumN (bothS t) 256 = nzS t := by
  induction t with
  | nil => exact sumN_zero fun k _ => rfl
  | cons l t ih =>
    have h1 := ih fun m hm => h m (by simp [hm])
    have h2 := sum_row l (h l (by simp))
    have h3 : sumN (bothS (l :: t)) 256 = sumN (fun i => bothL l i + bothS t i) 256 :=
      sumN_congr fun k _ => by simp only [bothS, bothL, cntS_cons]; omega
    rw [h3, sumN_add, h1, h2]
    simp [nzS]
theorem cntL_le_len (l : List Nat) (a : Int × Int) : cntL l a ≤ l.length := List.countP_le_length
theorem cntS_len {t : Sh} {m : Nat} (h : ∀ l ∈ t, l.length ≤ m) (a : Int × Int) : cntS t a ≤ t.length * m := by
  induction t with
  | nil => simp [cntS]
  | cons l t ih =>
    rw [cntS_cons, List.length_cons, Nat.succ_mul]
    have h1 := ih fun k hk => h k (by simp [hk])
    have h2 := h l (by simp)
    have h3 := cntL_le_len l a
    omega

/-! ### who shares -/
theorem cntL_take {l : List Nat} {n : Nat} (hn : n < l.length) (a : Int × Int) : cntL (l.take (n + 1)) a = cntL (l.take n) a + if useW (l.getD n 0) = a then 1 else 0 := by
  rw [List.take_add_one, List.getElem?_eq_getElem hn, List.getD_eq_getElem?_getD, List.getElem?_eq_getElem hn, cntL_append]
  simp [cntL, List.countP_cons]
theorem shRow_len (t : Sh) (i j a : Nat) : ∀ n, n ≤ (rowAt t a).length → (shRow t i j a n).length + (if a = i ∧ j < n then 1 else 0) = cntL ((rowAt t a).take n) (useW (wordAt t i j))
  | 0, _ => by simp [shRow, cntL]
  | n + 1, hn => by
    have h1 := shRow_len t i j a n (by omega)
    rw [cntL_take (by omega)]
    have h2 : (shRow t i j a (n + 1)).length = (shRow t i j a n).length + if shB t i j a n = true then 1 else 0 := by
      unfold shRow
      rw [List.range_succ, List.filter_append, List.length_map, List.length_map, List.length_append]
      by_cases hs : shB t i j a n = true
      · simp [hs]
      · simp [hs]
    have h3 : wordAt t a n = (rowAt t a).getD n 0 := rfl
    rw [h2, ← h3]
    by_cases hs : a = i ∧ n = j
    · obtain ⟨rfl, rfl⟩ := hs
      have : shB t a n a n = false := by simp [shB]
      rw [if_neg (by omega)] at h1
      rw [this, if_pos (⟨rfl, by omega⟩ : a = a ∧ n < n + 1), if_pos (rfl : useW (wordAt t a n) = useW (wordAt t a n)), if_neg (by decide)]
      omega
    · have : shB t i j a n = decide (useW (wordAt t a n) = useW (wordAt t i j)) := by
        unfold shB
        by_cases h5 : a = i
        · have h6 : n ≠ j := fun h6 => hs ⟨h5, h6⟩
          simp [h6]
        · simp [h5]
      rw [this]
      have h7 : (if a = i ∧ j < n + 1 then (1 : Nat) else 0) = if a = i ∧ j < n then 1 else 0 := by
        by_cases h5 : a = i
        · have h6 : n ≠ j := fun h6 => hs ⟨h5, h6⟩
          by_cases h8 : j < n
          · rw [if_pos ⟨h5, by omega⟩, if_pos ⟨h5, h8⟩]
          · rw [if_neg (by omega), if_neg (by omega)]
        · rw [if_neg (by omega), if_neg (by omega)]
      rw [h7]
      simp only [decide_eq_true_eq]
      omega
theorem shAll_len (t : Sh) (i j : Nat) (hj : j < (rowAt t i).length) : ∀ n, n ≤ t.length → (shAll t i j n).length + (if i < n then 1 else 0) = cntS (t.take n) (useW (wordAt t i j))
  | 0, _ => by simp [shAll, cntS]
  | n + 1, hn => by
    have h1 := shAll_len t i j hj n (by omega)
    have h2 := shRow_len t i j n (rowAt t n).length (Nat.le_refl _)
    rw [List.take_length] at h2
    have h3 : (shAll t i j (n + 1)).length = (shAll t i j n).length + (shRow t i j n (rowAt t n).length).length := by simp [shAll, List.range_succ]
    have h4 : cntS (t.take (n + 1)) (useW (wordAt t i j)) = cntS (t.take n) (useW (wordAt t i j)) + cntL (rowAt t n) (useW (wordAt t i j)) := by
      rw [List.take_add_one, List.getElem?_eq_getElem (by omega), cntS_append]
      have : rowAt t n = t[n] := by
        unfold rowAt
        rw [List.getD_eq_getElem?_getD, List.getElem?_eq_getElem (by omega)]
        rfl
      rw [this]
      simp [cntS]
    rw [h3, h4]
    by_cases hi : n = i
    · subst hi
      rw [if_pos ⟨rfl, hj⟩] at h2
      rw [if_neg (by omega)] at h1
      rw [if_pos (by omega)]
      omega
    · rw [if_neg (by omega)] at h2
      have : (if i < n + 1 then (1 : Nat) else 0) = if i < n then 1 else 0 := by
        by_cases h8 : i < n
        · rw [if_pos (by omega), if_pos h8]
        · rw [if_neg (by omega), if_neg h8]
      rw [this]
      omega
/-- As many as the count says, less itself. -/
theorem shAll_cnt {t : Sh} {i j : Nat} (hi : i < t.length) (hj : j < (rowAt t i).length) : (shAll t i j t.length).length + 1 = cntS t (useW (wordAt t i j)) := by
  have := shAll_len t i j hj t.length (Nat.le_refl _)
  rwa [if_pos hi, List.take_length] at this
theorem shAll_mem {t : Sh} {i j n : Nat} {p : Int × Int} (h : p ∈ shAll t i j n) : ∃ a b : Nat, p = ((a : Int), (b : Int)) ∧ a < n ∧ b < (rowAt t a).length ∧ useW (wordAt t a b) = useW (wordAt t i j) ∧ ¬ (a = i ∧ b = j) := by
  unfold shAll shRow at h
  obtain ⟨a, ha, h⟩ := List.mem_flatMap.1 h
  obtain ⟨b, hb, rfl⟩ := List.mem_map.1 h
  obtain ⟨hb1, hb2⟩ := List.mem_filter.1 hb
  refine ⟨a, b, rfl, by simpa using ha, by simpa using hb1, ?_⟩
  unfold shB at hb2
  simp only [Bool.and_eq_true, decide_eq_true_eq, Bool.not_eq_true', Bool.and_eq_false_iff, decide_eq_false_iff_not] at hb2
  exact ⟨hb2.1, fun e => hb2.2.elim (fun h => h e.1) (fun h => h e.2)⟩
theorem shAll_apart (t : Sh) (i j n : Nat) : (shAll t i j n).Pairwise fun p q => p ≠ q := by
  unfold shAll shRow
  rw [List.pairwise_flatMap]
  refine ⟨fun a _ => ?_, ?_⟩
  · rw [List.pairwise_map]
    refine (List.pairwise_lt_range).filter _ |>.imp ?_
    intro x y hxy e
    injection e with e1 e2
    omega
  · refine (List.pairwise_lt_range).imp ?_
    intro x y hxy p hp q hq e
    obtain ⟨b, _, rfl⟩ := List.mem_map.1 hp
    obtain ⟨c, _, rfl⟩ := List.mem_map.1 hq
    injection e with e1 e2
    omega
theorem shAll_ne {t : Sh} {i j n k q : Nat} {p : Int × Int} (hq : q < k) (h1 : (shAll t i j n)[k]? = some p) : (shAll t i j n)[q]? ≠ some p := by
  intro h2
  have h3 := List.pairwise_iff_getElem.1 (shAll_apart t i j n) q k (List.getElem?_eq_some_iff.1 h2).1 (List.getElem?_eq_some_iff.1 h1).1 hq
  rw [(List.getElem?_eq_some_iff.1 h2).2, (List.getElem?_eq_some_iff.1 h1).2] at h3
  exact h3 rfl

/-! ### words and rows of a sharing -/
theorem rowAt_set {t : Sh} {i : Nat} (l : List Nat) (hi : i < t.length) : rowAt (t.set i l) i = l := by
  unfold rowAt
  rw [List.getD_eq_getElem?_getD, List.getElem?_set_self hi]
  rfl
theorem rowAt_set_ne {t : Sh} {i k : Nat} (l : List Nat) (h : i ≠ k) : rowAt (t.set i l) k = rowAt t k := by
  unfold rowAt
  rw [List.getD_eq_getElem?_getD, List.getElem?_set_ne h, List.getD_eq_getElem?_getD]
theorem rowAt_app {t : Sh} {l : List Nat} {k : Nat} (hk : k < t.length) : rowAt (t ++ [l]) k = rowAt t k := by
  unfold rowAt
  rw [List.getD_eq_getElem?_getD, List.getElem?_append_left hk, List.getD_eq_getElem?_getD]
theorem rowAt_last (t : Sh) (l : List Nat) : rowAt (t ++ [l]) t.length = l := by
  unfold rowAt
  rw [List.getD_eq_getElem?_getD, List.getElem?_append_right (Nat.le_refl _), Nat.sub_self]
  rfl
theorem wordAt_setW {t : Sh} {i j y : Nat} (hi : i < t.length) (hj : j < (rowAt t i).length) : wordAt (setW t i j y) i j = y := by
  unfold wordAt setW
  rw [rowAt_set _ hi, List.getD_eq_getElem?_getD, List.getElem?_set_self hj]
  rfl
theorem wordAt_setW_ne {t : Sh} {i j y a b : Nat} (h : ¬ (a = i ∧ b = j)) : wordAt (setW t i j y) a b = wordAt t a b := by
  unfold wordAt setW
  by_cases h1 : i = a
  · subst h1
    by_cases hi : i < t.length
    · rw [rowAt_set _ hi, List.getD_eq_getElem?_getD, List.getElem?_set_ne (fun e => h ⟨rfl, e.symm⟩), List.getD_eq_getElem?_getD]
    · rw [List.set_eq_of_length_le (by omega)]
  · rw [rowAt_set_ne _ h1]
theorem wordAt_map {f : Nat → Nat} {t : Sh} {i j : Nat} (hi : i < t.length) (hj : j < (rowAt t i).length) : rowAt (t.map fun l => l.map f) i = (rowAt t i).map f ∧ wordAt (t.map fun l => l.map f) i j = f (wordAt t i j) := by
  have h1 : rowAt (t.map fun l => l.map f) i = (rowAt t i).map f := by
    unfold rowAt
    rw [List.getD_eq_getElem?_getD, List.getElem?_map, List.getElem?_eq_getElem hi, List.getD_eq_getElem?_getD, List.getElem?_eq_getElem hi]
    rfl
  refine ⟨h1, ?_⟩
  unfold wordAt
  rw [h1, List.getD_eq_getElem?_getD, List.getElem?_map, List.getElem?_eq_getElem hj, List.getD_eq_getElem?_getD, List.getElem?_eq_getElem hj]
  rfl
theorem wordAt_rowmap {f : Nat → Nat} {l : List Nat} {j : Nat} (hj : j < l.length) : (l.map f).getD j 0 = f (l.getD j 0) := by
  rw [List.getD_eq_getElem?_getD, List.getElem?_map, List.getElem?_eq_getElem hj, List.getD_eq_getElem?_getD, List.getElem?_eq_getElem hj]
  rfl
theorem setW_six {t : Sh} {i j y : Nat} (h : ∀ l ∈ t, l.length = 6) (hi : i < t.length) : ∀ l ∈ setW t i j y, l.length = 6 := by
  intro l hl
  obtain ⟨m, hm, e, _⟩ := mem_setW hl
  rw [e]
  rcases hm with hm | rfl
  · exact h m hm
  · exact h _ (rowAt_mem hi)
/-- No entry of a made sharing has a number from 50 on. -/
theorem MdV.none {t : Sh} (h : MdV t) (k n : Int) (hn : 50 ≤ n) : cntS t (k, n) = 0 := by
  rcases Nat.eq_zero_or_pos (cntS t (k, n)) with h0 | h0
  · exact h0
  · obtain ⟨l, hl, x, hx, e⟩ := (cntS_pos t (k, n)).1 h0
    have h1 := h.num l hl x hx
    have h2 : (entW x).2.1 = n := congrArg Prod.snd e
    omega
theorem MdV.take {t : Sh} (h : MdV t) (k : Nat) (hk : 1 ≤ k) : MdV (t.take k) := by
  have hs : ∀ l ∈ t.take k, l ∈ t := fun l hl => List.mem_of_mem_take hl
  have hc : ∀ a, cntS (t.take k) a ≤ cntS t a := fun a => by
    have := cntS_append (t.take k) (t.drop k) a
    rw [List.take_append_drop] at this
    omega
  have hlo := h.lo
  have hhi := h.hi
  have hvl := h.v.len
  refine ⟨⟨by simp; omega, fun l hl => h.v.row l (hs l hl), fun l hl => h.v.ok l (hs l hl), fun l hl x hx hw => ?_⟩, by simp; omega, by simp; omega, fun l hl => h.six l (hs l hl), fun l hl => h.num l (hs l hl)⟩
  have := h.v.wr l (hs l hl) x hx hw
  have := hc (useW x)
  omega

/-! ### both sides of a fork -/
def forkT (t : Sh) (i : Nat) : Sh := t.set i ((rowAt t i).map shareW) ++ [(rowAt t i).map childW]
theorem fork_ok {t : Sh} {i : Nat} (hv : ShV t) (hi : i < t.length) (h8 : t.length < 8) : forkR t i = (forkT t i, 0) := by
  unfold forkR
  have hE : forkE t i = 0 := by
    unfold forkE askT
    rw [orE_r _ (by rw [orE_r _ ((sh_iff t).2 hv), if_neg (by omega)]), if_neg (by omega)]
  rw [if_neg (by simp [hE])]
  simp only [Int.toNat_natCast]
  rfl
theorem fork_val {t : Sh} {i : Nat} (hv : ShV t) (hi : i < t.length) (h8 : t.length < 8) : ShV (forkT t i) := by
  have h := fork_ok hv hi h8
  have h1 := fork_valid (t := t) (table := i) (by
    unfold forkE askT
    rw [orE_r _ (by rw [orE_r _ ((sh_iff t).2 hv), if_neg (by omega)]), if_neg (by omega)])
  rwa [h] at h1
theorem forkT_len (t : Sh) (i : Nat) : (forkT t i).length = t.length + 1 := by simp [forkT]
theorem forkT_row {t : Sh} {i : Nat} (hi : i < t.length) : rowAt (forkT t i) i = (rowAt t i).map shareW ∧ rowAt (forkT t i) t.length = (rowAt t i).map childW := by
  unfold forkT
  refine ⟨by rw [rowAt_app (by simpa using hi), rowAt_set _ hi], ?_⟩
  have := rowAt_last (t.set i ((rowAt t i).map shareW)) ((rowAt t i).map childW)
  rwa [List.length_set] at this
theorem forkT_word {t : Sh} {i j : Nat} (hi : i < t.length) (hj : j < (rowAt t i).length) : wordAt (forkT t i) i j = shareW (wordAt t i j) ∧ wordAt (forkT t i) t.length j = childW (wordAt t i j) := by
  obtain ⟨h1, h2⟩ := forkT_row hi
  unfold wordAt
  rw [h1, h2]
  exact ⟨wordAt_rowmap hj, wordAt_rowmap hj⟩
/-- What a write needs behind a fork. -/
theorem fork_need {t : Sh} {i j : Nat} (hv : ShV t) (hi : i < t.length) (hj : j < (rowAt t i).length) :
    needR (forkT t i) (shareW (wordAt t i j)) = needR (forkT t i) (childW (wordAt t i j)) ∧
      ((entW (wordAt t i j)).1 = 1 → needR (forkT t i) (shareW (wordAt t i j)) = 4 ∧ ∃ n c, 0 ≤ n ∧ n ≤ 255 ∧ (entW (wordAt t i j)).2.1 = n ∧ entW (shareW (wordAt t i j)) = (1, n, false, true, c) ∧ entW (childW (wordAt t i j)) = (1, n, false, true, false)) ∧
      ((entW (wordAt t i j)).1 ≠ 1 → shareW (wordAt t i j) = wordAt t i j ∧ childW (wordAt t i j) = wordAt t i j) := by
  have hx := hv.ok _ (rowAt_mem hi) _ (wordAt_mem hj)
  by_cases hk : (entW (wordAt t i j)).1 = 1
  · rcases ent_cases _ hx with ⟨e, _⟩ | ⟨n, b, c, e, h0, h1⟩ | ⟨n, e, _⟩
    · rw [e] at hk; simp at hk
    · have hc := chk_own n false true c h0 h1 (by decide)
      have hc2 := chk_own n false true false h0 h1 (by decide)
      have e1 : shareW (wordAt t i j) = packE (1, n, false, true, c) := by unfold shareW; rw [e]; simp
      have e2 : childW (wordAt t i j) = packE (1, n, false, true, false) := by unfold childW; rw [e]; simp
      have hu : useW (wordAt t i j) = (1, n) := by simp [useW, useE, e]
      have hcnt : cntS (forkT t i) (1, n) = cntS t (1, n) + cntL (rowAt t i) (1, n) := fork_cnt hv hi _
      have hp : 0 < cntL (rowAt t i) (1, n) := (cntL_pos _ _).2 ⟨_, wordAt_mem hj, hu⟩
      have hle := cntL_le t i (1, n) hi
      have n4 : ∀ d, chkE (1, n, false, true, d) = 0 → needR (forkT t i) (packE (1, n, false, true, d)) = 4 := fun d hd => by
        have hu3 : useW (packE (1, n, false, true, d)) = (1, n) := useW_packE _ hd
        unfold needR
        rw [hu3, wrW, entW_packE _ hd]
        rw [if_neg (by simp), if_neg (by simp), if_neg (by simp), if_neg (by omega)]
      refine ⟨by rw [e1, e2, n4 c hc, n4 false hc2], fun _ => ⟨by rw [e1, n4 c hc], n, c, h0, h1, by rw [e], by rw [e1, entW_packE _ hc], by rw [e2, entW_packE _ hc2]⟩, fun h => absurd hk h⟩
    · rw [e] at hk; simp at hk
  · have e1 : shareW (wordAt t i j) = wordAt t i j := by unfold shareW; rw [if_neg hk]
    have e2 : childW (wordAt t i j) = wordAt t i j := by unfold childW; rw [if_neg hk]
    exact ⟨by rw [e1, e2], fun h => absurd h hk, fun _ => ⟨e1, e2⟩⟩
theorem dec_ok {t : Sh} {i j : Nat} (hv : ShV t) (hi : i < t.length) (hj : j < (rowAt t i).length) : decR t i j = (needR t (wordAt t i j), 0) := by
  unfold decR
  rw [if_neg (by simp [ask_ok hv hi hj])]
  simp only [Int.toNat_natCast]
theorem brk_ok {t : Sh} {i j : Nat} {frame : Int} (hv : ShV t) (hi : i < t.length) (hj : j < (rowAt t i).length) (h4 : needR t (wordAt t i j) = 4) (h0 : 0 ≤ frame) (h1 : frame ≤ 255) (hc : cntS t (1, frame) = 0) :
    brkR t i j frame = (setW t i j (packE (1, frame, true, false, false)), (entW (wordAt t i j)).2.1, 0) ∧ ShV (setW t i j (packE (1, frame, true, false, false))) := by
  have hE : brkE t i j frame = 0 := by
    unfold brkE
    rw [orE_r _ (ask_ok hv hi hj)]
    simp only [Int.toNat_natCast]
    rw [if_neg (by simp [h4]), if_neg (by omega), if_neg (by omega)]
  have hval := brk_valid hE
  have hR : brkR t i j frame = (setW t i j (packE (1, frame, true, false, false)), (entW (wordAt t i j)).2.1, 0) := by
    unfold brkR
    rw [if_neg (by simp [hE])]
    simp only [Int.toNat_natCast]
  rw [hR] at hval
  exact ⟨hR, hval⟩
theorem drop_ok {t : Sh} {i j : Nat} (hv : ShV t) (hi : i < t.length) (hj : j < (rowAt t i).length) :
    dropR t i j = (setW t i j 0, dropF t (wordAt t i j), dropS t (wordAt t i j), 0) ∧ ShV (setW t i j 0) := by
  have hval := drop_valid (ask_ok hv hi hj)
  have hR : dropR t i j = (setW t i j 0, dropF t (wordAt t i j), dropS t (wordAt t i j), 0) := by
    unfold dropR
    rw [if_neg (by simp [ask_ok hv hi hj])]
    simp only [Int.toNat_natCast]
  rw [hR] at hval
  exact ⟨hR, hval⟩
/-- The side that copies, and the other one. -/
theorem fork_sides {t : Sh} {i j : Nat} (h : MdV t) (h3 : t.length ≤ 3) (hi : i < t.length) (hj : j < 6) (hk : (entW (wordAt t i j)).1 = 1) :
    brkR (forkT t i) t.length j 200 = (setW (forkT t i) t.length j (packE (1, 200, true, false, false)), (entW (wordAt t i j)).2.1, 0) ∧
      (setW (forkT t i) t.length j (packE (1, 200, true, false, false))).length = t.length + 1 ∧
      wordAt (setW (forkT t i) t.length j (packE (1, 200, true, false, false))) i j = shareW (wordAt t i j) ∧
      decR (setW (forkT t i) t.length j (packE (1, 200, true, false, false))) t.length j = (2, 0) ∧ ShV (setW (forkT t i) t.length j (packE (1, 200, true, false, false))) := by
  have hr := h.row hi
  have hj' : j < (rowAt t i).length := by omega
  have hvf := fork_val h.v hi (by omega)
  have hlen := forkT_len t i
  obtain ⟨_, hl2⟩ := forkT_row hi
  obtain ⟨hw1, hw2⟩ := forkT_word hi hj'
  obtain ⟨n1, n2, _⟩ := fork_need h.v hi hj'
  obtain ⟨n4, n, c, h0, h1, en, e1, e2⟩ := n2 hk
  have hlj : j < (rowAt (forkT t i) t.length).length := by rw [hl2, List.length_map]; omega
  have hc0 : cntS (forkT t i) (1, 200) = 0 := by
    rw [show cntS (forkT t i) (1, 200) = cntS t (1, 200) + cntL (rowAt t i) (1, 200) from fork_cnt h.v hi _]
    have := h.none 1 200 (by decide)
    have := cntL_le t i (1, 200) hi
    omega
  obtain ⟨hb, hbv⟩ := brk_ok (frame := 200) hvf (by omega) hlj (by rw [hw2, ← n1, n4]) (by decide) (by decide) hc0
  have hchk := chk_own 200 true false false (by decide) (by decide) (by decide)
  have hlj2 : j < (rowAt (setW (forkT t i) t.length j (packE (1, 200, true, false, false))) t.length).length := by
    unfold setW
    rw [rowAt_set _ (by omega), List.length_set]
    exact hlj
  refine ⟨by rw [hb, hw2, e2, en], by rw [setW_len, hlen], by rw [wordAt_setW_ne (by omega), hw1], ?_, hbv⟩
  rw [dec_ok hbv (by rw [setW_len]; omega) hlj2, wordAt_setW (by omega) hlj]
  unfold needR
  rw [wrW, entW_packE _ hchk]
  rfl

/-! ### the last sharer -/
structure LastI (t : Sh) (i j : Nat) (n : Int) (L : List (Int × Int)) (k : Nat) (u : Sh) : Prop where
  v : ShV u
  len : u.length = t.length
  six : ∀ l ∈ u, l.length = 6
  same : ∀ a b : Nat, (∀ q, q < k → L[q]? ≠ some ((a : Int), (b : Int))) → wordAt u a b = wordAt t a b
  cnt : cntS u (1, n) + k = cntS t (1, n)
  fresh : ∀ q : Nat, k ≤ q → cntS u (1, 200 + (q : Int)) = 0
theorem LastI.zero {t : Sh} (h : MdV t) (i j : Nat) (n : Int) (L : List (Int × Int)) : LastI t i j n L 0 t :=
  ⟨h.v, rfl, h.six, fun a b _ => rfl, by omega, fun q _ => h.none 1 _ (by omega)⟩
section
variable {t u : Sh} {i j k : Nat} {n : Int} {p : Int × Int}
/-- What is known of the next sharer. -/
theorem LastI.at (h : MdV t) (hi : i < t.length) (hj : j < 6) (hu : useW (wordAt t i j) = (1, n)) (hI : LastI t i j n (shAll t i j t.length) k u) (hp : (shAll t i j t.length)[k]? = some p) :
    ∃ a b : Nat, p = ((a : Int), (b : Int)) ∧ a < t.length ∧ b < 6 ∧ a < u.length ∧ b < (rowAt u a).length ∧ ¬ (a = i ∧ b = j) ∧ useW (wordAt u a b) = (1, n) ∧ 0 ≤ n ∧ n < 50 ∧ needR u (wordAt u a b) = 4 ∧ k < 24 := by
  obtain ⟨a, b, rfl, ha, hb, hab, hne⟩ := shAll_mem (List.mem_of_getElem? hp)
  have hb6 : b < 6 := by have := h.row ha; omega
  have hau : a < u.length := by rw [hI.len]; exact ha
  have hbu : b < (rowAt u a).length := by have := hI.six _ (rowAt_mem hau); omega
  have hsame := hI.same a b fun q hq => shAll_ne hq hp
  have hx := hI.v.ok _ (rowAt_mem hau) _ (wordAt_mem hbu)
  have hkl := (List.getElem?_eq_some_iff.1 hp).1
  have hcnt := shAll_cnt hi (j := j) (by have := h.row hi; omega)
  rw [hu] at hcnt hab
  have h24 := cntS_len (m := 6) (t := t) (fun l hl => by rw [h.six l hl]; exact Nat.le_refl _) (1, n)
  have hhi := h.hi
  have hn2 : 2 ≤ cntS u (1, n) := by have := hI.cnt; omega
  have huu : useW (wordAt u a b) = (1, n) := by rw [hsame, hab]
  have hkind : (entW (wordAt u a b)).1 = 1 := congrArg Prod.fst huu
  have hnum : (entW (wordAt u a b)).2.1 = n := congrArg Prod.snd huu
  have hn50 : n < 50 := by
    rw [← hnum, hsame]
    exact h.num _ (rowAt_mem ha) _ (wordAt_mem hb)
  have hn0 : 0 ≤ n := by
    rcases ent_cases _ hx with ⟨e, _⟩ | ⟨m, b', c, e, h0, h1⟩ | ⟨m, e, h0, h1⟩
    · rw [e] at hkind; simp at hkind
    · rw [e] at hnum; simp at hnum; omega
    · rw [e] at hkind; simp at hkind
  refine ⟨a, b, rfl, ha, hb6, hau, hbu, hne, huu, hn0, hn50, ?_, by omega⟩
  have hw : wrW (wordAt u a b) ≠ true := fun hw => by
    have := hI.v.wr _ (rowAt_mem hau) _ (wordAt_mem hbu) hw
    rw [huu] at this
    omega
  unfold needR
  rw [huu, if_neg (by rw [hkind]; decide), if_neg (by rw [hkind]; decide), if_neg hw, if_neg (by omega)]
theorem LastI.next (h : MdV t) (hi : i < t.length) (hj : j < 6) (hu : useW (wordAt t i j) = (1, n)) (hI : LastI t i j n (shAll t i j t.length) k u) {a b y : Nat} (hp : (shAll t i j t.length)[k]? = some ((a : Int), (b : Int)))
    (hau : a < u.length) (hbu : b < (rowAt u a).length) (huu : useW (wordAt u a b) = (1, n)) (hv : ShV (setW u a b y)) (hn50 : n < 50)
    (hy : useW y = (0, 0) ∨ useW y = (1, 200 + (k : Int))) : LastI t i j n (shAll t i j t.length) (k + 1) (setW u a b y) := by
  have hcnt := fun c => cntS_setW u a b y c hau hbu
  refine ⟨hv, by rw [setW_len, hI.len], setW_six hI.six hau, fun c d hcd => ?_, ?_, fun q hq => ?_⟩
  · have hne : ¬ (c = a ∧ d = b) := by
      rintro ⟨rfl, rfl⟩
      exact hcd k (by omega) hp
    rw [wordAt_setW_ne hne]
    exact hI.same c d fun q hq => hcd q (by omega)
  · have h1 := hcnt (1, n)
    rw [if_pos huu] at h1
    have h2 : ¬ useW y = (1, n) := by
      rcases hy with e | e <;> rw [e] <;> simp
      omega
    rw [if_neg h2] at h1
    have := hI.cnt
    omega
  · have h1 := hcnt (1, 200 + (q : Int))
    have h2 : ¬ useW y = (1, 200 + (q : Int)) := by
      rcases hy with e | e <;> rw [e] <;> simp
      omega
    rw [if_neg h2] at h1
    have := hI.fresh q (by omega)
    omega
theorem LastI.drop (h : MdV t) (hi : i < t.length) (hj : j < 6) (hu : useW (wordAt t i j) = (1, n)) (hI : LastI t i j n (shAll t i j t.length) k u) {a b : Nat} (hp : (shAll t i j t.length)[k]? = some ((a : Int), (b : Int))) :
    (dropR u a b).2.2.2 = 0 ∧ LastI t i j n (shAll t i j t.length) (k + 1) (dropR u a b).1 := by
  obtain ⟨a', b', e, _, _, hau, hbu, _, huu, _, hn50, _⟩ := hI.at h hi hj hu hp
  injection e with e1 e2
  obtain rfl : a = a' := by omega
  obtain rfl : b = b' := by omega
  obtain ⟨hd, hv⟩ := drop_ok hI.v hau hbu
  rw [hd]
  exact ⟨rfl, hI.next h hi hj hu hp hau hbu huu hv hn50 (.inl (by decide))⟩
theorem LastI.brk (h : MdV t) (hi : i < t.length) (hj : j < 6) (hu : useW (wordAt t i j) = (1, n)) (hI : LastI t i j n (shAll t i j t.length) k u) {a b : Nat} (hp : (shAll t i j t.length)[k]? = some ((a : Int), (b : Int))) :
    (brkR u a b (200 + (k : Int))).2.2 = 0 ∧ LastI t i j n (shAll t i j t.length) (k + 1) (brkR u a b (200 + (k : Int))).1 := by
  obtain ⟨a', b', e, _, _, hau, hbu, _, huu, _, hn50, h4, h24⟩ := hI.at h hi hj hu hp
  injection e with e1 e2
  obtain rfl : a = a' := by omega
  obtain rfl : b = b' := by omega
  obtain ⟨hd, hv⟩ := brk_ok (frame := 200 + (k : Int)) hI.v hau hbu h4 (by omega) (by omega) (hI.fresh k (Nat.le_refl _))
  rw [hd]
  exact ⟨rfl, hI.next h hi hj hu hp hau hbu huu hv hn50 (.inr (useW_packE _ (chk_own _ _ _ _ (by omega) (by omega) (by decide))))⟩
theorem LastI.done (h : MdV t) (hi : i < t.length) (hj : j < 6) (hu : useW (wordAt t i j) = (1, n)) (hw : wrW (wordAt t i j) = false) (hI : LastI t i j n (shAll t i j t.length) (shAll t i j t.length).length u) : decR u i j = (3, 0) := by
  have hiu : i < u.length := by rw [hI.len]; exact hi
  have hju : j < (rowAt u i).length := by have := hI.six _ (rowAt_mem hiu); omega
  have hsame := hI.same i j fun q hq e => by
    obtain ⟨a, b, e2, _, _, _, hne⟩ := shAll_mem (List.mem_of_getElem? e)
    injection e2 with e3 e4
    exact hne ⟨by omega, by omega⟩
  have hcnt := shAll_cnt hi (j := j) (by have := h.row hi; omega)
  rw [hu] at hcnt
  have h1 := hI.cnt
  rw [dec_ok hI.v hiu hju]
  have hkind : (entW (wordAt t i j)).1 = 1 := congrArg Prod.fst hu
  unfold needR
  rw [hsame, hu, hw, if_neg (by rw [hkind]; decide), if_neg (by rw [hkind]; decide), if_neg (by decide), if_pos (by omega)]
end
/-! ### evictions -/
def outT (t : Sh) (n : Int) : Sh := t.map fun l => l.map (outW n 250)
theorem evict {t : Sh} {i j : Nat} {n : Int} (h : MdV t) (hi : i < t.length) (hj : j < 6) (hu : useW (wordAt t i j) = (1, n)) :
    outR t n 250 = (outT t n, (((shL t i j).length + 1 : Nat) : Int), 0) ∧ ShV (outT t n) ∧ (outT t n).length = t.length ∧ (∀ l ∈ outT t n, l.length = 6) ∧ shL (outT t n) i j = shL t i j ∧ entW (wordAt (outT t n) i j) = (2, 250, false, false, false) := by
  have hr := h.row hi
  have hj' : j < (rowAt t i).length := by omega
  have hx := h.v.ok _ (rowAt_mem hi) _ (wordAt_mem hj')
  have hkind : (entW (wordAt t i j)).1 = 1 := congrArg Prod.fst hu
  have hnum : (entW (wordAt t i j)).2.1 = n := congrArg Prod.snd hu
  have hn50 : n < 50 := by
    rw [← hnum]
    exact h.num _ (rowAt_mem hi) _ (wordAt_mem hj')
  have hn0 : 0 ≤ n := by
    rcases ent_cases _ hx with ⟨e, _⟩ | ⟨m, b', c, e, h0, h1⟩ | ⟨m, e, h0, h1⟩
    · rw [e] at hkind; simp at hkind
    · rw [e] at hnum; simp at hnum; omega
    · rw [e] at hkind; simp at hkind
  have hpos : 0 < cntS t (1, n) := (cntS_pos t _).2 ⟨_, rowAt_mem hi, _, wordAt_mem hj', hu⟩
  have hz := h.none 2 250 (by decide)
  have hE : outE2 t n 250 = 0 := by
    unfold outE2
    rw [orE_r _ ((sh_iff t).2 h.v), if_neg (by omega), if_neg (by omega), if_neg (by omega)]
  have hval := out_valid hE
  have hcnt := shAll_cnt hi hj'
  rw [hu] at hcnt
  have hsl : shL t i j = shAll t i j t.length := by unfold shL; rw [if_neg (by rw [hkind]; decide)]
  have hR : outR t n 250 = (outT t n, (((shL t i j).length + 1 : Nat) : Int), 0) := by
    unfold outR
    rw [if_neg (by simp [hE]), hsl, hcnt]
    rfl
  rw [hR] at hval
  have hlen : (outT t n).length = t.length := by simp [outT]
  have hent : entW (wordAt (outT t n) i j) = (2, 250, false, false, false) := by
    unfold outT
    rw [(wordAt_map hi hj').2]
    unfold outW
    rw [if_pos hu, entW_packE _ (chk_slot 250 (by decide) (by decide))]
  have hno : ∀ a b, a < t.length → b < (rowAt t a).length → useW (wordAt t a b) ≠ (2, 250) := fun a b ha hb e => by
    have : 0 < cntS t (2, 250) := (cntS_pos t _).2 ⟨_, rowAt_mem ha, _, wordAt_mem hb, e⟩
    omega
  refine ⟨hR, hval, hlen, fun l hl => ?_, ?_, hent⟩
  · obtain ⟨m, hm, rfl⟩ := List.mem_map.1 hl
    rw [List.length_map]
    exact h.six m hm
  · rw [hsl]
    unfold shL
    rw [hent, if_neg (by decide), hlen]
    unfold shAll
    have key : ∀ a ∈ List.range t.length, shRow (outT t n) i j a (rowAt (outT t n) a).length = shRow t i j a (rowAt t a).length := by
      intro a ha
      have ha' : a < t.length := by simpa using ha
      have hrow : rowAt (outT t n) a = (rowAt t a).map (outW n 250) := by
        unfold outT rowAt
        rw [List.getD_eq_getElem?_getD, List.getElem?_map, List.getElem?_eq_getElem ha', List.getD_eq_getElem?_getD, List.getElem?_eq_getElem ha']
        rfl
      rw [hrow, List.length_map]
      unfold shRow
      congr 1
      refine List.filter_congr fun b hb => ?_
      have hb' : b < (rowAt t a).length := by simpa using hb
      unfold shB
      congr 1
      have e1 : wordAt (outT t n) a b = outW n 250 (wordAt t a b) := (wordAt_map ha' hb').2
      have e2 : wordAt (outT t n) i j = outW n 250 (wordAt t i j) := (wordAt_map hi hj').2
      rw [e1, e2, useW_outW _ _ _ (by decide) (by decide), useW_outW _ _ _ (by decide) (by decide), hu, if_pos rfl]
      by_cases h1 : useW (wordAt t a b) = (1, n)
      · rw [if_pos h1, h1]
        simp
      · rw [if_neg h1]
        have h2 := hno a b ha' hb'
        simp [h1, h2]
    rw [List.flatMap_def, List.flatMap_def, List.map_congr_left key]
end Go.Proofs.YtomndlnfidkdcaaDoor
/- headgateref26.Fork: the loop's invariant. No walk here. -/
namespace Go.Proofs.YtomndlnfidkdcaaDoor
open Go Go.Proofs Go.RowKit Go.Maps
set_option linter.unusedSimpArgs false
set_option linter.unusedVariables false

/-- In the loop of the reference's Fork: k words of the copy and p words of the child are changed. -/
structure QkI (w : World) (t : Sh) (i ga n c' m : Nat) (Ac : Option Addr) (cc : Nat) (vs : List Value) (k p : Nat) (wr : World) : Prop where
  u : WOv wr w.heap.size (.slice (some ⟨ga, 0, none⟩) n c') (t.set i (mixL shareW (rowAt t i) (rowAt t i) k)) vs
  ch : wr.ownsRow w.heap.size 52 1 (.slice Ac m cc) m (uw (mixL childW (rowAt t i) (rowAt t i) p))
  b : Below w.heap.size w wr
def QkV (w : World) (t : Sh) (i ga n c' m : Nat) (Ac : Option Addr) (cc : Nat) (vs : List Value) (v : Value) (wr : World) : Prop := ∃ k : Nat, k ≤ m ∧ v = .int .i64 k ∧ QkI w t i ga n c' m Ac cc vs k k wr
/-- What does not change in the loop. -/
structure QkC (w : World) (t : Sh) (i ga n c' m g gc : Nat) (vs : List Value) (cR : Nat) : Prop where
  i_lt : i < t.length
  len : t.length = n
  m_eq : (rowAt t i).length = m
  row : vs[i]? = some (.slice (some ⟨g, 0, none⟩) m cR)
  off : ga ≠ gc
  offs : ∀ (j : Nat) (r : Value), vs[j]? = some r → r.ownBlock ≠ some gc
  lo : w.heap.size ≤ g
  loc : w.heap.size ≤ gc
section
variable {w w1 w2 : World} {t : Sh} {i ga n c' m g gc cc cR k p x : Nat} {Ac : Option Addr} {vs : List Value}
theorem QkI.to (h : QkI w t i ga n c' m Ac cc vs k p w1) (hb : Below w1.heap.size w1 w2) : QkI w t i ga n c' m Ac cc vs k p w2 :=
  ⟨h.u.to hb, own_below h.ch hb, bnext h.b hb⟩
theorem QkI.skip (h : QkI w t i ga n c' m Ac cc vs k k w1) (hx : (rowAt t i)[k]? = some x) (hk : (entW x).1 ≠ 1) : QkI w t i ga n c' m Ac cc vs (k + 1) (k + 1) w1 := by
  have h1 : shareW x = x := by unfold shareW; rw [if_neg hk]
  have h2 : childW x = x := by unfold childW; rw [if_neg hk]
  exact ⟨by rw [← mixL_keep hx h1]; exact h.u, by rw [← mixL_keep hx h2]; exact h.ch, h.b⟩
/-- The blocks lie below the world's end. -/
theorem QkI.lt (C : QkC w t i ga n c' m g gc vs cR) (h : QkI w t i ga n c' m (some ⟨gc, 0, none⟩) cc vs k p w1) : ga < w1.heap.size ∧ g < w1.heap.size ∧ gc < w1.heap.size ∧ ∀ (j : Nat) (r : Value) (b : Nat), vs[j]? = some r → r.ownBlock = some b → b < w1.heap.size :=
  ⟨(h.u.outer.lt ga rfl).2, (h.u.row_lt C.row rfl).2, (h.ch.lt gc rfl).2, fun j r b hr hb => (h.u.row_lt hr hb).2⟩
/-- A store into another block. -/
theorem QkI.far (C : QkC w t i ga n c' m g gc vs cR) (h : QkI w t i ga n c' m (some ⟨gc, 0, none⟩) cc vs k p w1) {b : Nat} (o : Nat) (v : Value) (h1 : b ≠ ga) (h2 : b ≠ gc) (h3 : ∀ (j : Nat) (r : Value), vs[j]? = some r → r.ownBlock ≠ some b) (h4 : w.heap.size ≤ b) :
    QkI w t i ga n c' m (some ⟨gc, 0, none⟩) cc vs k p (w1.setCell ⟨b, o, none⟩ v) :=
  ⟨h.u.far (setW_grown w1 b o v) (fun e => h1 (Option.some.inj e).symm) h3, own_kept h.ch (setW_grown w1 b o v) (fun g e1 e2 => h2 (Option.some.inj (e2.trans e1.symm))), h.b.setCell (p := ⟨b, o, none⟩) h4 v⟩
/-- What the walk wants of the copy. -/
theorem QkI.facts (C : QkC w t i ga n c' m g gc vs cR) (h : QkI w t i ga n c' m (some ⟨gc, 0, none⟩) cc vs k p w1) (hx : (rowAt t i)[k]? = some x) :
    w1.cell? ⟨ga, i, none⟩ = some (.slice (some ⟨g, 0, none⟩) m cR) ∧ (∀ o, w1.frozen? ⟨g, o, none⟩ = false) ∧ w1.cell? ⟨g, k, none⟩ = some (.int .u64 (x : Int)) ∧
      ∀ y : Nat, y = shareW x → QkI w t i ga n c' m (some ⟨gc, 0, none⟩) cc vs (k + 1) p (w1.setCell ⟨g, k, none⟩ (.int .u64 (y : Int))) := by
  have hkm : k < (rowAt t i).length := (List.getElem?_eq_some_iff.1 hx).1
  have hlen : (t.set i (mixL shareW (rowAt t i) (rowAt t i) k)).length = n := by rw [List.length_set]; exact C.len
  have hdi : (t.set i (mixL shareW (rowAt t i) (rowAt t i) k))[i]? = some (mixL shareW (rowAt t i) (rowAt t i) k) := List.getElem?_set_self C.i_lt
  have hmk : (mixL shareW (rowAt t i) (rowAt t i) k)[k]? = some x := (mixL_at rfl (by omega)).trans hx
  obtain ⟨a1, a2, _, _, a3⟩ := h.u.put_at hlen hdi hmk C.row
  refine ⟨h.u.cell hlen C.row, a1, a2, ?_⟩
  rintro y rfl
  have h3 := a3 (shareW x)
  rw [mixL_set rfl hx, List.set_set] at h3
  exact ⟨h3, own_kept h.ch (setW_grown w1 g k _) (fun b e1 e2 => C.offs i _ C.row (e2.trans e1.symm)), h.b.setCell (p := ⟨g, k, none⟩) C.lo _⟩
/-- What the walk wants of the child. -/
theorem QkI.child (C : QkC w t i ga n c' m g gc vs cR) (h : QkI w t i ga n c' m (some ⟨gc, 0, none⟩) cc vs k p w1) (hx : (rowAt t i)[p]? = some x) :
    (∀ o, w1.frozen? ⟨gc, o, none⟩ = false) ∧ w1.cell? ⟨gc, p, none⟩ = some (.int .u64 (x : Int)) ∧
      ∀ y : Nat, y = childW x → QkI w t i ga n c' m (some ⟨gc, 0, none⟩) cc vs k (p + 1) (w1.setCell ⟨gc, p, none⟩ (.int .u64 (y : Int))) := by
  have hpm : p < (rowAt t i).length := (List.getElem?_eq_some_iff.1 hx).1
  have hmk : (mixL childW (rowAt t i) (rowAt t i) p)[p]? = some x := (mixL_at rfl (by omega)).trans hx
  obtain ⟨a1, a2, a3⟩ := ownW_put h.ch (by rw [mixL_len rfl (by omega)]; exact C.m_eq) hmk
  refine ⟨a1, a2, ?_⟩
  rintro y rfl
  have h3 := a3 (childW x)
  rw [mixL_set rfl hx] at h3
  exact ⟨h.u.far (setW_grown w1 gc p _) (fun e => C.off (Option.some.inj e)) C.offs, h3, h.b.setCell (p := ⟨gc, p, none⟩) C.loc _⟩
end
theorem WOv.less {w : World} {base base' : Nat} {vu : Value} {U : Sh} {vs : List Value} (h : WOv w base vu U vs) (hb : base' ≤ base) : WOv w base' vu U vs :=
  ⟨own_less h.outer hb, fun i l hl => by
    obtain ⟨r, hr, ho⟩ := h.rows i l hl
    exact ⟨r, hr, own_less ho hb⟩, h.off, h.apart⟩
theorem askQ_table (t : Sh) (table : Int) : askQ t table (-1) = askT t table := by
  unfold askQ askT
  congr 1
  by_cases h : table < 0 ∨ (t.length : Int) ≤ table
  · rw [if_pos h, if_pos (by omega)]
  · rw [if_neg h, if_neg (by omega)]
end Go.Proofs.YtomndlnfidkdcaaDoor
/- headgateref26.Fork. -/
namespace Go.Proofs.YtomndlnfidkdcaaDoor
open Go Go.Proofs Go.RowKit Go.Maps
set_option linter.unusedSimpArgs false
set_option linter.unusedVariables false
set_option maxRecDepth 100000

set_option maxHeartbeats 8000000 in
theorem qFork_any (A : Option Addr) (n c : Nat) (t : Sh) (table : Int) (w : World) (h : InS w A n t) :
    Calls Tryd.prog 14 #[.slice A n c, .int .i64 table] w fun e w' => TkO (forkR t table) w w' e := by
  have hq := qAsked_any A n c t table (-1) w h
  rw [askQ_table] at hq
  have HC := Lib.hid hq
  have HIN := Lib.hid h
  have hn := h.few
  have Hlen := Lib.hid h.rr.len
  clear h hq
  by_cases h0 : askT t table = 0
  · have hck := HC.out
    rw [h0] at hck
    have HC0 := Lib.hid hck
    obtain ⟨hsh, hrg⟩ := orE_zero h0
    have hv := (sh_iff t).1 hsh
    have hrg2 : 0 ≤ table ∧ table < (n : Int) := by
      rw [← Hlen.out]
      split at hrg
      · omega
      · omega
    obtain ⟨i, rfl⟩ : ∃ i : Nat, table = i := ⟨table.toNat, by omega⟩
    have hin : i < n := by omega
    have hi : i < t.length := by rw [Hlen.out]; exact hin
    clear hck HC hsh hrg hrg2
    by_cases h8 : n = 8
    · have HRR : Hid (forkR t i = ([], 5)) := Lib.hid (by
        have hE : forkE t i = 5 := by unfold forkE; rw [orE_r _ h0, if_pos (by rw [Hlen.out]; exact h8)]
        unfold forkR
        rw [if_pos (by rw [hE]; decide), hE])
      subst h8
      clear h0 hv hi
      go_enter Tryd.func14, Tryd.ntmps14
      go_wp2_with fail
      refine HC0.out.mono ?_
      rintro e w1 ⟨rfl, hb1⟩
      go_wp2
      go_ret2
      rw [HRR.out]
      exact ⟨⟨_, rfl, ShO.nil _⟩, hb1⟩
    have HRR : Hid (forkR t i = (forkT t i, 0)) := Lib.hid (fork_ok hv hi (by have := hv.len; rw [Hlen.out] at this ⊢; omega))
    have hb8 : ((n : Int) == 8) = false := by simp; omega
    have HV := Lib.hid hv
    obtain ⟨bA, off, B, cB, rfl, hbl, hcell, hRl, hqt, hl70, hsm⟩ := HIN.out.at hin
    obtain ⟨m, hm⟩ : ∃ m, m = (rowAt t i).length := ⟨_, rfl⟩
    have HM := Lib.hid hm
    rw [← hm] at hcell hl70
    have HCELL := Lib.hid hcell
    have hrow : t[i]? = some (rowAt t i) := by
      unfold rowAt
      rw [List.getD_eq_getElem?_getD, List.getElem?_eq_getElem hi]
      rfl
    have HROW := Lib.hid hrow
    have HI := Lib.hid hi
    have hn7 : n ≤ 8 := by have := hv.len; rw [Hlen.out] at this; omega
    have hin2 : (i : Int) < (n : Int) := by omega
    have HRL := Lib.hid hRl
    have HSM := Lib.hid hsm
    obtain ⟨i0, hi0, hz0, hz1, hz2⟩ := info_parts infoWd
    obtain ⟨i1, hi1, hy0, hy1, hy2⟩ := info_parts infoSl
    clear h0 hv h8 hRl hsm hm hrow hcell hi hqt
    go_enter Tryd.func14, Tryd.ntmps14
    go_wp2_with fail
    refine HC0.out.mono ?_
    rintro e w1 ⟨rfl, hb1⟩
    go_wp2_with fail
    refine (qOwn_any _ n c t w1 (HIN.out.to hb1)).mono ?_
    rintro e w2 ⟨v2, rfl, ⟨vs, hW⟩, hb2⟩
    have hB2 := bnext hb1 hb2
    have hsz := hb1.size
    have hsz2 := hb2.size
    obtain ⟨ga, capa, rfl, hba, hla⟩ := hW.outer.form (by rw [Hlen.out]; omega)
    rw [Hlen.out] at hW ⊢
    obtain ⟨r, hr, ho⟩ := hW.rows i _ HROW.out
    have hcell2 := (hB2.cell (p := ⟨bA, off + i, none⟩) hbl).trans HCELL.out
    have hbl2 : bA < w2.heap.size := Nat.lt_of_lt_of_le hbl hB2.size
    have HW := Lib.hid hW
    have HR := Lib.hid hr
    have HO := Lib.hid ho
    have HB2 := Lib.hid hB2
    clear hW hr ho hb1 hb2 hB2
    go_wp2_with (at_builtin; refine wpList_append_rd _ rfl _ _ 54 rfl w2.heap.size 52 i0 (.int .u64 0) 1 8 Tryd.underlying54 hi0 hz0 hz1 hz2 rfl (by decide) _ _ _ rfl (own_empty w2 52 1) _ m cB (uw (rowAt t i)) rfl (by rw [HM.out]; exact (HRL.out.below HB2.out (Nat.le_refl _)).alloc _) (uw_one _) (by have := hl70; simp only [maxLen]; omega) (by have := hl70; omega) (by simp) ?_; intro v' w3 hown' hgrow; rw [Nat.zero_add, List.nil_append] at hown'; obtain ⟨Ac, cc, rfl, hRc⟩ := own_slice hown'; have HCH := Lib.hid hown'; have hb3 : Below w2.heap.size w2 w3 := (((Below.refl _ w2).alloc (Nat.le_refl _) _).grown hgrow (by simp) (fun k e => by cases e; exact Nat.le_refl _)); have HB3 := Lib.hid hb3; clear hown' hRc hgrow hb3 hcell2)
    obtain ⟨B, cR, rfl, hRB⟩ := own_slice HO.out
    have hset : t.set i (rowAt t i) = t := by
      obtain ⟨h3, h4⟩ := List.getElem?_eq_some_iff.1 HROW.out
      conv => lhs; rw [← h4]
      rw [List.set_getElem_self]
    have hst : QkI w t i ga n capa m Ac cc vs 0 0 w3 :=
      ⟨by rw [mixL_zero, hset]; exact (HW.out.to HB3.out).less hsz, by rw [mixL_zero]; exact own_less HCH.out HB2.out.size, bnext HB2.out HB3.out⟩
    have HST := Lib.hid hst
    have HCL : Hid (∀ g, (Value.slice Ac m cc).ownBlock = some g → w2.heap.size ≤ g) := Lib.hid fun g h1 => (HCH.out.lt g h1).1
    have HVL : Hid (∀ (j : Nat) (r : Value) (g : Nat), vs[j]? = some r → r.ownBlock = some g → g < w2.heap.size) := Lib.hid fun j r g h1 h2 => (HW.out.row_lt h1 h2).2
    have hrf : (m = 0) ∨ ∃ g gc, B = some ⟨g, 0, none⟩ ∧ Ac = some ⟨gc, 0, none⟩ ∧ QkC w t i ga n capa m g gc vs cR := by
      rcases Nat.eq_zero_or_pos m with h1 | h1
      · exact .inl h1
      · obtain ⟨g, cR', h2, h3, h4⟩ := HO.out.form (by rw [← HM.out]; exact h1)
        obtain ⟨gc, cc', h5, h6, h7⟩ := HCH.out.form h1
        injection h2 with h2 _ h2'
        injection h5 with h5 _ _
        have hr := HR.out
        rw [h2, ← HM.out] at hr
        exact .inr ⟨g, gc, h2, h5, HI.out, Hlen.out, HM.out.symm, hr, by omega, fun j r hj e1 => by have := HVL.out j r gc hj e1; omega, by omega, by omega⟩
    have HRF := Lib.hid hrf
    have HG := Lib.hid hla
    clear hst hset hrf hRB hba
    go_wp2
    go_loopw [9] (QkV w t i ga n capa m Ac cc vs) (fun i _ => m - (intOf i).toNat)
    case atStart => exact ⟨0, Nat.zero_le _, rfl, HST.out⟩
    case round =>
      obtain ⟨k, hk, rfl, hI⟩ := hrel
      by_cases hlt : k < m
      · rcases HRF.out with h1 | ⟨g, gc, rfl, rfl, C⟩
        · exact absurd hlt (by omega)
        obtain ⟨x, hx⟩ : ∃ x, (rowAt t i)[k]? = some x := ⟨_, List.getElem?_eq_getElem (by rw [← HM.out]; exact hlt)⟩
        obtain ⟨fzc, hxc, _⟩ := hI.child C hx
        obtain ⟨hga, hgg, hgc, _⟩ := QkI.lt C hI
        have hxs : x < 18446744073709551616 := HSM.out x (List.mem_of_getElem? hx)
        have hunp : unpE x = 0 := HV.out.ok _ (rowAt_mem HI.out) _ (List.mem_of_getElem? hx)
        rcases hent : entW x with ⟨k0, n0, a0, b0, c0⟩
        have hshc := share_chk x hunp
        rw [hent] at hshc
        have HSHC := Lib.hid hshc
        have HENT := Lib.hid hent
        have HX := Lib.hid hx
        have HI2 := Lib.hid hI
        have HC := Lib.hid C
        have hlt2 : (k : Int) < (m : Int) := by omega
        clear hent hx hI fzc hshc hunp C
        go_wp2_with fail
        refine (rEntry_any x wr hxs k0 n0 a0 b0 c0 HENT.out).mono ?_
        rintro e w4 ⟨rfl, hb4⟩
        have HI4 := Lib.hid (HI2.out.to hb4)
        have HX4 := Lib.hid (QkI.lt HC.out HI4.out)
        have hlw4 := HI4.out.b.size
        clear hxc hga hgg hgc hb4
        by_cases hk1 : k0 = 1
        · subst hk1
          have HSW := Lib.hid (show packE (1, n0, false, true, c0) = shareW x from HSHC.out.2.2.1)
          have HCW := Lib.hid (show packE (1, n0, false, true, false) = childW x from HSHC.out.2.2.2)
          have HK1 := Lib.hid (show chkE (1, n0, false, true, c0) = 0 from HSHC.out.1)
          have HK2 := Lib.hid (show chkE (1, n0, false, true, false) = 0 from HSHC.out.2.1)
          go_wp2_with fail
          have hA5 : Below w4.heap.size w4 (w4.alloc (.cells #[.int .i64 1, .int .i64 n0, .bool false, .bool true, .bool c0] 61)) := balloc (Below.refl _ _) _
          have kE := Bk.new w4 #[.int .i64 1, .int .i64 n0, .bool false, .bool true, .bool c0] 61
          have HI5 := Lib.hid (HI4.out.to hA5)
          have hgeg : w4.heap.size ≠ g := by have := HX4.out.2.1; omega
          have hgag : ga ≠ g := fun e1 => HW.out.off i _ g HC.out.row rfl (by rw [← e1]; rfl)
          have hgl : g < w4.heap.size := HX4.out.2.1
          clear hA5
          generalize w4.alloc (.cells #[.int .i64 1, .int .i64 n0, .bool false, .bool true, .bool c0] 61) = w5 at *
          obtain ⟨hrc, _, _, _⟩ := HI5.out.facts HC.out HX.out
          have g0 := kE.cell 0
          have g1 := kE.cell 1
          have g2 := kE.cell 2
          have g3 := kE.cell 3
          have g4 := kE.cell 4
          simp at g0 g1 g2 g3 g4
          go_region_held3 (fun w' => w'.cell? ⟨w4.heap.size, 0, none⟩ = some (.int .i64 1) ∧ w'.cell? ⟨w4.heap.size, 1, none⟩ = some (.int .i64 n0) ∧ w'.cell? ⟨w4.heap.size, 2, none⟩ = some (.bool false) ∧ w'.cell? ⟨w4.heap.size, 3, none⟩ = some (.bool true) ∧ w'.cell? ⟨w4.heap.size, 4, none⟩ = some (.bool c0) ∧ w'.cell? ⟨ga, i, none⟩ = some (.slice (some ⟨g, 0, none⟩) m cR))
            (refine ⟨?_, ?_, ?_, ?_, ?_, ?_⟩ <;> (repeat (with_reducible first | exact g0 | exact g1 | exact g2 | exact g3 | exact g4 | exact hrc | exact hgeg | exact hgag | refine cell_drew ?_ | refine cell_farB ?_ ?_ _ | refine cell_later hb7 ?_)))
            (first
              | (go_at_call 49; refine (rWord_any (1, n0, false, true, c0) _ HK1.out).mono ?_; rintro e w7 ⟨rfl, hb7⟩; have HB7 := Lib.hid (bnext (below_drew (Below.refl _ _)) hb7); obtain ⟨_, fz, r0, hput⟩ := (HI5.out.to HB7.out).facts HC.out HX.out))
          have HI8 := Lib.hid (hput _ HSW.out)
          have kE8 := (kE.to HB7.out).far (p := ⟨g, k, none⟩) hgeg (.int .u64 ((packE (1, n0, false, true, c0) : Nat) : Int))
          clear hput fz r0 hb7 hrc g0 g1 g2 g3 g4 kE HB7
          generalize w7.setCell ⟨g, k, none⟩ (.int .u64 ((packE (1, n0, false, true, c0) : Nat) : Int)) = w8 at *
          have g0 := kE8.cell 0
          have g1 := kE8.cell 1
          have g2 := kE8.cell 2
          have g3 := kE8.cell 3
          have g4 := kE8.cell 4
          simp at g0 g1 g2 g3 g4
          have fz := kE8.frozen 4
          have hl8 := kE8.lt
          have hI9 : QkI w t i ga n capa m (some ⟨gc, 0, none⟩) cc vs (k + 1) k (w8.setCell ⟨w4.heap.size, 4, none⟩ (.bool false)) := HI8.out.far HC.out 4 (.bool false) (by have := HX4.out.1; omega) (by have := HX4.out.2.2.1; omega) (fun j r hj e1 => by have := HX4.out.2.2.2 j r _ hj e1; omega) hlw4
          have HI9 := Lib.hid hI9
          clear hI9
          go_wp2_with fail
          refine (rWord_any (1, n0, false, true, false) _ HK2.out).mono ?_
          rintro e w9 ⟨rfl, hb9⟩
          have hI10 := HI9.out.to hb9
          obtain ⟨fzc, hxc, hput⟩ := hI10.child HC.out HX.out
          have HPUT := Lib.hid (hput _ HCW.out)
          clear hput hI10 hb9
          go_wp2
          go_roundw
          case rel => exact ⟨k + 1, by omega, by go_num, HPUT.out⟩
          case measure => simp [intOf]; omega
        · have hk2 : (k0 == 1) = false := by simpa using hk1
          have HNX := Lib.hid ((HI4.out.to (balloc (Below.refl _ _) (.cells #[.int .i64 k0, .int .i64 n0, .bool a0, .bool b0, .bool c0] 61))).skip HX.out (by rw [HENT.out]; exact hk1))
          clear hk1
          go_wp2
          go_roundw
          case rel => exact ⟨k + 1, by omega, by go_num, HNX.out⟩
          case measure => simp [intOf]; omega
      · have hkm : k = m := by omega
        have hu := hI.u
        have hch := hI.ch
        have hwn := hu.outer
        rw [hkm, HM.out, mixL_full rfl] at hu hch
        rw [List.length_set, Hlen.out] at hwn
        have hnlt : ¬ (k : Int) < (m : Int) := by omega
        have HU := Lib.hid hu
        have HCC := Lib.hid hch
        have HBR := Lib.hid hI.b
        have hlr := hI.b.size
        have HWN : Hid ((wr.alloc (.cells #[.slice Ac m cc] 54)).ownsRow w.heap.size 54 1 (.slice (some ⟨ga, 0, none⟩) n capa) n vs) := Lib.hid (hwn.alloc _)
        clear hI hu hch hwn hkm
        go_wp2_with (at_builtin; refine wpList_append_own_at _ rfl _ _ 22 rfl w.heap.size 54 i1 (.slice none 0 0) 1 24 Tryd.underlying22 hi1 hy0 hy1 hy2 rfl (by decide) _ _ _ rfl HWN.out ⟨wr.heap.size, 0, none⟩ 1 1 [.slice Ac m cc] rfl rfl (cell_one_new _ _ _) (by intro u hu; rw [List.mem_singleton.1 hu]; rfl) (by unfold maxLen; omega) (by omega) (by simp; omega) ?_; intro v' w8 hown' hgrow hnil hloc; obtain ⟨A9, c9, rfl, hR9⟩ := own_slice hown')
        have hdl : (t.set i ((rowAt t i).map shareW)).length = n := by rw [List.length_set]; exact Hlen.out
        have hcl : ((rowAt t i).map childW).length = m := by rw [List.length_map]; exact HM.out.symm
        have hU9 := HU.out.push2 (r := .slice Ac m cc) (l := (rowAt t i).map childW) (by rw [hcl]; have h := HCC.out; rw [← HM.out] at h; exact h) (.cells #[.slice Ac m cc] 54)
          (fun g e1 e2 => by have h3 := HCL.out g e1; have h4 : ga < w2.heap.size := HG.out; have h5 : ga = g := Option.some.inj e2; omega) (fun j q g hq e1 e2 => by have := HCL.out g e1; have := HVL.out j q g hq e2; omega) (by rw [hdl]; exact hown') hgrow hloc
        have hB8 : Below w.heap.size w w8 := (balloc HBR.out (.cells #[.slice Ac m cc] 54)).grown hgrow (by have := (balloc HBR.out (.cells #[.slice Ac m cc] 54)).size; exact this) (fun g hg => (HW.out.less hsz).outer.lt g hg |>.1)
        have HRES := Lib.hid (And.intro (WO.sho ⟨_, hU9⟩) hB8)
        clear hU9 hB8 hown' hgrow hloc hnil hR9 hdl hcl
        go_wp2
        go_ret2
        rw [HRR.out]
        exact ⟨⟨_, rfl, HRES.out.1⟩, HRES.out.2⟩
  · have hR : forkR t table = ([], askT t table) := by unfold forkR forkE; rw [orE_l _ h0, if_pos h0]
    have hne : (askT t table != 0) = true := by simpa using h0
    have HRR := Lib.hid hR
    clear hR h0
    go_enter Tryd.func14, Tryd.ntmps14
    go_wp2_with fail
    refine HC.out.mono ?_
    rintro e w1 ⟨rfl, hb⟩
    go_wp2
    go_ret2
    rw [HRR.out]
    exact ⟨⟨_, rfl, ShO.nil _⟩, hb⟩
end Go.Proofs.YtomndlnfidkdcaaDoor
/- headgateref26.Out. -/
namespace Go.Proofs.YtomndlnfidkdcaaDoor
open Go Go.Proofs Go.RowKit Go.Maps
set_option linter.unusedSimpArgs false
set_option linter.unusedVariables false
set_option maxRecDepth 100000

/-- At the head of the loop over the tables: q tables are changed. -/
structure QoI (w : World) (t : Sh) (A' : Option Addr) (n c' : Nat) (vs : List Value) (f s : Int) (q : Nat) (wr : World) : Prop where
  u : WOv wr w.heap.size (.slice A' n c') (mixL (List.map (outW f s)) t t q) vs
  b : Below w.heap.size w wr
/-- Within table q: p words are changed. -/
structure QoJ (w : World) (t : Sh) (A' : Option Addr) (n c' : Nat) (vs : List Value) (f s : Int) (q p : Nat) (wr : World) : Prop where
  u : WOv wr w.heap.size (.slice A' n c') ((mixL (List.map (outW f s)) t t q).set q (mixL (outW f s) (rowAt t q) (rowAt t q) p)) vs
  b : Below w.heap.size w wr
def QoV (w : World) (t : Sh) (A' : Option Addr) (n c' : Nat) (vs : List Value) (f s : Int) (cnt v : Value) (wr : World) : Prop := ∃ q : Nat, q ≤ n ∧ v = .int .i64 q ∧ cnt = .int .i64 (uS t (1, f) q 0 : Nat) ∧ QoI w t A' n c' vs f s q wr
def QoW (w : World) (t : Sh) (A' : Option Addr) (n c' : Nat) (vs : List Value) (f s : Int) (q m : Nat) (cnt v : Value) (wr : World) : Prop := ∃ p : Nat, p ≤ m ∧ v = .int .i64 p ∧ cnt = .int .i64 (uS t (1, f) q p : Nat) ∧ QoJ w t A' n c' vs f s q p wr
theorem sh_at {t : Sh} {i : Nat} (hi : i < t.length) : t[i]? = some (rowAt t i) := by
  unfold rowAt
  rw [List.getD_eq_getElem?_getD, List.getElem?_eq_getElem hi]
  rfl
section
variable {w wr w' : World} {t : Sh} {A' : Option Addr} {n c' : Nat} {vs : List Value} {f s : Int} {q p : Nat}
theorem qmix_at (hq : q < t.length) : (mixL (List.map (outW f s)) t t q)[q]? = some (rowAt t q) := (mixL_at rfl (by omega)).trans (sh_at hq)
theorem qmix_len (hq : q ≤ t.length) : (mixL (List.map (outW f s)) t t q).length = t.length := mixL_len rfl hq
theorem QoI.enter (h : QoI w t A' n c' vs f s q wr) (hq : q < t.length) : QoJ w t A' n c' vs f s q 0 wr := by
  refine ⟨?_, h.b⟩
  obtain ⟨h3, h4⟩ := List.getElem?_eq_some_iff.1 (qmix_at (f := f) (s := s) hq)
  rw [mixL_zero, ← h4, List.set_getElem_self]
  exact h.u
theorem QoJ.leave (h : QoJ w t A' n c' vs f s q (rowAt t q).length wr) (hq : q < t.length) : QoI w t A' n c' vs f s (q + 1) wr := by
  refine ⟨?_, h.b⟩
  have h1 := mixL_full (f := outW f s) (E := rowAt t q) (D := rowAt t q) rfl
  have h2 := h.u
  rw [h1, mixL_set rfl (sh_at hq)] at h2
  exact h2
theorem QoJ.to (h : QoJ w t A' n c' vs f s q p wr) (hb : Below wr.heap.size wr w') : QoJ w t A' n c' vs f s q p w' :=
  ⟨h.u.to hb, bnext h.b hb⟩
theorem QoJ.skip (h : QoJ w t A' n c' vs f s q p wr) {x : Nat} (he : (rowAt t q)[p]? = some x) (hf : useW x ≠ (1, f)) : QoJ w t A' n c' vs f s q (p + 1) wr := by
  refine ⟨?_, h.b⟩
  have h1 : outW f s x = x := by unfold outW; rw [if_neg hf]
  rw [← mixL_keep he h1]
  exact h.u
theorem QoJ.row {ga : Nat} (h : QoJ w t (some ⟨ga, 0, none⟩) n c' vs f s q p wr) (hq : q < t.length) (hl : t.length = n) {r : Value} (hr : vs[q]? = some r) : wr.cell? ⟨ga, q, none⟩ = some r ∧ ga < wr.heap.size := by
  have hlen : ((mixL (List.map (outW f s)) t t q).set q (mixL (outW f s) (rowAt t q) (rowAt t q) p)).length = n := by rw [List.length_set, qmix_len (Nat.le_of_lt hq)]; exact hl
  exact ⟨h.u.cell hlen hr, (h.u.outer.lt ga rfl).2⟩
/-- What the walk wants of a word, and the world behind its change. -/
theorem QoJ.facts {ga g m cR : Nat} (h : QoJ w t (some ⟨ga, 0, none⟩) n c' vs f s q p wr) (hq : q < t.length) (hl : t.length = n) (hr : vs[q]? = some (.slice (some ⟨g, 0, none⟩) m cR)) {x : Nat} (hx : (rowAt t q)[p]? = some x) :
    (∀ o, wr.frozen? ⟨g, o, none⟩ = false) ∧ wr.cell? ⟨g, p, none⟩ = some (.int .u64 (x : Int)) ∧ w.heap.size ≤ g ∧ g < wr.heap.size ∧ ga ≠ g ∧ ∀ y : Nat, y = outW f s x → QoJ w t (some ⟨ga, 0, none⟩) n c' vs f s q (p + 1) (wr.setCell ⟨g, p, none⟩ (.int .u64 (y : Int))) := by
  have hlen : ((mixL (List.map (outW f s)) t t q).set q (mixL (outW f s) (rowAt t q) (rowAt t q) p)).length = n := by rw [List.length_set, qmix_len (Nat.le_of_lt hq)]; exact hl
  have hdi : ((mixL (List.map (outW f s)) t t q).set q (mixL (outW f s) (rowAt t q) (rowAt t q) p))[q]? = some (mixL (outW f s) (rowAt t q) (rowAt t q) p) := List.getElem?_set_self (by rw [qmix_len (Nat.le_of_lt hq)]; exact hq)
  have hp := (List.getElem?_eq_some_iff.1 hx).1
  have hmk : (mixL (outW f s) (rowAt t q) (rowAt t q) p)[p]? = some x := (mixL_at rfl (Nat.le_of_lt hp)).trans hx
  obtain ⟨a1, a2, a3, a4, a5⟩ := h.u.put_at hlen hdi hmk hr
  refine ⟨a1, a2, a3, a4, fun e => h.u.off q _ g hr rfl (by rw [← e]; rfl), ?_⟩
  rintro y rfl
  have h5 := a5 (outW f s x)
  rw [mixL_set rfl hx, List.set_set] at h5
  exact ⟨h5, h.b.setCell (p := ⟨g, p, none⟩) a3 _⟩
end
set_option maxHeartbeats 8000000 in
theorem qOut_any (A : Option Addr) (n c : Nat) (t : Sh) (frame slot : Int) (w : World) (h : InS w A n t) :
    Calls Tryd.prog 23 #[.slice A n c, .int .i64 frame, .int .i64 slot] w fun e w' => BrkO (outR t frame slot) w w' e := by
  have HC := Lib.hid (qCheck_any A n c t w h)
  have HIN := Lib.hid h
  have hn := h.few
  have Hlen := Lib.hid h.rr.len
  have hus : ∀ k n1 : Int, ∀ W, Below w.heap.size w W → Calls Tryd.prog 59 #[.slice A n c, .int .i64 k, .int .i64 n1] W fun e w' => e = .returned (.int .i64 (cntS t (k, n1))) ∧ Below W.heap.size W w' := fun k n1 W hW => rUses_any A n c t k n1 W (h.to hW)
  have HUS := Lib.hid hus
  have hbd : ∀ q p, uS t (1, frame) q p ≤ 900 := fun q p => by
    have h1 := uS_le h.rows (1, frame) q p
    rw [h.rr.len] at h1
    have : n * 70 ≤ 11 * 70 := Nat.mul_le_mul_right _ h.few
    omega
  have HBD := Lib.hid hbd
  have hbad : ∀ z, outE2 t frame slot = z → z ≠ 0 → outR t frame slot = ([], 0, z) := fun z hz hne => by unfold outR; rw [if_pos (by rw [hz]; exact hne), hz]
  clear h hus hbd
  by_cases h0 : (shE t).1 = 0
  · have hck := HC.out
    rw [h0] at hck
    have HC0 := Lib.hid hck
    have HV := Lib.hid ((sh_iff t).1 h0)
    have hBE : outE2 t frame slot = (if frame < 0 ∨ 256 ≤ frame ∨ slot < 0 ∨ 256 ≤ slot then 2 else if cntS t (1, frame) = 0 then 9 else if 0 < cntS t (2, slot) then 7 else 0) := by unfold outE2; rw [orE_r _ h0]
    clear hck HC h0
    by_cases h1 : frame < 0
    · have HRR := Lib.hid (hbad 2 (by rw [hBE, if_pos (.inl h1)]) (by decide))
      clear hBE hbad
      go_enter Tryd.func23, Tryd.ntmps23
      go_wp2_with fail
      refine HC0.out.mono ?_
      rintro e w1 ⟨rfl, hb1⟩
      go_wp2
      go_ret3
      rw [HRR.out]
      exact ⟨⟨_, rfl, ShO.nil _⟩, hb1⟩
    by_cases h2 : 256 ≤ frame
    · have HRR := Lib.hid (hbad 2 (by rw [hBE, if_pos (.inr (.inl h2))]) (by decide))
      clear hBE hbad
      go_enter Tryd.func23, Tryd.ntmps23
      go_wp2_with fail
      refine HC0.out.mono ?_
      rintro e w1 ⟨rfl, hb1⟩
      go_wp2
      go_ret3
      rw [HRR.out]
      exact ⟨⟨_, rfl, ShO.nil _⟩, hb1⟩
    by_cases h3 : slot < 0
    · have HRR := Lib.hid (hbad 2 (by rw [hBE, if_pos (.inr (.inr (.inl h3)))]) (by decide))
      clear hBE hbad
      go_enter Tryd.func23, Tryd.ntmps23
      go_wp2_with fail
      refine HC0.out.mono ?_
      rintro e w1 ⟨rfl, hb1⟩
      go_wp2
      go_ret3
      rw [HRR.out]
      exact ⟨⟨_, rfl, ShO.nil _⟩, hb1⟩
    by_cases h4 : 256 ≤ slot
    · have HRR := Lib.hid (hbad 2 (by rw [hBE, if_pos (.inr (.inr (.inr h4)))]) (by decide))
      clear hBE hbad
      go_enter Tryd.func23, Tryd.ntmps23
      go_wp2_with fail
      refine HC0.out.mono ?_
      rintro e w1 ⟨rfl, hb1⟩
      go_wp2
      go_ret3
      rw [HRR.out]
      exact ⟨⟨_, rfl, ShO.nil _⟩, hb1⟩
    rw [if_neg (by omega)] at hBE
    obtain ⟨f, rfl⟩ : ∃ f : Nat, frame = f := ⟨frame.toNat, by omega⟩
    obtain ⟨s, rfl⟩ : ∃ s : Nat, slot = s := ⟨slot.toNat, by omega⟩
    have hf6 : f < 256 := by omega
    have hs6 : s < 256 := by omega
    obtain ⟨N1, hN1⟩ : ∃ N1, N1 = cntS t (1, (f : Int)) := ⟨_, rfl⟩
    obtain ⟨N2, hN2⟩ : ∃ N2, N2 = cntS t (2, (s : Int)) := ⟨_, rfl⟩
    have hus1 := HUS.out 1 f
    have hus2 := HUS.out 2 s
    rw [← hN1] at hBE hus1
    rw [← hN2] at hBE hus2
    have HU1 := Lib.hid hus1
    have HU2 := Lib.hid hus2
    have HN1 := Lib.hid hN1
    clear h1 h2 h3 h4 hus1 hus2 HUS hN1 hN2
    by_cases h5 : N1 = 0
    · subst h5
      have HRR := Lib.hid (hbad 9 (by rw [hBE, if_pos rfl]) (by decide))
      clear hBE hbad
      go_enter Tryd.func23, Tryd.ntmps23
      go_wp2_with fail
      refine HC0.out.mono ?_
      rintro e w1 ⟨rfl, hb1⟩
      go_wp2_with (go_at_call 59; refine (HU1.out _ hb1).mono ?_; rintro e w2 ⟨rfl, hb2⟩)
      go_ret3
      rw [HRR.out]
      exact ⟨⟨_, rfl, ShO.nil _⟩, bnext hb1 hb2⟩
    have hz5 : ((N1 : Int) == 0) = false := by simp; omega
    by_cases h6 : 0 < N2
    · have HRR := Lib.hid (hbad 7 (by rw [hBE, if_neg h5, if_pos h6]) (by decide))
      have hz6 : (0 < (N2 : Int)) = True := by simp; omega
      clear hBE hbad h5
      go_enter Tryd.func23, Tryd.ntmps23
      go_wp2_with fail
      refine HC0.out.mono ?_
      rintro e w1 ⟨rfl, hb1⟩
      go_wp2_with fail
      refine (HU1.out _ hb1).mono ?_
      rintro e w2 ⟨rfl, hb2⟩
      go_wp2_with (go_at_call 59; refine (HU2.out _ (bnext hb1 hb2)).mono ?_; rintro e w3 ⟨rfl, hb3⟩)
      go_ret3
      rw [HRR.out]
      exact ⟨⟨_, rfl, ShO.nil _⟩, bnext (bnext hb1 hb2) hb3⟩
    have hok : outR t f s = (t.map fun l => l.map (outW f s), (N1 : Int), 0) := by
      unfold outR
      rw [if_neg (by rw [hBE, if_neg h5, if_neg h6]; simp), ← HN1.out]
    have HRR := Lib.hid hok
    have hn0 : 0 < n := by
      rcases Nat.eq_zero_or_pos n with h7 | h7
      · have h8 : t = [] := List.eq_nil_of_length_eq_zero (by rw [Hlen.out]; exact h7)
        have h9 := HN1.out
        rw [h8] at h9
        exact absurd h9 (by simp [cntS]; exact h5)
      · exact h7
    have hCK := Lib.hid (chk_slot (s : Int) (by omega) (by omega))
    obtain rfl : N2 = 0 := by omega
    clear hBE hbad h5 h6 hok
    go_enter Tryd.func23, Tryd.ntmps23
    go_wp2_with fail
    refine HC0.out.mono ?_
    rintro e w1 ⟨rfl, hb1⟩
    go_wp2_with fail
    refine (HU1.out _ hb1).mono ?_
    rintro e w2 ⟨rfl, hb2⟩
    go_wp2_with fail
    refine (HU2.out _ (bnext hb1 hb2)).mono ?_
    rintro e w3 ⟨rfl, hb3⟩
    go_wp2_with fail
    refine (qOwn_any A n c t w3 (HIN.out.to (bnext (bnext hb1 hb2) hb3))).mono ?_
    rintro e w4 ⟨v4, rfl, ⟨vs, hW⟩, hb4⟩
    have hB3 := bnext (bnext hb1 hb2) hb3
    have hsz := hB3.size
    have hB4 := bnext hB3 hb4
    obtain ⟨ga, capa, rfl, hba, hla⟩ := hW.outer.form (by rw [Hlen.out]; exact hn0)
    rw [Hlen.out] at hW ⊢
    have hW0 : WOv w4 w.heap.size (.slice (some ⟨ga, 0, none⟩) n capa) t vs := hW.less hsz
    have hst : QoI w t (some ⟨ga, 0, none⟩) n capa vs f s 0 w4 := ⟨by rw [mixL_zero]; exact hW0, hB4⟩
    have HST := Lib.hid hst
    have HW := Lib.hid hW0
    clear hst hW hW0 hb1 hb2 hb3 hb4 hB3 hB4 hba hla HC0 HU1 HU2 hsz hz5
    go_wp2
    go_loopw [12, 13] (QoV w t (some ⟨ga, 0, none⟩) n capa vs f s) (fun _ i _ => n - (intOf i).toNat)
    case atStart => exact ⟨0, Nat.zero_le _, rfl, by rw [uS_start]; rfl, HST.out⟩
    case round =>
      obtain ⟨q, hq, rfl, rfl, hI⟩ := hrel
      by_cases hlt : q < n
      · have hqt : q < t.length := by rw [Hlen.out]; exact hlt
        have hlt2 : (q : Int) < (n : Int) := by omega
        obtain ⟨r, hr, ho⟩ := HW.out.rows q _ (sh_at hqt)
        obtain ⟨m, hm⟩ : ∃ m, m = (rowAt t q).length := ⟨_, rfl⟩
        have hrf : (m = 0) ∨ ∃ g cR, r = .slice (some ⟨g, 0, none⟩) m cR := by
          rcases Nat.eq_zero_or_pos m with h1 | h1
          · exact .inl h1
          · obtain ⟨g, cR, h2, h3, h4⟩ := ho.form (by omega)
            exact .inr ⟨g, cR, by rw [h2, hm]⟩
        obtain ⟨B, cB, rfl, hRB⟩ := own_slice ho
        rw [← hm] at hr hrf
        have hl70 : m ≤ 70 := by rw [hm]; exact HIN.out.rows _ (rowAt_mem hqt)
        have HRF := Lib.hid hrf
        have HM := Lib.hid hm
        have HR := Lib.hid hr
        have HSM := Lib.hid (HIN.out.small _ (rowAt_mem hqt))
        have hJ := hI.enter hqt
        obtain ⟨hrc, hgl⟩ := hJ.row hqt Hlen.out hr
        have HJ := Lib.hid hJ
        have HQT := Lib.hid hqt
        clear hI hJ hqt hr hm hrf hRB ho
        go_wp2
        obtain ⟨wo, rfl⟩ : ∃ wo : World, wo = wr := ⟨_, rfl⟩
        clear hrc hgl
        go_loopw [12, 14] (QoW w t (some ⟨ga, 0, none⟩) n capa vs f s q m) (fun _ i _ => m - (intOf i).toNat)
        case atStart => exact ⟨0, Nat.zero_le _, rfl, rfl, HJ.out⟩
        case round =>
          obtain ⟨p, hp, rfl, rfl, hJ⟩ := hrel
          obtain ⟨hrc, hgl⟩ := hJ.row HQT.out Hlen.out HR.out
          by_cases hltp : p < m
          · have hltp2 : (p : Int) < (m : Int) := by omega
            rcases HRF.out with h1 | ⟨g, cR, h1⟩
            · exact absurd hltp (by omega)
            injection h1 with h1 h2 h3
            subst h1 h3
            obtain ⟨x, hx⟩ : ∃ x, (rowAt t q)[p]? = some x := ⟨_, List.getElem?_eq_getElem (by rw [← HM.out]; exact hltp)⟩
            obtain ⟨fz, hxc, hbg, hgg, hne, _⟩ := hJ.facts HQT.out Hlen.out HR.out hx
            have hxs : x < 18446744073709551616 := HSM.out x (List.mem_of_getElem? hx)
            have hsu := uS_succ hx (1, (f : Int))
            have hle := HBD.out q p
            obtain ⟨u, hu⟩ : ∃ u, u = uS t (1, (f : Int)) q p := ⟨_, rfl⟩
            rw [← hu] at hsu hle ⊢
            rcases hent : entW x with ⟨k0, n0, a0, b0, c0⟩
            have huw : useW x = (k0, n0) := by unfold useW; rw [hent]; rfl
            have HUW := Lib.hid huw
            rw [huw] at hsu
            have HSU := Lib.hid hsu
            have HENT := Lib.hid hent
            have HX := Lib.hid hx
            have HJ2 := Lib.hid hJ
            clear hsu hent huw hx hu hJ fz h2
            go_wp2_with fail
            refine (rEntry_any x wr hxs k0 n0 a0 b0 c0 HENT.out).mono ?_
            rintro e w5 ⟨rfl, hb5⟩
            have hB6 : Below wr.heap.size wr (w5.alloc (.cells #[.int .i64 k0, .int .i64 n0, .bool a0, .bool b0, .bool c0] 61)) := balloc hb5 _
            have HJ6 := Lib.hid (HJ2.out.to hB6)
            clear hrc hxc hgl hgg hB6
            by_cases hk : k0 = 1
            · have hk1 : (k0 == 1) = true := by simpa using hk
              by_cases hnn : n0 = f
              · have hs2 : uS t (1, (f : Int)) q (p + 1) = u + 1 := by rw [HSU.out, if_pos (by rw [hk, hnn])]
                have HS2 := Lib.hid hs2
                have HOW := Lib.hid (show packE (2, (s : Int), false, false, false) = outW f s x by unfold outW; rw [if_pos (by rw [HUW.out, hk, hnn])])
                have hn1 : (n0 == (f : Int)) = true := by simpa using hnn
                clear hs2 hk hnn
                go_wp2_with fail
                obtain ⟨hrc, hgl⟩ := HJ6.out.row HQT.out Hlen.out HR.out
                generalize w5.alloc (.cells #[.int .i64 k0, .int .i64 n0, .bool a0, .bool b0, .bool c0] 61) = w6 at *
                go_region_held3 (fun w' => w'.cell? ⟨ga, q, none⟩ = some (.slice (some ⟨g, 0, none⟩) m cB))
                  (repeat (with_reducible first | exact hrc | exact hne | refine cell_drew ?_ | refine cell_farB ?_ ?_ _ | refine cell_later hb7 ?_))
                  (first
                    | (go_at_call 49; refine (rWord_any (2, (s : Int), false, false, false) _ hCK.out).mono ?_; rintro e w7 ⟨rfl, hb7⟩; obtain ⟨fz, r0, _, _, _, hput⟩ := (HJ6.out.to (bnext (below_drew (Below.refl _ _)) hb7)).facts HQT.out Hlen.out HR.out HX.out))
                have HP := Lib.hid (hput _ HOW.out)
                clear hput fz r0 hb7 hrc hb5
                go_wp2
                go_roundw
                case rel => exact ⟨p + 1, by omega, by go_num, by rw [HS2.out]; go_num, HP.out⟩
                case measure => simp [intOf]; omega
              · have hs2 : uS t (1, (f : Int)) q (p + 1) = u := by rw [HSU.out, if_neg (fun e => hnn (by injection e))]; rfl
                have HS2 := Lib.hid hs2
                have HP := Lib.hid (HJ6.out.skip HX.out (by rw [HUW.out]; exact fun e => hnn (by injection e)))
                have hn1 : (n0 == (f : Int)) = false := by simpa using hnn
                clear hs2 hnn hk
                go_wp2
                go_roundw
                case rel => exact ⟨p + 1, by omega, by go_num, by rw [HS2.out], HP.out⟩
                case measure => simp [intOf]; omega
            · have hs2 : uS t (1, (f : Int)) q (p + 1) = u := by rw [HSU.out, if_neg (fun e => hk (by injection e))]; rfl
              have HS2 := Lib.hid hs2
              have HP := Lib.hid (HJ6.out.skip HX.out (by rw [HUW.out]; exact fun e => hk (by injection e)))
              have hk1 : (k0 == 1) = false := by simpa using hk
              clear hs2 hk
              go_wp2
              go_roundw
              case rel => exact ⟨p + 1, by omega, by go_num, by rw [HS2.out], HP.out⟩
              case measure => simp [intOf]; omega
          · have hpm : p = (rowAt t q).length := by rw [← HM.out]; omega
            have hnx := uS_next HQT.out (1, (f : Int))
            rw [← hpm] at hnx
            rw [hpm] at hJ
            have HNX := Lib.hid hnx
            have HNI := Lib.hid (hJ.leave HQT.out)
            have hnlt : ¬ (p : Int) < (m : Int) := by omega
            clear hpm hnx hJ
            go_wp2
            go_roundw
            case rel => exact ⟨q + 1, by omega, by go_num, by rw [HNX.out], HNI.out⟩
            case measure => simp [intOf]; omega
      · have hqn : q = t.length := by rw [Hlen.out]; omega
        have hall : uS t (1, (f : Int)) q 0 = N1 := by rw [hqn, uS_all]; exact HN1.out.symm
        have hu := hI.u
        rw [hqn, mixL_full rfl] at hu
        have HALL := Lib.hid hall
        have HU := Lib.hid hu
        have HB := Lib.hid hI.b
        have hnlt : ¬ (q : Int) < (n : Int) := by omega
        clear hqn hall hu hI
        go_wp2
        go_ret3
        rw [HRR.out, HALL.out]
        exact ⟨⟨_, rfl, WO.sho ⟨_, HU.out⟩⟩, HB.out⟩
  · have HRR := Lib.hid (hbad (shE t).1 (by unfold outE2; rw [orE_l _ h0]) h0)
    have hne : ((shE t).1 != 0) = true := by simpa using h0
    clear h0 hbad
    go_enter Tryd.func23, Tryd.ntmps23
    go_wp2_with fail
    refine HC.out.mono ?_
    rintro e w1 ⟨rfl, hb⟩
    go_wp2
    go_ret3
    rw [HRR.out]
    exact ⟨⟨_, rfl, ShO.nil _⟩, hb⟩
end Go.Proofs.YtomndlnfidkdcaaDoor
