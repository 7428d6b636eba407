/- cow.Drop. -/
import Derived.Test.YtomndlnfidkdcaaDoorCowS
namespace Go.Proofs.YtomndlnfidkdcaaDoor
open Go Go.Proofs Go.RowKit Go.Maps
set_option linter.unusedSimpArgs false
set_option linter.unusedVariables false
set_option maxRecDepth 100000

/-- What Drop returns. -/
def DropO (r : Sh × Int × Int × Int) (w w' : World) (e : Ending) : Prop := (∃ v, e = .returned (.tuple #[v, .int .i64 r.2.1, .int .i64 r.2.2.1, .int .i64 r.2.2.2]) ∧ ShO w' v r.1) ∧ Below w.heap.size w w'
theorem chk_zero : chkE (0, 0, false, false, false) = 0 := by decide
theorem pack_zero : packE (0, 0, false, false, false) = 0 := by decide

set_option maxHeartbeats 8000000 in
theorem Drop_any (A : Option Addr) (n c : Nat) (t : Sh) (table page : Int) (w : World) (h : InS w A n t) (hL : LayOK w) :
    Calls Tryd.prog 20 #[.slice A n c, .int .i64 table, .int .i64 page] w fun e w' => DropO (dropR t table page) w w' e := by
  have HO := Lib.hid (open_any A n c t table page w h hL)
  have hn := h.few
  have Hlen := Lib.hid h.rr.len
  have HLay := Lib.hid hL
  clear h hL
  by_cases h0 : askS t table page = 0
  · obtain ⟨hv, i, j, rfl, rfl, hi, hj⟩ := ask_zero h0
    have hR : dropR t i j = (setW t i j 0, dropF t (wordAt t i j), dropS t (wordAt t i j), 0) := by unfold dropR; rw [if_neg (by simp [h0])]; simp only [Int.toNat_natCast]
    have HRR := Lib.hid hR
    have H0 := Lib.hid h0
    have HI := Lib.hid (dec_at hi)
    have HJ0 := Lib.hid (row_at hj)
    have HVI := Lib.hid (And.intro hv hi)
    have hcn := cnt_dec t (useW (wordAt t i j))
    clear hR h0 hv hi hj
    go_enter Tryd.func20, Tryd.ntmps20
    go_wp2_with fail
    refine HO.out.mono ?_
    rintro e w1 ⟨hb, ⟨_, A', c', rfl, hU⟩ | ⟨hq, rfl⟩⟩
    · have hD := OpenR.ok H0.out hn Hlen.out hU
      have HD := Lib.hid hD
      have h64 := ent_i64 _ hD.unp
      have hty := tly_dec t (useW (wordAt t i j))
      have hus : useW (wordAt t i j) = useE (entW (wordAt t i j)) := rfl
      have hF : dropF t (wordAt t i j) = if (entW (wordAt t i j)).1 = 1 ∧ cntS t (useE (entW (wordAt t i j))) = 1 then (entW (wordAt t i j)).2.1 else -1 := rfl
      have hS : dropS t (wordAt t i j) = if (entW (wordAt t i j)).1 = 2 ∧ cntS t (useE (entW (wordAt t i j))) = 1 then (entW (wordAt t i j)).2.1 else -1 := rfl
      rw [hus] at hty hcn
      have hk3 : (entW (wordAt t i j)).1 = 0 ∨ (entW (wordAt t i j)).1 = 1 ∨ (entW (wordAt t i j)).1 = 2 := by
        rcases ent_cases _ hD.unp with ⟨e, _⟩ | ⟨n, b, c, e, h0, h1⟩ | ⟨n, e, h0, h1⟩ <;> rw [e] <;> simp
      clear hus
      rcases hent : entW (wordAt t i j) with ⟨k0, n0, a0, b0, c0⟩
      rw [hent] at h64 hty hF hS hk3 hcn
      have HJ := Lib.hid (HJ0.out.trans (congrArg some hent))
      have HE := Lib.hid hent
      obtain ⟨lit, hkey⟩ := keyE (k0, n0) h64.1 h64.2
      have HKEY := Lib.hid hkey
      obtain ⟨cN, hcN⟩ : ∃ cN, cN = tlyU (dec t) (k0, n0) := ⟨_, rfl⟩
      have HCN := Lib.hid hcN
      have hz0 : k0 = 0 → cN = 0 := fun e => by rw [hcN]; unfold tlyU; rw [if_pos e]
      have hnz : k0 ≠ 0 → cN = (cntS t (k0, n0) : Int) := fun e => by rw [hcN]; exact hty e
      obtain ⟨vs, hu⟩ := hU
      have HLEN := Lib.hid (show (dec t).length = n by rw [dec_len]; exact Hlen.out)
      obtain ⟨ga, g, cR, rfl, hgl, hrc, hbg, hgg, hgag, _, ⟨e0, e1, e2, e3, e4⟩, _⟩ := hu.put HLEN.out HI.out HJ.out
      have HU1 := Lib.hid hu
      obtain ⟨mr, hmr⟩ : ∃ mr, mr = ((rowAt t i).map entW).length := ⟨_, rfl⟩
      rw [← hmr] at hrc
      have hjm : j < mr := by rw [hmr]; exact (List.getElem?_eq_some_iff.1 HJ.out).1
      have hm64 : mr ≤ 64 := by rw [hmr, List.length_map]; exact hD.v.row _ (rowAt_mem hD.i_lt)
      have hin : i < n := by rw [← hD.len]; exact hD.i_lt
      have HMR := Lib.hid hmr
      have HB := Lib.hid hb
      clear hent hu hmr hD hkey hcN hty hcn hb
      rcases hk3 with hk | hk | hk
      · subst hk
        obtain hcz := hz0 rfl
        subst hcz
        clear hz0 hnz
        go_wp2_with fail
        have hB2 : Below w1.heap.size w1 (w1.alloc (.cells #[.int .i64 0, .int .i64 n0, .bool a0, .bool b0, .bool c0] 61)) := balloc (Below.refl _ _) _
        have kE := Bk.new w1 #[.int .i64 0, .int .i64 n0, .bool a0, .bool b0, .bool c0] 61
        have hgeg : w1.heap.size ≠ g := by omega
        generalize w1.alloc (.cells #[.int .i64 0, .int .i64 n0, .bool a0, .bool b0, .bool c0] 61) = w2 at *
        replace hrc := cell_later hB2 hrc
        have HU2 := Lib.hid (HU1.out.to hB2)
        replace HD := Lib.hid (HD.out.to hB2)
        replace HB := Lib.hid (bnext HB.out hB2)
        clear HU1 e0 e1 e2 e3 e4
        have g0 := kE.cell 0
        have g1 := kE.cell 1
        have g2 := kE.cell 2
        have g3 := kE.cell 3
        have g4 := kE.cell 4
        simp at g0 g1 g2 g3 g4
        have hdr : Below w2.heap.size w2 w2.drew := below_drew (Below.refl _ _)
        go_region_held3 (fun w' => w'.cell? ⟨w1.heap.size, 0, none⟩ = some (.int .i64 0) ∧ w'.cell? ⟨w1.heap.size, 1, none⟩ = some (.int .i64 n0) ∧ w'.cell? ⟨w1.heap.size, 2, none⟩ = some (.bool a0) ∧ w'.cell? ⟨w1.heap.size, 3, none⟩ = some (.bool b0) ∧ w'.cell? ⟨w1.heap.size, 4, none⟩ = some (.bool c0))
          (refine ⟨?_, ?_, ?_, ?_, ?_⟩ <;> (repeat (with_reducible first | exact g0 | exact g1 | exact g2 | exact g3 | exact g4 | refine cell_drew ?_ | refine cell_later hb3 ?_ | refine cell_later hb4 ?_)))
          (first
            | (go_at_call 56; have tok : True := tok1; refine (tally_any _ n c' (dec t) _ HD.out.few (HD.out.to (bnext hdr hb4)).rr HD.out.rows HD.out.uok).mono ?_; rintro e w3 ⟨rfl, hT3, hb3⟩; have hlk := TallyG.look lawE kf_inj Tryd.underlying81 (zeroI _) hT3 (0, n0) HKEY.out; rw [← HCN.out] at hlk; simp only [kf] at hlk)
            | (go_at_call 56; refine (tally_any _ n c' (dec t) _ HD.out.few (HD.out.to hdr).rr HD.out.rows HD.out.uok).mono ?_; rintro e w3 ⟨rfl, hT3, hb3⟩; have hT4 : TlyM w3 w2.heap.size (dec t) := hT3; have tok2 : True := trivial)
            | (go_at_call 60; have tok : True := tok2; refine (use_any _ _ _ _ _ _).mono ?_; rintro e w4 ⟨rfl, hb4⟩; have hlk := TallyG.look lawE kf_inj Tryd.underlying81 (zeroI _) (TallyG.to hT4 hb4) (0, n0) HKEY.out; rw [← HCN.out] at hlk; simp only [kf] at hlk)
            | (go_at_call 60; refine (use_any _ _ _ _ _ _).mono ?_; rintro e w4 ⟨rfl, hb4⟩; have tok1 : True := trivial))
        all_goals
          first
            | (have hB5 : Below w2.heap.size w2 w4 := bnext (bnext hdr hb3) hb4; obtain ⟨w5, hw5⟩ : ∃ w5, w5 = w4 := ⟨_, rfl⟩; rw [← hw5] at hB5; clear hT3 hT4 hlk hb3; subst hw5; clear hb4)
            | (have hB5 : Below w2.heap.size w2 w3 := bnext (bnext hdr hb4) hb3; obtain ⟨w5, hw5⟩ : ∃ w5, w5 = w3 := ⟨_, rfl⟩; rw [← hw5] at hB5; clear hT3 hlk; subst hw5; clear hb3 hb4)
          replace kE := kE.to hB5
          replace hrc := cell_later hB5 hrc
          have HU := Lib.hid (HU2.out.to hB5)
          replace HB := Lib.hid (bnext HB.out hB5)
          clear g0 g1 g2 g3 g4 HU2 HD hdr hB5 hB2
          have g0 := kE.cell 0
          have g1 := kE.cell 1
          have g2 := kE.cell 2
          have g3 := kE.cell 3
          have g4 := kE.cell 4
          simp at g0 g1 g2 g3 g4
          go_wp2_with fail
          go_region_held3 (fun w' => w'.cell? ⟨w1.heap.size, 0, none⟩ = some (.int .i64 0) ∧ w'.cell? ⟨w1.heap.size, 1, none⟩ = some (.int .i64 n0) ∧ w'.cell? ⟨w1.heap.size, 2, none⟩ = some (.bool a0) ∧ w'.cell? ⟨w1.heap.size, 3, none⟩ = some (.bool b0) ∧ w'.cell? ⟨w1.heap.size, 4, none⟩ = some (.bool c0) ∧ w'.cell? ⟨ga, i, none⟩ = some (.slice (some ⟨g, 0, none⟩) mr cR))
            (refine ⟨?_, ?_, ?_, ?_, ?_, ?_⟩ <;> (repeat (with_reducible first | exact g0 | exact g1 | exact g2 | exact g3 | exact g4 | exact hrc | exact hgeg | exact hgag | refine cell_drew ?_ | refine cell_alloc _ ?_ | refine cell_farB ?_ ?_ _ | refine cell_later hb7 ?_)))
            (first
              | (go_at_call 58; refine (become_any _ _ _ _ _ _).mono ?_; rintro e w6 ⟨rfl, rfl⟩)
              | (go_at_call 42; refine (alterB_new (0, 0, false, false, false) _ _ _ _ _ w5).mono ?_; rintro e w7 ⟨rfl, hb7⟩; have hB7 := hb7; have hU7 := (HU.out.to hB7); have hrc7 := cell_later hB7 hrc; obtain ⟨fz, ⟨r0, r1, r2, r3, r4⟩, hput⟩ := hU7.put_at HLEN.out HI.out HJ.out hrc7; have HPUT := Lib.hid hput; clear hput hU7))
          have hB8 := below_putEn (bnext HB.out hB7) hbg j (0, 0, false, false, false)
          have hu8 := HPUT.out (0, 0, false, false, false)
          have hL8 := HLay.out.below hB8
          clear HPUT fz r0 r1 r2 r3 r4 hrc7 hB7 hb7 g0 g1 g2 g3 g4 kE
          go_wp2_with (go_at_call 45; refine (shut_changed hu8.uo HVI.out.1 HVI.out.2 Hlen.out hn chk_zero hL8).mono ?_; rintro e w9 ⟨⟨v9, rfl, hs9⟩, hb9⟩)
          ((try simp only [Exit.inBlock, Exit.then]); refine bodyPost_ret (results_tmp4 rfl _ _ _) rfl ?_)
          rw [HRR.out]
          refine ⟨⟨v9, ?_, by rw [pack_zero] at hs9; exact hs9⟩, bnext hB8 hb9⟩
          rw [hF, hS]
          rw [if_neg (by simp), if_neg (by simp)]; rfl
      · subst hk
        have hc := hnz (by decide)
        clear hz0 hnz
        by_cases hc1 : cN = 1
        · subst hc1
          have HC := Lib.hid (show cntS t (1, n0) = 1 by omega)
          clear hc
          go_wp2_with fail
          have hB2 : Below w1.heap.size w1 (w1.alloc (.cells #[.int .i64 1, .int .i64 n0, .bool a0, .bool b0, .bool c0] 61)) := balloc (Below.refl _ _) _
          have kE := Bk.new w1 #[.int .i64 1, .int .i64 n0, .bool a0, .bool b0, .bool c0] 61
          have hgeg : w1.heap.size ≠ g := by omega
          generalize w1.alloc (.cells #[.int .i64 1, .int .i64 n0, .bool a0, .bool b0, .bool c0] 61) = w2 at *
          replace hrc := cell_later hB2 hrc
          have HU2 := Lib.hid (HU1.out.to hB2)
          replace HD := Lib.hid (HD.out.to hB2)
          replace HB := Lib.hid (bnext HB.out hB2)
          clear HU1 e0 e1 e2 e3 e4
          have g0 := kE.cell 0
          have g1 := kE.cell 1
          have g2 := kE.cell 2
          have g3 := kE.cell 3
          have g4 := kE.cell 4
          simp at g0 g1 g2 g3 g4
          have hdr : Below w2.heap.size w2 w2.drew := below_drew (Below.refl _ _)
          go_region_held3 (fun w' => w'.cell? ⟨w1.heap.size, 0, none⟩ = some (.int .i64 1) ∧ w'.cell? ⟨w1.heap.size, 1, none⟩ = some (.int .i64 n0) ∧ w'.cell? ⟨w1.heap.size, 2, none⟩ = some (.bool a0) ∧ w'.cell? ⟨w1.heap.size, 3, none⟩ = some (.bool b0) ∧ w'.cell? ⟨w1.heap.size, 4, none⟩ = some (.bool c0))
            (refine ⟨?_, ?_, ?_, ?_, ?_⟩ <;> (repeat (with_reducible first | exact g0 | exact g1 | exact g2 | exact g3 | exact g4 | refine cell_drew ?_ | refine cell_later hb3 ?_ | refine cell_later hb4 ?_)))
            (first
              | (go_at_call 56; have tok : True := tok1; refine (tally_any _ n c' (dec t) _ HD.out.few (HD.out.to (bnext hdr hb4)).rr HD.out.rows HD.out.uok).mono ?_; rintro e w3 ⟨rfl, hT3, hb3⟩; have hlk := TallyG.look lawE kf_inj Tryd.underlying81 (zeroI _) hT3 (1, n0) HKEY.out; rw [← HCN.out] at hlk; simp only [kf] at hlk)
              | (go_at_call 56; refine (tally_any _ n c' (dec t) _ HD.out.few (HD.out.to hdr).rr HD.out.rows HD.out.uok).mono ?_; rintro e w3 ⟨rfl, hT3, hb3⟩; have hT4 : TlyM w3 w2.heap.size (dec t) := hT3; have tok2 : True := trivial)
              | (go_at_call 60; have tok : True := tok2; refine (use_any _ _ _ _ _ _).mono ?_; rintro e w4 ⟨rfl, hb4⟩; have hlk := TallyG.look lawE kf_inj Tryd.underlying81 (zeroI _) (TallyG.to hT4 hb4) (1, n0) HKEY.out; rw [← HCN.out] at hlk; simp only [kf] at hlk)
              | (go_at_call 60; refine (use_any _ _ _ _ _ _).mono ?_; rintro e w4 ⟨rfl, hb4⟩; have tok1 : True := trivial))
          all_goals
            first
              | (have hB5 : Below w2.heap.size w2 w4 := bnext (bnext hdr hb3) hb4; obtain ⟨w5, hw5⟩ : ∃ w5, w5 = w4 := ⟨_, rfl⟩; rw [← hw5] at hB5; clear hT3 hT4 hlk hb3; subst hw5; clear hb4)
              | (have hB5 : Below w2.heap.size w2 w3 := bnext (bnext hdr hb4) hb3; obtain ⟨w5, hw5⟩ : ∃ w5, w5 = w3 := ⟨_, rfl⟩; rw [← hw5] at hB5; clear hT3 hlk; subst hw5; clear hb3 hb4)
            replace kE := kE.to hB5
            replace hrc := cell_later hB5 hrc
            have HU := Lib.hid (HU2.out.to hB5)
            replace HB := Lib.hid (bnext HB.out hB5)
            clear g0 g1 g2 g3 g4 HU2 HD hdr hB5 hB2
            have g0 := kE.cell 0
            have g1 := kE.cell 1
            have g2 := kE.cell 2
            have g3 := kE.cell 3
            have g4 := kE.cell 4
            simp at g0 g1 g2 g3 g4
            go_wp2_with fail
            go_region_held3 (fun w' => w'.cell? ⟨w1.heap.size, 0, none⟩ = some (.int .i64 1) ∧ w'.cell? ⟨w1.heap.size, 1, none⟩ = some (.int .i64 n0) ∧ w'.cell? ⟨w1.heap.size, 2, none⟩ = some (.bool a0) ∧ w'.cell? ⟨w1.heap.size, 3, none⟩ = some (.bool b0) ∧ w'.cell? ⟨w1.heap.size, 4, none⟩ = some (.bool c0) ∧ w'.cell? ⟨ga, i, none⟩ = some (.slice (some ⟨g, 0, none⟩) mr cR))
              (refine ⟨?_, ?_, ?_, ?_, ?_, ?_⟩ <;> (repeat (with_reducible first | exact g0 | exact g1 | exact g2 | exact g3 | exact g4 | exact hrc | exact hgeg | exact hgag | refine cell_drew ?_ | refine cell_alloc _ ?_ | refine cell_farB ?_ ?_ _ | refine cell_later hb7 ?_)))
              (first
                | (go_at_call 58; refine (become_any _ _ _ _ _ _).mono ?_; rintro e w6 ⟨rfl, rfl⟩)
                | (go_at_call 42; refine (alterB_new (0, 0, false, false, false) _ _ _ _ _ w5).mono ?_; rintro e w7 ⟨rfl, hb7⟩; have hB7 := hb7; have hU7 := (HU.out.to hB7); have hrc7 := cell_later hB7 hrc; obtain ⟨fz, ⟨r0, r1, r2, r3, r4⟩, hput⟩ := hU7.put_at HLEN.out HI.out HJ.out hrc7; have HPUT := Lib.hid hput; clear hput hU7))
            have hB8 := below_putEn (bnext HB.out hB7) hbg j (0, 0, false, false, false)
            have hu8 := HPUT.out (0, 0, false, false, false)
            have hL8 := HLay.out.below hB8
            clear HPUT fz r0 r1 r2 r3 r4 hrc7 hB7 hb7 g0 g1 g2 g3 g4 kE
            go_wp2_with (go_at_call 45; refine (shut_changed hu8.uo HVI.out.1 HVI.out.2 Hlen.out hn chk_zero hL8).mono ?_; rintro e w9 ⟨⟨v9, rfl, hs9⟩, hb9⟩)
            ((try simp only [Exit.inBlock, Exit.then]); refine bodyPost_ret (results_tmp4 rfl _ _ _) rfl ?_)
            rw [HRR.out]
            refine ⟨⟨v9, ?_, by rw [pack_zero] at hs9; exact hs9⟩, bnext hB8 hb9⟩
            rw [hF, hS]
            rw [if_pos ⟨by trivial, HC.out⟩, if_neg (by simp)]; rfl
        · have HC := Lib.hid (show cntS t (1, n0) ≠ 1 by omega)
          have hb1 : (cN == 1) = false := by simpa using hc1
          clear hc hc1
          go_wp2_with fail
          have hB2 : Below w1.heap.size w1 (w1.alloc (.cells #[.int .i64 1, .int .i64 n0, .bool a0, .bool b0, .bool c0] 61)) := balloc (Below.refl _ _) _
          have kE := Bk.new w1 #[.int .i64 1, .int .i64 n0, .bool a0, .bool b0, .bool c0] 61
          have hgeg : w1.heap.size ≠ g := by omega
          generalize w1.alloc (.cells #[.int .i64 1, .int .i64 n0, .bool a0, .bool b0, .bool c0] 61) = w2 at *
          replace hrc := cell_later hB2 hrc
          have HU2 := Lib.hid (HU1.out.to hB2)
          replace HD := Lib.hid (HD.out.to hB2)
          replace HB := Lib.hid (bnext HB.out hB2)
          clear HU1 e0 e1 e2 e3 e4
          have g0 := kE.cell 0
          have g1 := kE.cell 1
          have g2 := kE.cell 2
          have g3 := kE.cell 3
          have g4 := kE.cell 4
          simp at g0 g1 g2 g3 g4
          have hdr : Below w2.heap.size w2 w2.drew := below_drew (Below.refl _ _)
          go_region_held3 (fun w' => w'.cell? ⟨w1.heap.size, 0, none⟩ = some (.int .i64 1) ∧ w'.cell? ⟨w1.heap.size, 1, none⟩ = some (.int .i64 n0) ∧ w'.cell? ⟨w1.heap.size, 2, none⟩ = some (.bool a0) ∧ w'.cell? ⟨w1.heap.size, 3, none⟩ = some (.bool b0) ∧ w'.cell? ⟨w1.heap.size, 4, none⟩ = some (.bool c0))
            (refine ⟨?_, ?_, ?_, ?_, ?_⟩ <;> (repeat (with_reducible first | exact g0 | exact g1 | exact g2 | exact g3 | exact g4 | refine cell_drew ?_ | refine cell_later hb3 ?_ | refine cell_later hb4 ?_)))
            (first
              | (go_at_call 56; have tok : True := tok1; refine (tally_any _ n c' (dec t) _ HD.out.few (HD.out.to (bnext hdr hb4)).rr HD.out.rows HD.out.uok).mono ?_; rintro e w3 ⟨rfl, hT3, hb3⟩; have hlk := TallyG.look lawE kf_inj Tryd.underlying81 (zeroI _) hT3 (1, n0) HKEY.out; rw [← HCN.out] at hlk; simp only [kf] at hlk)
              | (go_at_call 56; refine (tally_any _ n c' (dec t) _ HD.out.few (HD.out.to hdr).rr HD.out.rows HD.out.uok).mono ?_; rintro e w3 ⟨rfl, hT3, hb3⟩; have hT4 : TlyM w3 w2.heap.size (dec t) := hT3; have tok2 : True := trivial)
              | (go_at_call 60; have tok : True := tok2; refine (use_any _ _ _ _ _ _).mono ?_; rintro e w4 ⟨rfl, hb4⟩; have hlk := TallyG.look lawE kf_inj Tryd.underlying81 (zeroI _) (TallyG.to hT4 hb4) (1, n0) HKEY.out; rw [← HCN.out] at hlk; simp only [kf] at hlk)
              | (go_at_call 60; refine (use_any _ _ _ _ _ _).mono ?_; rintro e w4 ⟨rfl, hb4⟩; have tok1 : True := trivial))
          all_goals
            first
              | (have hB5 : Below w2.heap.size w2 w4 := bnext (bnext hdr hb3) hb4; obtain ⟨w5, hw5⟩ : ∃ w5, w5 = w4 := ⟨_, rfl⟩; rw [← hw5] at hB5; clear hT3 hT4 hlk hb3; subst hw5; clear hb4)
              | (have hB5 : Below w2.heap.size w2 w3 := bnext (bnext hdr hb4) hb3; obtain ⟨w5, hw5⟩ : ∃ w5, w5 = w3 := ⟨_, rfl⟩; rw [← hw5] at hB5; clear hT3 hlk; subst hw5; clear hb3 hb4)
            replace kE := kE.to hB5
            replace hrc := cell_later hB5 hrc
            have HU := Lib.hid (HU2.out.to hB5)
            replace HB := Lib.hid (bnext HB.out hB5)
            clear g0 g1 g2 g3 g4 HU2 HD hdr hB5 hB2
            have g0 := kE.cell 0
            have g1 := kE.cell 1
            have g2 := kE.cell 2
            have g3 := kE.cell 3
            have g4 := kE.cell 4
            simp at g0 g1 g2 g3 g4
            go_wp2_with fail
            go_region_held3 (fun w' => w'.cell? ⟨w1.heap.size, 0, none⟩ = some (.int .i64 1) ∧ w'.cell? ⟨w1.heap.size, 1, none⟩ = some (.int .i64 n0) ∧ w'.cell? ⟨w1.heap.size, 2, none⟩ = some (.bool a0) ∧ w'.cell? ⟨w1.heap.size, 3, none⟩ = some (.bool b0) ∧ w'.cell? ⟨w1.heap.size, 4, none⟩ = some (.bool c0) ∧ w'.cell? ⟨ga, i, none⟩ = some (.slice (some ⟨g, 0, none⟩) mr cR))
              (refine ⟨?_, ?_, ?_, ?_, ?_, ?_⟩ <;> (repeat (with_reducible first | exact g0 | exact g1 | exact g2 | exact g3 | exact g4 | exact hrc | exact hgeg | exact hgag | refine cell_drew ?_ | refine cell_alloc _ ?_ | refine cell_farB ?_ ?_ _ | refine cell_later hb7 ?_)))
              (first
                | (go_at_call 58; refine (become_any _ _ _ _ _ _).mono ?_; rintro e w6 ⟨rfl, rfl⟩)
                | (go_at_call 42; refine (alterB_new (0, 0, false, false, false) _ _ _ _ _ w5).mono ?_; rintro e w7 ⟨rfl, hb7⟩; have hB7 := hb7; have hU7 := (HU.out.to hB7); have hrc7 := cell_later hB7 hrc; obtain ⟨fz, ⟨r0, r1, r2, r3, r4⟩, hput⟩ := hU7.put_at HLEN.out HI.out HJ.out hrc7; have HPUT := Lib.hid hput; clear hput hU7))
            have hB8 := below_putEn (bnext HB.out hB7) hbg j (0, 0, false, false, false)
            have hu8 := HPUT.out (0, 0, false, false, false)
            have hL8 := HLay.out.below hB8
            clear HPUT fz r0 r1 r2 r3 r4 hrc7 hB7 hb7 g0 g1 g2 g3 g4 kE
            go_wp2_with (go_at_call 45; refine (shut_changed hu8.uo HVI.out.1 HVI.out.2 Hlen.out hn chk_zero hL8).mono ?_; rintro e w9 ⟨⟨v9, rfl, hs9⟩, hb9⟩)
            ((try simp only [Exit.inBlock, Exit.then]); refine bodyPost_ret (results_tmp4 rfl _ _ _) rfl ?_)
            rw [HRR.out]
            refine ⟨⟨v9, ?_, by rw [pack_zero] at hs9; exact hs9⟩, bnext hB8 hb9⟩
            rw [hF, hS]
            rw [if_neg (fun e => HC.out e.2), if_neg (fun e => HC.out e.2)]; rfl
      · subst hk
        have hc := hnz (by decide)
        clear hz0 hnz
        by_cases hc1 : cN = 1
        · subst hc1
          have HC := Lib.hid (show cntS t (2, n0) = 1 by omega)
          clear hc
          go_wp2_with fail
          have hB2 : Below w1.heap.size w1 (w1.alloc (.cells #[.int .i64 2, .int .i64 n0, .bool a0, .bool b0, .bool c0] 61)) := balloc (Below.refl _ _) _
          have kE := Bk.new w1 #[.int .i64 2, .int .i64 n0, .bool a0, .bool b0, .bool c0] 61
          have hgeg : w1.heap.size ≠ g := by omega
          generalize w1.alloc (.cells #[.int .i64 2, .int .i64 n0, .bool a0, .bool b0, .bool c0] 61) = w2 at *
          replace hrc := cell_later hB2 hrc
          have HU2 := Lib.hid (HU1.out.to hB2)
          replace HD := Lib.hid (HD.out.to hB2)
          replace HB := Lib.hid (bnext HB.out hB2)
          clear HU1 e0 e1 e2 e3 e4
          have g0 := kE.cell 0
          have g1 := kE.cell 1
          have g2 := kE.cell 2
          have g3 := kE.cell 3
          have g4 := kE.cell 4
          simp at g0 g1 g2 g3 g4
          have hdr : Below w2.heap.size w2 w2.drew := below_drew (Below.refl _ _)
          go_region_held3 (fun w' => w'.cell? ⟨w1.heap.size, 0, none⟩ = some (.int .i64 2) ∧ w'.cell? ⟨w1.heap.size, 1, none⟩ = some (.int .i64 n0) ∧ w'.cell? ⟨w1.heap.size, 2, none⟩ = some (.bool a0) ∧ w'.cell? ⟨w1.heap.size, 3, none⟩ = some (.bool b0) ∧ w'.cell? ⟨w1.heap.size, 4, none⟩ = some (.bool c0))
            (refine ⟨?_, ?_, ?_, ?_, ?_⟩ <;> (repeat (with_reducible first | exact g0 | exact g1 | exact g2 | exact g3 | exact g4 | refine cell_drew ?_ | refine cell_later hb3 ?_ | refine cell_later hb4 ?_)))
            (first
              | (go_at_call 56; have tok : True := tok1; refine (tally_any _ n c' (dec t) _ HD.out.few (HD.out.to (bnext hdr hb4)).rr HD.out.rows HD.out.uok).mono ?_; rintro e w3 ⟨rfl, hT3, hb3⟩; have hlk := TallyG.look lawE kf_inj Tryd.underlying81 (zeroI _) hT3 (2, n0) HKEY.out; rw [← HCN.out] at hlk; simp only [kf] at hlk)
              | (go_at_call 56; refine (tally_any _ n c' (dec t) _ HD.out.few (HD.out.to hdr).rr HD.out.rows HD.out.uok).mono ?_; rintro e w3 ⟨rfl, hT3, hb3⟩; have hT4 : TlyM w3 w2.heap.size (dec t) := hT3; have tok2 : True := trivial)
              | (go_at_call 60; have tok : True := tok2; refine (use_any _ _ _ _ _ _).mono ?_; rintro e w4 ⟨rfl, hb4⟩; have hlk := TallyG.look lawE kf_inj Tryd.underlying81 (zeroI _) (TallyG.to hT4 hb4) (2, n0) HKEY.out; rw [← HCN.out] at hlk; simp only [kf] at hlk)
              | (go_at_call 60; refine (use_any _ _ _ _ _ _).mono ?_; rintro e w4 ⟨rfl, hb4⟩; have tok1 : True := trivial))
          all_goals
            first
              | (have hB5 : Below w2.heap.size w2 w4 := bnext (bnext hdr hb3) hb4; obtain ⟨w5, hw5⟩ : ∃ w5, w5 = w4 := ⟨_, rfl⟩; rw [← hw5] at hB5; clear hT3 hT4 hlk hb3; subst hw5; clear hb4)
              | (have hB5 : Below w2.heap.size w2 w3 := bnext (bnext hdr hb4) hb3; obtain ⟨w5, hw5⟩ : ∃ w5, w5 = w3 := ⟨_, rfl⟩; rw [← hw5] at hB5; clear hT3 hlk; subst hw5; clear hb3 hb4)
            replace kE := kE.to hB5
            replace hrc := cell_later hB5 hrc
            have HU := Lib.hid (HU2.out.to hB5)
            replace HB := Lib.hid (bnext HB.out hB5)
            clear g0 g1 g2 g3 g4 HU2 HD hdr hB5 hB2
            have g0 := kE.cell 0
            have g1 := kE.cell 1
            have g2 := kE.cell 2
            have g3 := kE.cell 3
            have g4 := kE.cell 4
            simp at g0 g1 g2 g3 g4
            go_wp2_with fail
            go_region_held3 (fun w' => w'.cell? ⟨w1.heap.size, 0, none⟩ = some (.int .i64 2) ∧ w'.cell? ⟨w1.heap.size, 1, none⟩ = some (.int .i64 n0) ∧ w'.cell? ⟨w1.heap.size, 2, none⟩ = some (.bool a0) ∧ w'.cell? ⟨w1.heap.size, 3, none⟩ = some (.bool b0) ∧ w'.cell? ⟨w1.heap.size, 4, none⟩ = some (.bool c0) ∧ w'.cell? ⟨ga, i, none⟩ = some (.slice (some ⟨g, 0, none⟩) mr cR))
              (refine ⟨?_, ?_, ?_, ?_, ?_, ?_⟩ <;> (repeat (with_reducible first | exact g0 | exact g1 | exact g2 | exact g3 | exact g4 | exact hrc | exact hgeg | exact hgag | refine cell_drew ?_ | refine cell_alloc _ ?_ | refine cell_farB ?_ ?_ _ | refine cell_later hb7 ?_)))
              (first
                | (go_at_call 58; refine (become_any _ _ _ _ _ _).mono ?_; rintro e w6 ⟨rfl, rfl⟩)
                | (go_at_call 42; refine (alterB_new (0, 0, false, false, false) _ _ _ _ _ w5).mono ?_; rintro e w7 ⟨rfl, hb7⟩; have hB7 := hb7; have hU7 := (HU.out.to hB7); have hrc7 := cell_later hB7 hrc; obtain ⟨fz, ⟨r0, r1, r2, r3, r4⟩, hput⟩ := hU7.put_at HLEN.out HI.out HJ.out hrc7; have HPUT := Lib.hid hput; clear hput hU7))
            have hB8 := below_putEn (bnext HB.out hB7) hbg j (0, 0, false, false, false)
            have hu8 := HPUT.out (0, 0, false, false, false)
            have hL8 := HLay.out.below hB8
            clear HPUT fz r0 r1 r2 r3 r4 hrc7 hB7 hb7 g0 g1 g2 g3 g4 kE
            go_wp2_with (go_at_call 45; refine (shut_changed hu8.uo HVI.out.1 HVI.out.2 Hlen.out hn chk_zero hL8).mono ?_; rintro e w9 ⟨⟨v9, rfl, hs9⟩, hb9⟩)
            ((try simp only [Exit.inBlock, Exit.then]); refine bodyPost_ret (results_tmp4 rfl _ _ _) rfl ?_)
            rw [HRR.out]
            refine ⟨⟨v9, ?_, by rw [pack_zero] at hs9; exact hs9⟩, bnext hB8 hb9⟩
            rw [hF, hS]
            rw [if_neg (by simp), if_pos ⟨by trivial, HC.out⟩]; rfl
        · have HC := Lib.hid (show cntS t (2, n0) ≠ 1 by omega)
          have hb1 : (cN == 1) = false := by simpa using hc1
          clear hc hc1
          go_wp2_with fail
          have hB2 : Below w1.heap.size w1 (w1.alloc (.cells #[.int .i64 2, .int .i64 n0, .bool a0, .bool b0, .bool c0] 61)) := balloc (Below.refl _ _) _
          have kE := Bk.new w1 #[.int .i64 2, .int .i64 n0, .bool a0, .bool b0, .bool c0] 61
          have hgeg : w1.heap.size ≠ g := by omega
          generalize w1.alloc (.cells #[.int .i64 2, .int .i64 n0, .bool a0, .bool b0, .bool c0] 61) = w2 at *
          replace hrc := cell_later hB2 hrc
          have HU2 := Lib.hid (HU1.out.to hB2)
          replace HD := Lib.hid (HD.out.to hB2)
          replace HB := Lib.hid (bnext HB.out hB2)
          clear HU1 e0 e1 e2 e3 e4
          have g0 := kE.cell 0
          have g1 := kE.cell 1
          have g2 := kE.cell 2
          have g3 := kE.cell 3
          have g4 := kE.cell 4
          simp at g0 g1 g2 g3 g4
          have hdr : Below w2.heap.size w2 w2.drew := below_drew (Below.refl _ _)
          go_region_held3 (fun w' => w'.cell? ⟨w1.heap.size, 0, none⟩ = some (.int .i64 2) ∧ w'.cell? ⟨w1.heap.size, 1, none⟩ = some (.int .i64 n0) ∧ w'.cell? ⟨w1.heap.size, 2, none⟩ = some (.bool a0) ∧ w'.cell? ⟨w1.heap.size, 3, none⟩ = some (.bool b0) ∧ w'.cell? ⟨w1.heap.size, 4, none⟩ = some (.bool c0))
            (refine ⟨?_, ?_, ?_, ?_, ?_⟩ <;> (repeat (with_reducible first | exact g0 | exact g1 | exact g2 | exact g3 | exact g4 | refine cell_drew ?_ | refine cell_later hb3 ?_ | refine cell_later hb4 ?_)))
            (first
              | (go_at_call 56; have tok : True := tok1; refine (tally_any _ n c' (dec t) _ HD.out.few (HD.out.to (bnext hdr hb4)).rr HD.out.rows HD.out.uok).mono ?_; rintro e w3 ⟨rfl, hT3, hb3⟩; have hlk := TallyG.look lawE kf_inj Tryd.underlying81 (zeroI _) hT3 (2, n0) HKEY.out; rw [← HCN.out] at hlk; simp only [kf] at hlk)
              | (go_at_call 56; refine (tally_any _ n c' (dec t) _ HD.out.few (HD.out.to hdr).rr HD.out.rows HD.out.uok).mono ?_; rintro e w3 ⟨rfl, hT3, hb3⟩; have hT4 : TlyM w3 w2.heap.size (dec t) := hT3; have tok2 : True := trivial)
              | (go_at_call 60; have tok : True := tok2; refine (use_any _ _ _ _ _ _).mono ?_; rintro e w4 ⟨rfl, hb4⟩; have hlk := TallyG.look lawE kf_inj Tryd.underlying81 (zeroI _) (TallyG.to hT4 hb4) (2, n0) HKEY.out; rw [← HCN.out] at hlk; simp only [kf] at hlk)
              | (go_at_call 60; refine (use_any _ _ _ _ _ _).mono ?_; rintro e w4 ⟨rfl, hb4⟩; have tok1 : True := trivial))
          all_goals
            first
              | (have hB5 : Below w2.heap.size w2 w4 := bnext (bnext hdr hb3) hb4; obtain ⟨w5, hw5⟩ : ∃ w5, w5 = w4 := ⟨_, rfl⟩; rw [← hw5] at hB5; clear hT3 hT4 hlk hb3; subst hw5; clear hb4)
              | (have hB5 : Below w2.heap.size w2 w3 := bnext (bnext hdr hb4) hb3; obtain ⟨w5, hw5⟩ : ∃ w5, w5 = w3 := ⟨_, rfl⟩; rw [← hw5] at hB5; clear hT3 hlk; subst hw5; clear hb3 hb4)
            replace kE := kE.to hB5
            replace hrc := cell_later hB5 hrc
            have HU := Lib.hid (HU2.out.to hB5)
            replace HB := Lib.hid (bnext HB.out hB5)
            clear g0 g1 g2 g3 g4 HU2 HD hdr hB5 hB2
            have g0 := kE.cell 0
            have g1 := kE.cell 1
            have g2 := kE.cell 2
            have g3 := kE.cell 3
            have g4 := kE.cell 4
            simp at g0 g1 g2 g3 g4
            go_wp2_with fail
            go_region_held3 (fun w' => w'.cell? ⟨w1.heap.size, 0, none⟩ = some (.int .i64 2) ∧ w'.cell? ⟨w1.heap.size, 1, none⟩ = some (.int .i64 n0) ∧ w'.cell? ⟨w1.heap.size, 2, none⟩ = some (.bool a0) ∧ w'.cell? ⟨w1.heap.size, 3, none⟩ = some (.bool b0) ∧ w'.cell? ⟨w1.heap.size, 4, none⟩ = some (.bool c0) ∧ w'.cell? ⟨ga, i, none⟩ = some (.slice (some ⟨g, 0, none⟩) mr cR))
              (refine ⟨?_, ?_, ?_, ?_, ?_, ?_⟩ <;> (repeat (with_reducible first | exact g0 | exact g1 | exact g2 | exact g3 | exact g4 | exact hrc | exact hgeg | exact hgag | refine cell_drew ?_ | refine cell_alloc _ ?_ | refine cell_farB ?_ ?_ _ | refine cell_later hb7 ?_)))
              (first
                | (go_at_call 58; refine (become_any _ _ _ _ _ _).mono ?_; rintro e w6 ⟨rfl, rfl⟩)
                | (go_at_call 42; refine (alterB_new (0, 0, false, false, false) _ _ _ _ _ w5).mono ?_; rintro e w7 ⟨rfl, hb7⟩; have hB7 := hb7; have hU7 := (HU.out.to hB7); have hrc7 := cell_later hB7 hrc; obtain ⟨fz, ⟨r0, r1, r2, r3, r4⟩, hput⟩ := hU7.put_at HLEN.out HI.out HJ.out hrc7; have HPUT := Lib.hid hput; clear hput hU7))
            have hB8 := below_putEn (bnext HB.out hB7) hbg j (0, 0, false, false, false)
            have hu8 := HPUT.out (0, 0, false, false, false)
            have hL8 := HLay.out.below hB8
            clear HPUT fz r0 r1 r2 r3 r4 hrc7 hB7 hb7 g0 g1 g2 g3 g4 kE
            go_wp2_with (go_at_call 45; refine (shut_changed hu8.uo HVI.out.1 HVI.out.2 Hlen.out hn chk_zero hL8).mono ?_; rintro e w9 ⟨⟨v9, rfl, hs9⟩, hb9⟩)
            ((try simp only [Exit.inBlock, Exit.then]); refine bodyPost_ret (results_tmp4 rfl _ _ _) rfl ?_)
            rw [HRR.out]
            refine ⟨⟨v9, ?_, by rw [pack_zero] at hs9; exact hs9⟩, bnext hB8 hb9⟩
            rw [hF, hS]
            rw [if_neg (fun e => HC.out e.2), if_neg (fun e => HC.out e.2)]; rfl
    · exact absurd H0.out hq
  · have hR : dropR t table page = ([], 0, 0, askS t table page) := by unfold dropR; rw [if_pos h0]
    have hne : (askS t table page != 0) = true := by simpa using h0
    have HRR := Lib.hid hR
    have H0 := Lib.hid h0
    clear hR h0
    go_enter Tryd.func20, Tryd.ntmps20
    go_wp2_with fail
    refine HO.out.mono ?_
    rintro e w1 ⟨hb, ⟨hq, A', c', rfl, hU⟩ | ⟨hq, rfl⟩⟩
    · exact absurd hq H0.out
    · go_wp2
      ((try simp only [Exit.inBlock, Exit.then]); refine bodyPost_ret (results_tmp4 rfl _ _ _) rfl ?_)
      rw [HRR.out]
      exact ⟨⟨_, rfl, ShO.nil _⟩, hb⟩
end Go.Proofs.YtomndlnfidkdcaaDoor
