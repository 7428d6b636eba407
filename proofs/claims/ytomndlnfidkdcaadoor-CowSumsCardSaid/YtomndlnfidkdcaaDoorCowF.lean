/- cow.Break. -/
import Derived.Test.YtomndlnfidkdcaaDoorCowE
namespace Go.Proofs.YtomndlnfidkdcaaDoor
open Go Go.Proofs Go.RowKit Go.Maps
set_option linter.unusedSimpArgs false
set_option linter.unusedVariables false
set_option maxRecDepth 100000

/-- What Break and Out return. -/
def BrkO (r : Sh × Int × Int) (w w' : World) (e : Ending) : Prop := (∃ v, e = .returned (.tuple #[v, .int .i64 r.2.1, .int .i64 r.2.2]) ∧ ShO w' v r.1) ∧ Below w.heap.size w w'

set_option maxHeartbeats 8000000 in
theorem Break_any (A : Option Addr) (n c : Nat) (t : Sh) (table page frame : Int) (w : World) (h : InS w A n t) (hL : LayOK w) :
    Calls Tryd.prog 18 #[.slice A n c, .int .i64 table, .int .i64 page, .int .i64 frame] w fun e w' => BrkO (brkR t table page frame) w w' e := by
  have HO := Lib.hid (open_any A n c t table page w h hL)
  have hn := h.few
  have Hlen := Lib.hid h.rr.len
  have HLay := Lib.hid hL
  clear h hL
  by_cases h0 : askS t table page = 0
  · obtain ⟨hv, i, j, rfl, rfl, hi, hj⟩ := ask_zero h0
    have hBE : brkE t i j frame = (if needR t (wordAt t i j) ≠ 4 then 9 else if frame < 0 ∨ 256 ≤ frame then 2 else if 0 < cntS t (1, frame) then 7 else 0) := by unfold brkE; rw [orE_r _ h0]; simp only [Int.toNat_natCast]
    have hbad : ∀ z, brkE t i j frame = z → z ≠ 0 → brkR t i j frame = ([], 0, z) := fun z hz hne => by unfold brkR; rw [if_pos (by rw [hz]; exact hne), hz]
    have H0 := Lib.hid h0
    have HI := Lib.hid (dec_at hi)
    have HJ0 := Lib.hid (row_at hj)
    have HVI := Lib.hid (And.intro hv hi)
    have HLEN := Lib.hid (show (dec t).length = n by rw [dec_len]; exact Hlen.out)
    have hunp : unpE (wordAt t i j) = 0 := hv.ok _ (rowAt_mem hi) _ (wordAt_mem hj)
    have h64 := ent_i64 _ hunp
    have hok : brkE t i j frame = 0 → brkR t i j frame = (setW t i j (packE (1, frame, true, false, false)), (entW (wordAt t i j)).2.1, 0) := fun hz => by unfold brkR; rw [if_neg (by simp [hz])]; simp only [Int.toNat_natCast]
    rcases hent : entW (wordAt t i j) with ⟨k0, n0, a0, b0, c0⟩
    rw [hent] at h64 hok
    have HJ := Lib.hid (HJ0.out.trans (congrArg some hent))
    have HE := Lib.hid hent
    clear h0 hv hi hj hent HJ0 hunp
    by_cases hN : needR t (wordAt t i j) = 4
    · have HN := Lib.hid hN
      rw [if_neg (by simp [hN])] at hBE
      clear hN
      by_cases h1 : frame < 0
      · have HRR := Lib.hid (hbad 2 (by rw [hBE, if_pos (.inl h1)]) (by decide))
        clear hBE hbad hok
        go_enter Tryd.func18, Tryd.ntmps18
        go_wp2_with fail
        refine HO.out.mono ?_
        rintro e w1 ⟨hb, ⟨_, A', c', rfl, hU⟩ | ⟨hq, rfl⟩⟩
        rotate_left
        · exact absurd H0.out hq
        have hD := OpenR.ok H0.out hn Hlen.out hU
        have HD := Lib.hid hD
        obtain ⟨vs, hu⟩ := hU
        obtain ⟨ga, g, cR, rfl, hgl, hrc, hbg, hgg, hgag, _, ⟨e0, e1, e2, e3, e4⟩, _⟩ := hu.put HLEN.out HI.out HJ.out
        have HU1 := Lib.hid hu
        obtain ⟨mr, hmr⟩ : ∃ mr, mr = ((rowAt t i).map entW).length := ⟨_, rfl⟩
        rw [← hmr] at hrc
        have hjm : j < mr := by rw [hmr]; exact (List.getElem?_eq_some_iff.1 HJ.out).1
        have hm64 : mr ≤ 64 := by rw [hmr, List.length_map]; exact hD.v.row _ (rowAt_mem hD.i_lt)
        have hin : i < n := by rw [← hD.len]; exact hD.i_lt
        have HMR := Lib.hid hmr
        have HB := Lib.hid hb
        clear hmr hD hb
        go_wp2_with fail
        have hB2 : Below w1.heap.size w1 (w1.alloc (.cells #[.int .i64 k0, .int .i64 n0, .bool a0, .bool b0, .bool c0] 61)) := balloc (Below.refl _ _) _
        have kE := Bk.new w1 #[.int .i64 k0, .int .i64 n0, .bool a0, .bool b0, .bool c0] 61
        have hgeg : w1.heap.size ≠ g := by omega
        generalize w1.alloc (.cells #[.int .i64 k0, .int .i64 n0, .bool a0, .bool b0, .bool c0] 61) = w2 at *
        have hdc : Calls Tryd.prog 52 #[.slice (some ⟨ga, 0, none⟩) n c', .agg #[.int .i64 k0, .int .i64 n0, .bool a0, .bool b0, .bool c0]] w2 fun e w' => e = .returned (.int .i64 4) ∧ Below w2.heap.size w2 w' := by
          have h1 := decide_w (HD.out.to hB2) HE
          rw [HN.out] at h1
          exact h1
        refine hdc.mono ?_
        clear hdc
        rintro e w3 ⟨rfl, hb3⟩
        have hB3 : Below w1.heap.size w1 w3 := bnext hB2 hb3
        replace kE := kE.to hb3
        replace hrc := cell_later hB3 hrc
        have HU3 := Lib.hid (HU1.out.to hB3)
        replace HD := Lib.hid (HD.out.to hB3)
        replace HB := Lib.hid (bnext HB.out hB3)
        clear HU1 e0 e1 e2 e3 e4 hb3 hB2 hB3
        have g0 := kE.cell 0
        have g1 := kE.cell 1
        have g2 := kE.cell 2
        have g3 := kE.cell 3
        have g4 := kE.cell 4
        simp at g0 g1 g2 g3 g4
        go_wp2
        go_ret3
        rw [HRR.out]
        exact ⟨⟨_, rfl, ShO.nil _⟩, HB.out⟩
      by_cases h2 : 256 ≤ frame
      · have HRR := Lib.hid (hbad 2 (by rw [hBE, if_pos (.inr h2)]) (by decide))
        clear hBE hbad hok
        go_enter Tryd.func18, Tryd.ntmps18
        go_wp2_with fail
        refine HO.out.mono ?_
        rintro e w1 ⟨hb, ⟨_, A', c', rfl, hU⟩ | ⟨hq, rfl⟩⟩
        rotate_left
        · exact absurd H0.out hq
        have hD := OpenR.ok H0.out hn Hlen.out hU
        have HD := Lib.hid hD
        obtain ⟨vs, hu⟩ := hU
        obtain ⟨ga, g, cR, rfl, hgl, hrc, hbg, hgg, hgag, _, ⟨e0, e1, e2, e3, e4⟩, _⟩ := hu.put HLEN.out HI.out HJ.out
        have HU1 := Lib.hid hu
        obtain ⟨mr, hmr⟩ : ∃ mr, mr = ((rowAt t i).map entW).length := ⟨_, rfl⟩
        rw [← hmr] at hrc
        have hjm : j < mr := by rw [hmr]; exact (List.getElem?_eq_some_iff.1 HJ.out).1
        have hm64 : mr ≤ 64 := by rw [hmr, List.length_map]; exact hD.v.row _ (rowAt_mem hD.i_lt)
        have hin : i < n := by rw [← hD.len]; exact hD.i_lt
        have HMR := Lib.hid hmr
        have HB := Lib.hid hb
        clear hmr hD hb
        go_wp2_with fail
        have hB2 : Below w1.heap.size w1 (w1.alloc (.cells #[.int .i64 k0, .int .i64 n0, .bool a0, .bool b0, .bool c0] 61)) := balloc (Below.refl _ _) _
        have kE := Bk.new w1 #[.int .i64 k0, .int .i64 n0, .bool a0, .bool b0, .bool c0] 61
        have hgeg : w1.heap.size ≠ g := by omega
        generalize w1.alloc (.cells #[.int .i64 k0, .int .i64 n0, .bool a0, .bool b0, .bool c0] 61) = w2 at *
        have hdc : Calls Tryd.prog 52 #[.slice (some ⟨ga, 0, none⟩) n c', .agg #[.int .i64 k0, .int .i64 n0, .bool a0, .bool b0, .bool c0]] w2 fun e w' => e = .returned (.int .i64 4) ∧ Below w2.heap.size w2 w' := by
          have h1 := decide_w (HD.out.to hB2) HE
          rw [HN.out] at h1
          exact h1
        refine hdc.mono ?_
        clear hdc
        rintro e w3 ⟨rfl, hb3⟩
        have hB3 : Below w1.heap.size w1 w3 := bnext hB2 hb3
        replace kE := kE.to hb3
        replace hrc := cell_later hB3 hrc
        have HU3 := Lib.hid (HU1.out.to hB3)
        replace HD := Lib.hid (HD.out.to hB3)
        replace HB := Lib.hid (bnext HB.out hB3)
        clear HU1 e0 e1 e2 e3 e4 hb3 hB2 hB3
        have g0 := kE.cell 0
        have g1 := kE.cell 1
        have g2 := kE.cell 2
        have g3 := kE.cell 3
        have g4 := kE.cell 4
        simp at g0 g1 g2 g3 g4
        go_wp2
        go_ret3
        rw [HRR.out]
        exact ⟨⟨_, rfl, ShO.nil _⟩, HB.out⟩
      obtain ⟨f, rfl⟩ : ∃ f : Nat, frame = f := ⟨frame.toNat, by omega⟩
      have hf : f < 256 := by omega
      have hf2 : (f : Int) < 256 := by omega
      rw [if_neg (by omega)] at hBE
      obtain ⟨lit, hkey⟩ := keyE (1, (f : Int)) (by unfold i64ok; simp only; omega) (by unfold i64ok; simp only; omega)
      have HKF := Lib.hid hkey
      have hty := tly_dec t (1, (f : Int)) (by simp)
      obtain ⟨cF, hcF⟩ : ∃ cF, cF = tlyU (dec t) (1, (f : Int)) := ⟨_, rfl⟩
      have HCF := Lib.hid hcF
      rw [← hcF] at hty
      clear hkey hcF h1 h2
      by_cases hc : 0 < cntS t (1, (f : Int))
      · have hgt : 0 < cF := by omega
        have HRR := Lib.hid (hbad 7 (by rw [hBE, if_pos hc]) (by decide))
        clear hBE hbad hok hty hc
        go_enter Tryd.func18, Tryd.ntmps18
        go_wp2_with fail
        refine HO.out.mono ?_
        rintro e w1 ⟨hb, ⟨_, A', c', rfl, hU⟩ | ⟨hq, rfl⟩⟩
        rotate_left
        · exact absurd H0.out hq
        have hD := OpenR.ok H0.out hn Hlen.out hU
        have HD := Lib.hid hD
        obtain ⟨vs, hu⟩ := hU
        obtain ⟨ga, g, cR, rfl, hgl, hrc, hbg, hgg, hgag, _, ⟨e0, e1, e2, e3, e4⟩, _⟩ := hu.put HLEN.out HI.out HJ.out
        have HU1 := Lib.hid hu
        obtain ⟨mr, hmr⟩ : ∃ mr, mr = ((rowAt t i).map entW).length := ⟨_, rfl⟩
        rw [← hmr] at hrc
        have hjm : j < mr := by rw [hmr]; exact (List.getElem?_eq_some_iff.1 HJ.out).1
        have hm64 : mr ≤ 64 := by rw [hmr, List.length_map]; exact hD.v.row _ (rowAt_mem hD.i_lt)
        have hin : i < n := by rw [← hD.len]; exact hD.i_lt
        have HMR := Lib.hid hmr
        have HB := Lib.hid hb
        clear hmr hD hb
        go_wp2_with fail
        have hB2 : Below w1.heap.size w1 (w1.alloc (.cells #[.int .i64 k0, .int .i64 n0, .bool a0, .bool b0, .bool c0] 61)) := balloc (Below.refl _ _) _
        have kE := Bk.new w1 #[.int .i64 k0, .int .i64 n0, .bool a0, .bool b0, .bool c0] 61
        have hgeg : w1.heap.size ≠ g := by omega
        generalize w1.alloc (.cells #[.int .i64 k0, .int .i64 n0, .bool a0, .bool b0, .bool c0] 61) = w2 at *
        have hdc : Calls Tryd.prog 52 #[.slice (some ⟨ga, 0, none⟩) n c', .agg #[.int .i64 k0, .int .i64 n0, .bool a0, .bool b0, .bool c0]] w2 fun e w' => e = .returned (.int .i64 4) ∧ Below w2.heap.size w2 w' := by
          have h1 := decide_w (HD.out.to hB2) HE
          rw [HN.out] at h1
          exact h1
        refine hdc.mono ?_
        clear hdc
        rintro e w3 ⟨rfl, hb3⟩
        have hB3 : Below w1.heap.size w1 w3 := bnext hB2 hb3
        replace kE := kE.to hb3
        replace hrc := cell_later hB3 hrc
        have HU3 := Lib.hid (HU1.out.to hB3)
        replace HD := Lib.hid (HD.out.to hB3)
        replace HB := Lib.hid (bnext HB.out hB3)
        clear HU1 e0 e1 e2 e3 e4 hb3 hB2 hB3
        have g0 := kE.cell 0
        have g1 := kE.cell 1
        have g2 := kE.cell 2
        have g3 := kE.cell 3
        have g4 := kE.cell 4
        simp at g0 g1 g2 g3 g4
        go_wp2_with (first
          | (go_at_call 56; refine (tally_any _ n c' (dec t) _ HD.out.few HD.out.rr HD.out.rows HD.out.uok).mono ?_; rintro e w4 ⟨rfl, hT4, hb4⟩)
          | (go_at_call 57; refine (frameUse_any _ _).mono ?_; rintro e w5 ⟨rfl, hb5⟩; have hlk := TallyG.look lawE kf_inj Tryd.underlying81 (zeroI _) (TallyG.to hT4 hb5) (1, (f : Int)) HKF.out; rw [← HCF.out] at hlk; simp only [kf] at hlk)
          | fail)
        go_ret3
        rw [HRR.out]
        exact ⟨⟨_, rfl, ShO.nil _⟩, bnext (bnext HB.out hb4) hb5⟩
      · have hgt : cF = 0 := by omega
        subst hgt
        have HRR := Lib.hid (hok (by rw [hBE, if_neg hc]))
        clear hBE hbad hok hty hc
        go_enter Tryd.func18, Tryd.ntmps18
        go_wp2_with fail
        refine HO.out.mono ?_
        rintro e w1 ⟨hb, ⟨_, A', c', rfl, hU⟩ | ⟨hq, rfl⟩⟩
        rotate_left
        · exact absurd H0.out hq
        have hD := OpenR.ok H0.out hn Hlen.out hU
        have HD := Lib.hid hD
        obtain ⟨vs, hu⟩ := hU
        obtain ⟨ga, g, cR, rfl, hgl, hrc, hbg, hgg, hgag, _, ⟨e0, e1, e2, e3, e4⟩, _⟩ := hu.put HLEN.out HI.out HJ.out
        have HU1 := Lib.hid hu
        obtain ⟨mr, hmr⟩ : ∃ mr, mr = ((rowAt t i).map entW).length := ⟨_, rfl⟩
        rw [← hmr] at hrc
        have hjm : j < mr := by rw [hmr]; exact (List.getElem?_eq_some_iff.1 HJ.out).1
        have hm64 : mr ≤ 64 := by rw [hmr, List.length_map]; exact hD.v.row _ (rowAt_mem hD.i_lt)
        have hin : i < n := by rw [← hD.len]; exact hD.i_lt
        have HMR := Lib.hid hmr
        have HB := Lib.hid hb
        clear hmr hD hb
        go_wp2_with fail
        have hB2 : Below w1.heap.size w1 (w1.alloc (.cells #[.int .i64 k0, .int .i64 n0, .bool a0, .bool b0, .bool c0] 61)) := balloc (Below.refl _ _) _
        have kE := Bk.new w1 #[.int .i64 k0, .int .i64 n0, .bool a0, .bool b0, .bool c0] 61
        have hgeg : w1.heap.size ≠ g := by omega
        generalize w1.alloc (.cells #[.int .i64 k0, .int .i64 n0, .bool a0, .bool b0, .bool c0] 61) = w2 at *
        have hdc : Calls Tryd.prog 52 #[.slice (some ⟨ga, 0, none⟩) n c', .agg #[.int .i64 k0, .int .i64 n0, .bool a0, .bool b0, .bool c0]] w2 fun e w' => e = .returned (.int .i64 4) ∧ Below w2.heap.size w2 w' := by
          have h1 := decide_w (HD.out.to hB2) HE
          rw [HN.out] at h1
          exact h1
        refine hdc.mono ?_
        clear hdc
        rintro e w3 ⟨rfl, hb3⟩
        have hB3 : Below w1.heap.size w1 w3 := bnext hB2 hb3
        replace kE := kE.to hb3
        replace hrc := cell_later hB3 hrc
        have HU3 := Lib.hid (HU1.out.to hB3)
        replace HD := Lib.hid (HD.out.to hB3)
        replace HB := Lib.hid (bnext HB.out hB3)
        clear HU1 e0 e1 e2 e3 e4 hb3 hB2 hB3
        have g0 := kE.cell 0
        have g1 := kE.cell 1
        have g2 := kE.cell 2
        have g3 := kE.cell 3
        have g4 := kE.cell 4
        simp at g0 g1 g2 g3 g4
        go_wp2_with (first
          | (go_at_call 56; refine (tally_any _ n c' (dec t) _ HD.out.few HD.out.rr HD.out.rows HD.out.uok).mono ?_; rintro e w4 ⟨rfl, hT4, hb4⟩)
          | (go_at_call 57; refine (frameUse_any _ _).mono ?_; rintro e w5 ⟨rfl, hb5⟩; have hlk := TallyG.look lawE kf_inj Tryd.underlying81 (zeroI _) (TallyG.to hT4 hb5) (1, (f : Int)) HKF.out; rw [← HCF.out] at hlk; simp only [kf] at hlk)
          | fail)
        have hB5 : Below w3.heap.size w3 w5 := bnext hb4 hb5
        replace kE := kE.to hB5
        replace hrc := cell_later hB5 hrc
        have HU := Lib.hid (HU3.out.to hB5)
        replace HB := Lib.hid (bnext HB.out hB5)
        clear g0 g1 g2 g3 g4 HU3 HD hB5 hlk hT4 hb4 hb5
        have g0 := kE.cell 0
        have g1 := kE.cell 1
        have g2 := kE.cell 2
        have g3 := kE.cell 3
        have g4 := kE.cell 4
        simp at g0 g1 g2 g3 g4
        go_region_held3 (fun w' => w'.cell? ⟨w1.heap.size, 0, none⟩ = some (.int .i64 k0) ∧ w'.cell? ⟨w1.heap.size, 1, none⟩ = some (.int .i64 n0) ∧ w'.cell? ⟨w1.heap.size, 2, none⟩ = some (.bool a0) ∧ w'.cell? ⟨w1.heap.size, 3, none⟩ = some (.bool b0) ∧ w'.cell? ⟨w1.heap.size, 4, none⟩ = some (.bool c0) ∧ w'.cell? ⟨ga, i, none⟩ = some (.slice (some ⟨g, 0, none⟩) mr cR))
          (refine ⟨?_, ?_, ?_, ?_, ?_, ?_⟩ <;> (repeat (with_reducible first | exact g0 | exact g1 | exact g2 | exact g3 | exact g4 | exact hrc | exact hgeg | exact hgag | refine cell_drew ?_ | refine cell_alloc _ ?_ | refine cell_farB ?_ ?_ _ | refine cell_later hb7 ?_ | refine cell_later hb6 ?_)))
          (first
            | (go_at_call 57; refine (frameUse_any _ _).mono ?_; rintro e w6 ⟨rfl, hb6⟩)
            | (go_at_call 58; refine (become_any _ _ _ _ _ _).mono ?_; rintro e wz ⟨rfl, rfl⟩)
            | (go_at_call 42; refine (alterBO_new (1, (f : Int), false, false, false) _ _ _ _ _ w6).mono ?_; rintro e w7 ⟨rfl, hb7⟩; have hB7 := bnext (bnext (below_drew (Below.refl _ w5)) hb6) hb7; have hU7 := (HU.out.to hB7); have hrc7 := cell_later hB7 hrc; obtain ⟨fz, ⟨r0, r1, r2, r3, r4⟩, hput⟩ := hU7.put_at HLEN.out HI.out HJ.out hrc7; have HPUT := Lib.hid hput; clear hput hU7))
        have hE8 : ownE (1, (f : Int), false, false, false) = (1, (f : Int), true, false, false) := rfl
        have hck : chkE (ownE (1, (f : Int), false, false, false)) = 0 := by rw [hE8]; exact chk_own (f : Int) true false false (by omega) (by omega) (by decide)
        have hB8 := below_putEn (bnext HB.out hB7) hbg j (ownE (1, (f : Int), false, false, false))
        have hu8 := HPUT.out (ownE (1, (f : Int), false, false, false))
        unfold putEn at hu8 hB8
        have kE8 : w7.cell? ⟨w1.heap.size, 1, none⟩ = some (.int .i64 n0) := by
          have h1 := (kE.to hB7).cell 1
          simpa using h1
        have hc8 := cell_farB (cell_farB (cell_farB (cell_farB (cell_farB kE8 hgeg (o' := j * 5) (.int .i64 (ownE (1, (f : Int), false, false, false)).1)) hgeg (o' := j * 5 + 1) (.int .i64 (ownE (1, (f : Int), false, false, false)).2.1)) hgeg (o' := j * 5 + 2) (.bool (ownE (1, (f : Int), false, false, false)).2.2.1)) hgeg (o' := j * 5 + 3) (.bool (ownE (1, (f : Int), false, false, false)).2.2.2.1)) hgeg (o' := j * 5 + 4) (.bool (ownE (1, (f : Int), false, false, false)).2.2.2.2)
        have HU8 := Lib.hid hu8.uo
        have HL8 := Lib.hid (HLay.out.below hB8)
        have HB8 := Lib.hid hB8
        have HCK := Lib.hid hck
        clear HPUT fz r0 r1 r2 r3 r4 hrc7 hB7 hb7 g0 g1 g2 g3 g4 kE hb6 kE8 hu8 hB8 hE8 hck
        go_wp2_with fail
        generalize ((((w7.setCell ⟨g, j * 5, none⟩ (.int .i64 (ownE (1, (f : Int), false, false, false)).1)).setCell ⟨g, j * 5 + 1, none⟩ (.int .i64 (ownE (1, (f : Int), false, false, false)).2.1)).setCell ⟨g, j * 5 + 2, none⟩ (.bool (ownE (1, (f : Int), false, false, false)).2.2.1)).setCell ⟨g, j * 5 + 3, none⟩ (.bool (ownE (1, (f : Int), false, false, false)).2.2.2.1)).setCell ⟨g, j * 5 + 4, none⟩ (.bool (ownE (1, (f : Int), false, false, false)).2.2.2.2) = w8 at *
        go_region_held3 (fun w' => w'.cell? ⟨w1.heap.size, 1, none⟩ = some (.int .i64 n0))
          (repeat (with_reducible first | exact hc8 | refine cell_drew ?_ | refine cell_later hb9 ?_))
          (first
            | (go_at_call 45; refine (shut_changed (HU8.out.to (below_drew (Below.refl _ _))) HVI.out.1 HVI.out.2 Hlen.out hn HCK.out HL8.out.drew).mono ?_; rintro e w9 ⟨⟨v9, rfl, hs9⟩, hb9⟩))
        all_goals
          have hs10 := hs9
          rw [show packE (ownE (1, (f : Int), false, false, false)) = packE (1, (f : Int), true, false, false) from rfl] at hs10
          go_wp2
          go_ret3
          rw [HRR.out]
          exact ⟨⟨v9, rfl, hs10⟩, bnext (below_drew HB8.out) hb9⟩
    · have hne : (needR t (wordAt t i j) != 4) = true := by simpa using hN
      obtain ⟨N, hNN⟩ : ∃ N, N = needR t (wordAt t i j) := ⟨_, rfl⟩
      rw [← hNN] at hne
      have HN := Lib.hid hNN.symm
      have HRR := Lib.hid (hbad 9 (by rw [hBE, if_pos hN]) (by decide))
      clear hN hNN hBE hbad hok
      go_enter Tryd.func18, Tryd.ntmps18
      go_wp2_with fail
      refine HO.out.mono ?_
      rintro e w1 ⟨hb, ⟨_, A', c', rfl, hU⟩ | ⟨hq, rfl⟩⟩
      rotate_left
      · exact absurd H0.out hq
      have hD := OpenR.ok H0.out hn Hlen.out hU
      have HD := Lib.hid hD
      obtain ⟨vs, hu⟩ := hU
      obtain ⟨ga, g, cR, rfl, hgl, hrc, hbg, hgg, hgag, _, ⟨e0, e1, e2, e3, e4⟩, _⟩ := hu.put HLEN.out HI.out HJ.out
      have HU1 := Lib.hid hu
      obtain ⟨mr, hmr⟩ : ∃ mr, mr = ((rowAt t i).map entW).length := ⟨_, rfl⟩
      rw [← hmr] at hrc
      have hjm : j < mr := by rw [hmr]; exact (List.getElem?_eq_some_iff.1 HJ.out).1
      have hm64 : mr ≤ 64 := by rw [hmr, List.length_map]; exact hD.v.row _ (rowAt_mem hD.i_lt)
      have hin : i < n := by rw [← hD.len]; exact hD.i_lt
      have HMR := Lib.hid hmr
      have HB := Lib.hid hb
      clear hmr hD hb
      go_wp2_with fail
      have hB2 : Below w1.heap.size w1 (w1.alloc (.cells #[.int .i64 k0, .int .i64 n0, .bool a0, .bool b0, .bool c0] 61)) := balloc (Below.refl _ _) _
      have kE := Bk.new w1 #[.int .i64 k0, .int .i64 n0, .bool a0, .bool b0, .bool c0] 61
      have hgeg : w1.heap.size ≠ g := by omega
      generalize w1.alloc (.cells #[.int .i64 k0, .int .i64 n0, .bool a0, .bool b0, .bool c0] 61) = w2 at *
      have hdc : Calls Tryd.prog 52 #[.slice (some ⟨ga, 0, none⟩) n c', .agg #[.int .i64 k0, .int .i64 n0, .bool a0, .bool b0, .bool c0]] w2 fun e w' => e = .returned (.int .i64 N) ∧ Below w2.heap.size w2 w' := by
        have h1 := decide_w (HD.out.to hB2) HE
        rw [HN.out] at h1
        exact h1
      refine hdc.mono ?_
      clear hdc
      rintro e w3 ⟨rfl, hb3⟩
      have hB3 : Below w1.heap.size w1 w3 := bnext hB2 hb3
      replace kE := kE.to hb3
      replace hrc := cell_later hB3 hrc
      have HU3 := Lib.hid (HU1.out.to hB3)
      replace HD := Lib.hid (HD.out.to hB3)
      replace HB := Lib.hid (bnext HB.out hB3)
      clear HU1 e0 e1 e2 e3 e4 hb3 hB2 hB3
      have g0 := kE.cell 0
      have g1 := kE.cell 1
      have g2 := kE.cell 2
      have g3 := kE.cell 3
      have g4 := kE.cell 4
      simp at g0 g1 g2 g3 g4
      go_wp2
      go_ret3
      rw [HRR.out]
      exact ⟨⟨_, rfl, ShO.nil _⟩, HB.out⟩
  · have hR : brkR t table page frame = ([], 0, askS t table page) := by unfold brkR brkE; rw [orE_l _ h0, if_pos h0]
    have hne : (askS t table page != 0) = true := by simpa using h0
    have HRR := Lib.hid hR
    have H0 := Lib.hid h0
    clear hR h0
    go_enter Tryd.func18, Tryd.ntmps18
    go_wp2_with fail
    refine HO.out.mono ?_
    rintro e w1 ⟨hb, ⟨hq, A', c', rfl, hU⟩ | ⟨hq, rfl⟩⟩
    · exact absurd hq H0.out
    · go_wp2
      go_ret3
      rw [HRR.out]
      exact ⟨⟨_, rfl, ShO.nil _⟩, hb⟩
end Go.Proofs.YtomndlnfidkdcaaDoor
