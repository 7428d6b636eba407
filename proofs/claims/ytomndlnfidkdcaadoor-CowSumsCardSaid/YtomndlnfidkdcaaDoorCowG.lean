/- cow.Take. -/
import Derived.Test.YtomndlnfidkdcaaDoorCowF
namespace Go.Proofs.YtomndlnfidkdcaaDoor
open Go Go.Proofs Go.RowKit Go.Maps
set_option linter.unusedSimpArgs false
set_option linter.unusedVariables false
set_option maxRecDepth 100000

/-- What Take and Fork return. -/
def TkO (r : Sh × Int) (w w' : World) (e : Ending) : Prop := (∃ v, e = .returned (.tuple #[v, .int .i64 r.2]) ∧ ShO w' v r.1) ∧ Below w.heap.size w w'

set_option maxHeartbeats 8000000 in
theorem Take_any (A : Option Addr) (n c : Nat) (t : Sh) (table page : Int) (w : World) (h : InS w A n t) (hL : LayOK w) :
    Calls Tryd.prog 16 #[.slice A n c, .int .i64 table, .int .i64 page] w fun e w' => TkO (takeR t table page) w w' e := by
  have HO := Lib.hid (open_any A n c t table page w h hL)
  have hn := h.few
  have Hlen := Lib.hid h.rr.len
  have HLay := Lib.hid hL
  clear h hL
  by_cases h0 : askS t table page = 0
  · obtain ⟨hv, i, j, rfl, rfl, hi, hj⟩ := ask_zero h0
    have hBE : takeE t i j = (if needR t (wordAt t i j) ≠ 3 then 9 else 0) := by unfold takeE; rw [orE_r _ h0]; simp only [Int.toNat_natCast]
    have hbad : ∀ z, takeE t i j = z → z ≠ 0 → takeR t i j = ([], z) := fun z hz hne => by unfold takeR; rw [if_pos (by rw [hz]; exact hne), hz]
    have H0 := Lib.hid h0
    have HI := Lib.hid (dec_at hi)
    have HJ0 := Lib.hid (row_at hj)
    have HVI := Lib.hid (And.intro hv hi)
    have HLEN := Lib.hid (show (dec t).length = n by rw [dec_len]; exact Hlen.out)
    have hunp : unpE (wordAt t i j) = 0 := hv.ok _ (rowAt_mem hi) _ (wordAt_mem hj)
    have hok : takeE t i j = 0 → takeR t i j = (setW t i j (packE (ownE (entW (wordAt t i j)))), 0) := fun hz => by unfold takeR; rw [if_neg (by simp [hz])]; simp only [Int.toNat_natCast]
    rcases hent : entW (wordAt t i j) with ⟨k0, n0, a0, b0, c0⟩
    rw [hent] at hok
    have HJ := Lib.hid (HJ0.out.trans (congrArg some hent))
    have HE := Lib.hid hent
    clear h0 hv hi hj hent HJ0
    by_cases hN : needR t (wordAt t i j) = 3
    · have HN := Lib.hid hN
      rw [if_neg (by simp [hN])] at hBE
      have hck : chkE (k0, n0, true, false, c0) = 0 := by
        obtain ⟨m, d, he, hm0, hm1, _⟩ := need_three hunp hN
        rw [HE.out] at he
        injection he with he1 he
        injection he with he2 he
        rw [he1, he2]
        exact chk_own m true false c0 hm0 hm1 (by decide)
      have HCK := Lib.hid hck
      have HRR := Lib.hid (hok hBE)
      clear hN hBE hbad hok hunp hck
      go_enter Tryd.func16, Tryd.ntmps16
      go_wp2_with fail
      refine HO.out.mono ?_
      rintro e w1 ⟨hb, ⟨_, A', c', rfl, hU⟩ | ⟨hq, rfl⟩⟩
      rotate_left
      · exact absurd H0.out hq
      have hD := OpenR.ok H0.out hn Hlen.out hU
      have HD := Lib.hid hD
      obtain ⟨vs, hu⟩ := hU
      obtain ⟨ga, g, cR, rfl, hgl, hrc, hbg, hgg, hgag, _, ⟨e0, e1, e2, e3, e4⟩, _⟩ := hu.put HLEN.out HI.out HJ.out
      have HU1 := Lib.hid hu
      obtain ⟨mr, hmr⟩ : ∃ mr, mr = ((rowAt t i).map entW).length := ⟨_, rfl⟩
      rw [← hmr] at hrc
      have hjm : j < mr := by rw [hmr]; exact (List.getElem?_eq_some_iff.1 HJ.out).1
      have hm64 : mr ≤ 64 := by rw [hmr, List.length_map]; exact hD.v.row _ (rowAt_mem hD.i_lt)
      have hin : i < n := by rw [← hD.len]; exact hD.i_lt
      have HMR := Lib.hid hmr
      have HB := Lib.hid hb
      clear hmr hD hb
      go_wp2_with fail
      have hdc : Calls Tryd.prog 52 #[.slice (some ⟨ga, 0, none⟩) n c', .agg #[.int .i64 k0, .int .i64 n0, .bool a0, .bool b0, .bool c0]] w1 fun e w' => e = .returned (.int .i64 3) ∧ Below w1.heap.size w1 w' := by
        have h1 := decide_w HD.out HE
        rw [HN.out] at h1
        exact h1
      refine hdc.mono ?_
      clear hdc
      rintro e w3 ⟨rfl, hb3⟩
      replace hrc := cell_later hb3 hrc
      have HU3 := Lib.hid (HU1.out.to hb3)
      replace HD := Lib.hid (HD.out.to hb3)
      replace HB := Lib.hid (bnext HB.out hb3)
      have hsz := hb3.size
      have hgg3 : g < w3.heap.size := by omega
      have hgl3 : ga < w3.heap.size := by omega
      clear HU1 e0 e1 e2 e3 e4 hb3
      go_wp2_with fail
      obtain ⟨_, ⟨q0, q1, q2, q3, q4⟩, _⟩ := HU3.out.put_at HLEN.out HI.out HJ.out hrc
      go_region_law (first
          | (go_simp; go_at_call 42; (first | refine (alterO_new _ _ _ _ _ w3).mono ?_ | refine (alterO_newD _ _ _ _ _ w3).mono ?_ | refine (alterO_new _ _ _ _ _ w3.drew).mono ?_); rintro e w7 ⟨rfl, hb7⟩; have hrc7 := cell_later hb7 hrc; have hU7 := HU3.out.to hb7; obtain ⟨fz, ⟨r0, r1, r2, r3, r4⟩, hput⟩ := hU7.put_at HLEN.out HI.out HJ.out hrc7; have HPUT := Lib.hid hput; clear hput hU7))
      all_goals
        have hB8 := below_putEn (bnext HB.out hb7) hbg j (k0, n0, true, false, c0)
        have hu8 := HPUT.out (k0, n0, true, false, c0)
        have hL8 := HLay.out.below hB8
        clear HPUT fz r0 r1 r2 r3 r4 hrc7 hb7 q0 q1 q2 q3 q4
        go_wp2_with (go_at_call 45; refine (shut_changed hu8.uo HVI.out.1 HVI.out.2 Hlen.out hn HCK.out hL8).mono ?_; rintro e w9 ⟨⟨v9, rfl, hs9⟩, hb9⟩)
        go_ret2
        rw [HRR.out]
        exact ⟨⟨v9, rfl, hs9⟩, bnext hB8 hb9⟩
    · have hne : (needR t (wordAt t i j) != 3) = true := by simpa using hN
      obtain ⟨N, hNN⟩ : ∃ N, N = needR t (wordAt t i j) := ⟨_, rfl⟩
      rw [← hNN] at hne
      have HN := Lib.hid hNN.symm
      have HRR := Lib.hid (hbad 9 (by rw [hBE, if_pos hN]) (by decide))
      clear hN hNN hBE hbad hok hunp
      go_enter Tryd.func16, Tryd.ntmps16
      go_wp2_with fail
      refine HO.out.mono ?_
      rintro e w1 ⟨hb, ⟨_, A', c', rfl, hU⟩ | ⟨hq, rfl⟩⟩
      rotate_left
      · exact absurd H0.out hq
      have hD := OpenR.ok H0.out hn Hlen.out hU
      have HD := Lib.hid hD
      obtain ⟨vs, hu⟩ := hU
      obtain ⟨ga, g, cR, rfl, hgl, hrc, hbg, hgg, hgag, _, ⟨e0, e1, e2, e3, e4⟩, _⟩ := hu.put HLEN.out HI.out HJ.out
      have HU1 := Lib.hid hu
      obtain ⟨mr, hmr⟩ : ∃ mr, mr = ((rowAt t i).map entW).length := ⟨_, rfl⟩
      rw [← hmr] at hrc
      have hjm : j < mr := by rw [hmr]; exact (List.getElem?_eq_some_iff.1 HJ.out).1
      have hm64 : mr ≤ 64 := by rw [hmr, List.length_map]; exact hD.v.row _ (rowAt_mem hD.i_lt)
      have hin : i < n := by rw [← hD.len]; exact hD.i_lt
      have HMR := Lib.hid hmr
      have HB := Lib.hid hb
      clear hmr hD hb
      go_wp2_with fail
      have hdc : Calls Tryd.prog 52 #[.slice (some ⟨ga, 0, none⟩) n c', .agg #[.int .i64 k0, .int .i64 n0, .bool a0, .bool b0, .bool c0]] w1 fun e w' => e = .returned (.int .i64 N) ∧ Below w1.heap.size w1 w' := by
        have h1 := decide_w HD.out HE
        rw [HN.out] at h1
        exact h1
      refine hdc.mono ?_
      clear hdc
      rintro e w3 ⟨rfl, hb3⟩
      replace hrc := cell_later hb3 hrc
      have HU3 := Lib.hid (HU1.out.to hb3)
      replace HD := Lib.hid (HD.out.to hb3)
      replace HB := Lib.hid (bnext HB.out hb3)
      have hsz := hb3.size
      have hgg3 : g < w3.heap.size := by omega
      have hgl3 : ga < w3.heap.size := by omega
      clear HU1 e0 e1 e2 e3 e4 hb3
      go_wp2
      go_ret2
      rw [HRR.out]
      exact ⟨⟨_, rfl, ShO.nil _⟩, HB.out⟩
  · have hR : takeR t table page = ([], askS t table page) := by unfold takeR takeE; rw [orE_l _ h0, if_pos h0]
    have hne : (askS t table page != 0) = true := by simpa using h0
    have HRR := Lib.hid hR
    have H0 := Lib.hid h0
    clear hR h0
    go_enter Tryd.func16, Tryd.ntmps16
    go_wp2_with fail
    refine HO.out.mono ?_
    rintro e w1 ⟨hb, ⟨hq, A', c', rfl, hU⟩ | ⟨hq, rfl⟩⟩
    · exact absurd hq H0.out
    · go_wp2
      go_ret2
      rw [HRR.out]
      exact ⟨⟨_, rfl, ShO.nil _⟩, hb⟩
end Go.Proofs.YtomndlnfidkdcaaDoor
