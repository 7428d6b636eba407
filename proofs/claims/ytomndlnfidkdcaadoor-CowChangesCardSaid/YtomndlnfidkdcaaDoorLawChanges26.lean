/- CowChanges returns true, whatever the sharing. -/
import Derived.Test.YtomndlnfidkdcaaDoorQJ
namespace Go.Proofs.YtomndlnfidkdcaaDoor
open Go Go.Proofs Go.RowKit Go.Maps
set_option linter.unusedSimpArgs false
set_option linter.unusedVariables false
set_option maxRecDepth 100000

set_option maxHeartbeats 16000000 in
theorem CowChanges_true (A : Option Addr) (n c : Nat) (t : Sh) (table page frame slot : Int) (w : World) (hR : RR uw 1 w A n t) (hn : n ≤ maxLen) (hs : shsmall t) (hL : LayOK w) :
    Calls Tryd.prog 3 #[.slice A n c, .int .i64 table, .int .i64 page, .int .i64 frame, .int .i64 slot] w fun e w' => e = .returned (.bool true) ∧ Below w.heap.size w w' := by
  unfold maxLen at hn
  have HLG := Lib.hid (large_any A n c t w hR (by unfold maxLen; omega))
  have hB0 := Below.refl w.heap.size w
  have HR := Lib.hid hR
  have HS := Lib.hid hs
  clear hR hs
  go_enter Tryd.func3, Tryd.ntmps3
  go_wp2_with fail
  refine HLG.out.mono ?_
  rintro e w' ⟨b, rfl, hb, rfl⟩
  cases b with
  | true =>
    clear hb
    go_wp2_with fail
    refine (awake_true _ hL).mono ?_
    rintro e w1 ⟨rfl, hb1⟩
    go_wp2
    go_ret
    exact ⟨rfl, hb1⟩
  | false =>
    obtain ⟨h70, h10⟩ := hb rfl
    have hIn : InS w A n t := ⟨HR.out, HS.out, h70, by rw [HR.out.len] at h10; omega⟩
    have FT : Hid (FitS t) := Lib.hid hIn.fit
    have hT := hIn.sho c
    clear hb h70 h10
    have hf0 := fit_fork t table
    rcases h0 : forkR t table with ⟨u0, x00⟩
    rw [h0] at hf0
    have F0 := Lib.hid hf0
    have H0 := Lib.hid h0
    clear h0 hf0
    have hf1 := fit_take t table page
    rcases h1 : takeR t table page with ⟨u1, x10⟩
    rw [h1] at hf1
    have F1 := Lib.hid hf1
    have H1 := Lib.hid h1
    clear h1 hf1
    have hf2 := fit_brk t table page frame
    rcases h2 : brkR t table page frame with ⟨u2, x20, x21⟩
    rw [h2] at hf2
    have F2 := Lib.hid hf2
    have H2 := Lib.hid h2
    clear h2 hf2
    have hf3 := fit_drop t table page
    rcases h3 : dropR t table page with ⟨u3, x30, x31, x32⟩
    rw [h3] at hf3
    have F3 := Lib.hid hf3
    have H3 := Lib.hid h3
    clear h3 hf3
    have hf4 := fit_out t frame slot
    rcases h4 : outR t frame slot with ⟨u4, x40, x41⟩
    rw [h4] at hf4
    have F4 := Lib.hid hf4
    have H4 := Lib.hid h4
    clear h4 hf4
    go_wp2_with fail
    refine (OwnSh_any A n c t _ hIn).mono ?_
    rintro e w1 ⟨v1, rfl, hO, hb1⟩
    have hI := hO.sho
    clear hO
    replace hIn := hIn.to hb1
    replace hT := hT.to hb1
    replace hL := hL.below hb1
    replace hB0 := bnext hB0 hb1
    clear hb1
    go_wp2_with fail
    have hcall := oFork_any _ _ table _ hI FT.out hL
    unfold TkO at hcall
    rw [H0.out] at hcall
    simp only at hcall
    refine hcall.mono ?_
    clear hcall
    rintro e w2 ⟨⟨va0, rfl, ha0⟩, hb2⟩
    replace hIn := hIn.to hb2
    replace hT := hT.to hb2
    replace hI := hI.to hb2
    replace hL := hL.below hb2
    replace hB0 := bnext hB0 hb2
    clear hb2
    go_wp2_with fail
    have hcall := qFork_any A n c t table _ hIn
    unfold TkO at hcall
    rw [H0.out] at hcall
    simp only at hcall
    refine hcall.mono ?_
    clear hcall
    rintro e w3 ⟨⟨vb0, rfl, hb'0⟩, hb3⟩
    replace hIn := hIn.to hb3
    replace hT := hT.to hb3
    replace hI := hI.to hb3
    replace ha0 := ha0.to hb3
    replace hL := hL.below hb3
    replace hB0 := bnext hB0 hb3
    clear hb3
    go_wp2_with fail
    refine (oSame _ _ _ _ ha0 hb'0 F0.out).mono ?_
    rintro e w4 ⟨rfl, hb4⟩
    clear ha0 hb'0
    replace hIn := hIn.to hb4
    replace hT := hT.to hb4
    replace hI := hI.to hb4
    replace hL := hL.below hb4
    replace hB0 := bnext hB0 hb4
    clear hb4
    go_wp2_with fail
    have hcall := oTake_any _ _ table page _ hI FT.out hL
    unfold TkO at hcall
    rw [H1.out] at hcall
    simp only at hcall
    refine hcall.mono ?_
    clear hcall
    rintro e w5 ⟨⟨va1, rfl, ha1⟩, hb5⟩
    replace hIn := hIn.to hb5
    replace hT := hT.to hb5
    replace hI := hI.to hb5
    replace hL := hL.below hb5
    replace hB0 := bnext hB0 hb5
    clear hb5
    go_wp2_with fail
    have hcall := qTake_any A n c t table page _ hIn
    unfold TkO at hcall
    rw [H1.out] at hcall
    simp only at hcall
    refine hcall.mono ?_
    clear hcall
    rintro e w6 ⟨⟨vb1, rfl, hb'1⟩, hb6⟩
    replace hIn := hIn.to hb6
    replace hT := hT.to hb6
    replace hI := hI.to hb6
    replace ha1 := ha1.to hb6
    replace hL := hL.below hb6
    replace hB0 := bnext hB0 hb6
    clear hb6
    go_wp2_with fail
    refine (oSame _ _ _ _ ha1 hb'1 F1.out).mono ?_
    rintro e w7 ⟨rfl, hb7⟩
    clear ha1 hb'1
    replace hIn := hIn.to hb7
    replace hT := hT.to hb7
    replace hI := hI.to hb7
    replace hL := hL.below hb7
    replace hB0 := bnext hB0 hb7
    clear hb7
    go_wp2_with fail
    have hcall := oBreak_any _ _ table page frame _ hI FT.out hL
    unfold BrkO at hcall
    rw [H2.out] at hcall
    simp only at hcall
    refine hcall.mono ?_
    clear hcall
    rintro e w8 ⟨⟨va2, rfl, ha2⟩, hb8⟩
    replace hIn := hIn.to hb8
    replace hT := hT.to hb8
    replace hI := hI.to hb8
    replace hL := hL.below hb8
    replace hB0 := bnext hB0 hb8
    clear hb8
    go_wp2_with fail
    have hcall := qBreak_any A n c t table page frame _ hIn
    unfold BrkO at hcall
    rw [H2.out] at hcall
    simp only at hcall
    refine hcall.mono ?_
    clear hcall
    rintro e w9 ⟨⟨vb2, rfl, hb'2⟩, hb9⟩
    replace hIn := hIn.to hb9
    replace hT := hT.to hb9
    replace hI := hI.to hb9
    replace ha2 := ha2.to hb9
    replace hL := hL.below hb9
    replace hB0 := bnext hB0 hb9
    clear hb9
    go_wp2_with fail
    refine (oSame _ _ _ _ ha2 hb'2 F2.out).mono ?_
    rintro e w10 ⟨rfl, hb10⟩
    clear ha2 hb'2
    replace hIn := hIn.to hb10
    replace hT := hT.to hb10
    replace hI := hI.to hb10
    replace hL := hL.below hb10
    replace hB0 := bnext hB0 hb10
    clear hb10
    go_wp2_with fail
    have hcall := oDrop_any _ _ table page _ hI FT.out hL
    unfold DropO at hcall
    rw [H3.out] at hcall
    simp only at hcall
    refine hcall.mono ?_
    clear hcall
    rintro e w11 ⟨⟨va3, rfl, ha3⟩, hb11⟩
    replace hIn := hIn.to hb11
    replace hT := hT.to hb11
    replace hI := hI.to hb11
    replace hL := hL.below hb11
    replace hB0 := bnext hB0 hb11
    clear hb11
    go_wp2_with fail
    have hcall := qDrop_any A n c t table page _ hIn
    unfold DropO at hcall
    rw [H3.out] at hcall
    simp only at hcall
    refine hcall.mono ?_
    clear hcall
    rintro e w12 ⟨⟨vb3, rfl, hb'3⟩, hb12⟩
    replace hIn := hIn.to hb12
    replace hT := hT.to hb12
    replace hI := hI.to hb12
    replace ha3 := ha3.to hb12
    replace hL := hL.below hb12
    replace hB0 := bnext hB0 hb12
    clear hb12
    go_wp2_with fail
    refine (oSame _ _ _ _ ha3 hb'3 F3.out).mono ?_
    rintro e w13 ⟨rfl, hb13⟩
    clear ha3 hb'3
    replace hIn := hIn.to hb13
    replace hT := hT.to hb13
    replace hI := hI.to hb13
    replace hL := hL.below hb13
    replace hB0 := bnext hB0 hb13
    clear hb13
    go_wp2_with fail
    have hcall := oOut_any _ _ frame slot _ hI FT.out hL
    unfold BrkO at hcall
    rw [H4.out] at hcall
    simp only at hcall
    refine hcall.mono ?_
    clear hcall
    rintro e w14 ⟨⟨va4, rfl, ha4⟩, hb14⟩
    replace hIn := hIn.to hb14
    replace hT := hT.to hb14
    replace hI := hI.to hb14
    replace hL := hL.below hb14
    replace hB0 := bnext hB0 hb14
    clear hb14
    go_wp2_with fail
    have hcall := qOut_any A n c t frame slot _ hIn
    unfold BrkO at hcall
    rw [H4.out] at hcall
    simp only at hcall
    refine hcall.mono ?_
    clear hcall
    rintro e w15 ⟨⟨vb4, rfl, hb'4⟩, hb15⟩
    replace hIn := hIn.to hb15
    replace hT := hT.to hb15
    replace hI := hI.to hb15
    replace ha4 := ha4.to hb15
    replace hL := hL.below hb15
    replace hB0 := bnext hB0 hb15
    clear hb15
    go_wp2_with fail
    refine (oSame _ _ _ _ ha4 hb'4 F4.out).mono ?_
    rintro e w16 ⟨rfl, hb16⟩
    clear ha4 hb'4
    replace hIn := hIn.to hb16
    replace hT := hT.to hb16
    replace hI := hI.to hb16
    replace hL := hL.below hb16
    replace hB0 := bnext hB0 hb16
    clear hb16
    go_wp2_with fail
    refine (oSame _ _ _ _ hI hT FT.out).mono ?_
    rintro e w17 ⟨rfl, hb17⟩
    replace hIn := hIn.to hb17
    replace hT := hT.to hb17
    replace hI := hI.to hb17
    replace hL := hL.below hb17
    replace hB0 := bnext hB0 hb17
    clear hb17
    go_wp2_with fail
    refine (awake_true _ hL).mono ?_
    rintro e w18 ⟨rfl, hb18⟩
    replace hIn := hIn.to hb18
    replace hT := hT.to hb18
    replace hI := hI.to hb18
    replace hL := hL.below hb18
    replace hB0 := bnext hB0 hb18
    clear hb18
    go_wp2
    go_ret
    exact ⟨rfl, hB0⟩
end Go.Proofs.YtomndlnfidkdcaaDoor
