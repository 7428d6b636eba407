/- cow.Counts. -/
import Derived.Test.YtomndlnfidkdcaaDoorCowB
namespace Go.Proofs.YtomndlnfidkdcaaDoor
open Go Go.Proofs Go.RowKit Go.Maps
set_option linter.unusedSimpArgs false
set_option linter.unusedVariables false
set_option maxRecDepth 100000

theorem infoIn : (Tryd.prog.info? 3).map (fun i => (i.zero, i.size, i.bytes)) = some (some (.int .i64 0), 1, 8) := by kernel_rfl
/-- The first k counts are there. -/
def cntF (t : Sh) (kd : Int) (k i : Nat) : Value := .int .i64 (if i < k then (cntS t (kd, (i : Int)) : Int) else 0)
theorem cntF_done {w : World} {g : Nat} {t : Sh} {kd : Int} (h : w.rowIs g 3 256 (cntF t kd 256)) : Rd w 1 (some ⟨g, 0, none⟩) 256 (iw (mapsL t kd)) := by
  refine rowIs_rd h _ (by simp [iw, mapsL]) (fun j hj => ?_)
  simp [iw, mapsL, cntF, hj]
theorem cntF_step {w : World} {g : Nat} {t : Sh} {kd : Int} {k : Nat} (h : w.rowIs g 3 256 (cntF t kd k)) : (w.setCell ⟨g, k, none⟩ (.int .i64 (cntS t (kd, (k : Int)) : Nat))).rowIs g 3 256 (cntF t kd (k + 1)) := by
  refine (h.set k _).congr fun i hi => ?_
  unfold cntF
  by_cases e : i = k
  · subst e
    simp
  · rw [if_neg e]
    by_cases h1 : i < k
    · rw [if_pos h1, if_pos (by omega)]
    · rw [if_neg h1, if_neg (by omega)]
def CntI (t : Sh) (w : World) (Bt G1 G2 : Nat) (i : Value) (wr : World) : Prop :=
  ∃ k : Nat, k ≤ 256 ∧ i = .int .i64 k ∧ wr.rowIs G2 3 256 (cntF t 2 k) ∧ wr.rowIs G1 3 256 (cntF t 1 256) ∧ TlyM wr Bt (dec t) ∧ Below w.heap.size w wr
/-- What Counts returns. -/
def CntR (t : Sh) (w w' : World) (e : Ending) : Prop :=
  ∃ A c B d, e = .returned (.tuple #[.slice A (cntsR t).1.length c, .slice B (cntsR t).2.1.length d, .int .i64 (cntsR t).2.2]) ∧ Rd w' 1 A (cntsR t).1.length (iw (cntsR t).1) ∧ Rd w' 1 B (cntsR t).2.1.length (iw (cntsR t).2.1) ∧ Below w.heap.size w w'

set_option maxHeartbeats 4000000 in
theorem Counts_any (A : Option Addr) (n c : Nat) (t : Sh) (w : World) (h : InS w A n t) (hL : LayOK w) :
    Calls Tryd.prog 26 #[.slice A n c] w fun e w' => CntR t w w' e := by
  have HR := Lib.hid (h.read c hL)
  have hn := h.few
  have Hlen := Lib.hid h.rr.len
  clear h
  by_cases h0 : (shE t).1 = 0
  · have hv := (sh_iff t).1 h0
    have hR : cntsR t = (mapsL t 1, mapsL t 2, 0) := by unfold cntsR; rw [if_neg (by simp [h0])]
    have HRR := Lib.hid hR
    have H0 := Lib.hid h0
    have HOK := Lib.hid (dec_uok hv.ok)
    have hr70 : ∀ l ∈ dec t, l.length ≤ 70 := dec_rows fun l hl => by have := hv.row l hl; omega
    have HD := Lib.hid hr70
    have hmk := run_make_row' (P := Tryd.prog) 39 3 (.int .i64 0) 8 Tryd.underlying39 infoIn rfl .i64 .i64 256 (by omega) (by omega)
    replace hmk : ∀ w : World, (Instr.makeSlice 39 (.int .i64 256) (.int .i64 256)).run Tryd.prog w = .ok (.slice (some ⟨w.heap.size, 0, none⟩) 256 256) (w.alloc (.cells (madeCells #[.int .i64 0] 256) 3)) := hmk
    clear hR h0 hv hr70
    go_enter Tryd.func26, Tryd.ntmps26
    go_wp2_with fail
    refine HR.out.mono ?_
    rintro e w1 ⟨hb, ⟨_, A', c', rfl, hU⟩ | ⟨hq, rfl⟩⟩
    · have hRU := hU.rr (by rw [dec_len]; exact Hlen.out)
      clear hU
      go_wp2_with fail
      refine (tally_any A' n c' (dec t) w1 hn hRU HD.out HOK.out).mono ?_
      rintro e w2 ⟨rfl, hT, hb2⟩
      have hB2 := bnext hb hb2
      have hlt2 := hT.lt
      generalize w1.heap.size = Bt at *
      clear hb hb2 hRU
      have hm1 := (World.rowIs_made w2 (.int .i64 0) 256 3).congr (g := cntF t 1 0) (fun i hi => by simp [cntF])
      have hT3 := hT.alloc (.cells (madeCells #[.int .i64 0] 256) 3)
      have hB3 := balloc hB2 (.cells (madeCells #[.int .i64 0] 256) 3)
      go_wp2_with fail
      generalize w2.alloc (.cells (madeCells #[.int .i64 0] 256) 3) = w3 at *
      go_loopw [24] (fun i wr => ∃ k : Nat, k ≤ 256 ∧ i = .int .i64 k ∧ wr.rowIs w2.heap.size 3 256 (cntF t 1 k) ∧ TlyM wr Bt (dec t) ∧ Below w.heap.size w wr) (fun i _ => 256 - (intOf i).toNat)
      case atStart => exact ⟨0, by omega, rfl, hm1, hT3, hB3⟩
      case round =>
        clear hm1 hT3 hB3
        obtain ⟨k, hkn, rfl, hm1, hT3, hB3⟩ := hrel
        by_cases hlt : k < 256
        · obtain ⟨lit, hkey⟩ := keyE (1, (k : Int)) (by unfold i64ok; simp) (by unfold i64ok; simp only; omega)
          have HKEY := Lib.hid hkey
          have HV := Lib.hid (tly_dec t (1, (k : Int)) (by simp))
          have i1 : (0 : Int) ≤ (k : Int) := by omega
          have i2 : (k : Int) < 256 := by omega
          clear hkey
          go_wp2_with fail
          refine (frameUse_any _ _).mono ?_
          rintro e w4 ⟨rfl, hb4⟩
          have hlk := TallyG.look lawE kf_inj Tryd.underlying81 (zeroI _) (hT3.to hb4) (1, (k : Int)) HKEY.out
          rw [HV.out] at hlk
          simp only [kf] at hlk
          have hm4 := rowIs_block hm1 hb4
          have c4 := hm4.cell hlt
          have f4 := hm4.frozen k
          have l4 := hm4.lt
          have hst := cntF_step hm4
          have hTs : TlyM (w4.setCell ⟨w2.heap.size, k, none⟩ (.int .i64 (cntS t (1, (k : Int)) : Nat))) Bt (dec t) := (hT3.to hb4).block (Below.heap_setCell w4 ⟨w2.heap.size, k, none⟩ _ Bt (by show Bt ≠ w2.heap.size; omega))
          have hBs := (bnext hB3 hb4).setCell (p := ⟨w2.heap.size, k, none⟩) hB2.size (.int .i64 (cntS t (1, (k : Int)) : Nat))
          have HST := Lib.hid (And.intro hst (And.intro hTs hBs))
          clear hst hTs hBs hm4 hm1 hT3 hB3 hb4
          go_wp2
          go_roundw
          case rel => exact ⟨k + 1, by omega, by go_num, HST.out.1, HST.out.2.1, HST.out.2.2⟩
          case measure => simp [intOf]; omega
        · have hk256 : k = 256 := by omega
          rw [hk256] at hm1
          have hge : ¬ ((k : Int) < 256) := by omega
          clear hk256 hkn hlt
          have hm2 := (World.rowIs_made wr (.int .i64 0) 256 3).congr (g := cntF t 2 0) (fun i hi => by simp [cntF])
          have hT4 := hT3.alloc (.cells (madeCells #[.int .i64 0] 256) 3)
          have hB4 := balloc hB3 (.cells (madeCells #[.int .i64 0] 256) 3)
          have hm3 := hm1.alloc (.cells (madeCells #[.int .i64 0] 256) 3)
          have hl1 := hm1.lt
          clear hm1 hT3
          go_wp2_with fail
          generalize hG : wr.heap.size = G2 at *
          generalize wr.alloc (.cells (madeCells #[.int .i64 0] 256) 3) = w5 at *
          generalize hG1 : w2.heap.size = G1 at *
          have hBG : Bt < G1 := by omega
          have hwG : w.heap.size ≤ G1 := by have := hB2.size; omega
          clear hG hG1 hmk
          obtain ⟨wo, rfl⟩ : ∃ wo : World, wo = wr := ⟨_, rfl⟩
          go_loopw [38] (CntI t w Bt G1 G2) (fun i _ => 256 - (intOf i).toNat)
          case atStart => exact ⟨0, by omega, rfl, hm2, hm3, hT4, hB4⟩
          case round =>
            clear hm2 hm3 hT4 hB4
            obtain ⟨k, hkn2, rfl, hm2, hm1, hT3, hB3⟩ := hrel
            by_cases hlt3 : k < 256
            · obtain ⟨lit, hkey⟩ := keyE (2, (k : Int)) (by unfold i64ok; simp) (by unfold i64ok; simp only; omega)
              have HKEY := Lib.hid hkey
              have HV := Lib.hid (tly_dec t (2, (k : Int)) (by simp))
              have i1 : (0 : Int) ≤ (k : Int) := by omega
              have i2 : (k : Int) < 256 := by omega
              clear hkey
              go_wp2_with fail
              refine (slotUse_any _ _).mono ?_
              rintro e w4 ⟨rfl, hb4⟩
              have hlk := TallyG.look lawE kf_inj Tryd.underlying81 (zeroI _) (hT3.to hb4) (2, (k : Int)) HKEY.out
              rw [HV.out] at hlk
              simp only [kf] at hlk
              have hm4 := rowIs_block hm2 hb4
              have c4 := hm4.cell hlt3
              have f4 := hm4.frozen k
              have l4 := hm4.lt
              have hst := cntF_step hm4
              have hTs : TlyM (w4.setCell ⟨G2, k, none⟩ (.int .i64 (cntS t (2, (k : Int)) : Nat))) Bt (dec t) := (hT3.to hb4).block (Below.heap_setCell w4 ⟨G2, k, none⟩ _ Bt (by show Bt ≠ G2; omega))
              have hBs := (bnext hB3 hb4).setCell (p := ⟨G2, k, none⟩) (by show w.heap.size ≤ G2; omega) (.int .i64 (cntS t (2, (k : Int)) : Nat))
              have hms := (rowIs_block hm1 hb4).setOther (a := ⟨G2, k, none⟩) (by show G1 ≠ G2; omega) (.int .i64 (cntS t (2, (k : Int)) : Nat))
              have HST := Lib.hid (And.intro hst (And.intro hms (And.intro hTs hBs)))
              clear hst hTs hBs hms hm4 hm1 hm2 hT3 hB3 hb4
              go_wp2
              go_roundw
              case rel => exact ⟨k + 1, by omega, by go_num, HST.out.1, HST.out.2.1, HST.out.2.2.1, HST.out.2.2.2⟩
              case measure => simp [intOf]; omega
            · obtain rfl : k = 256 := by omega
              go_wp2
              go_ret3
              unfold CntR
              rw [HRR.out]
              have hl1 : (mapsL t 1).length = 256 := by simp [mapsL]
              have hl2 : (mapsL t 2).length = 256 := by simp [mapsL]
              simp only [hl1, hl2]
              exact ⟨_, _, _, _, rfl, cntF_done hm1, cntF_done hm2, hB3⟩
    · exact absurd H0.out hq
  · have hR : cntsR t = ([], [], (shE t).1) := by unfold cntsR; rw [if_pos h0]
    have hne : ((shE t).1 != 0) = true := by simpa using h0
    have HRR := Lib.hid hR
    have H0 := Lib.hid h0
    clear hR h0
    go_enter Tryd.func26, Tryd.ntmps26
    go_wp2_with fail
    refine HR.out.mono ?_
    rintro e w1 ⟨hb, ⟨hq, A', c', rfl, hU⟩ | ⟨hq, rfl⟩⟩
    · exact absurd hq H0.out
    · go_wp2
      go_ret3
      unfold CntR
      rw [HRR.out]
      exact ⟨none, 0, none, 0, rfl, Rd.zero _, Rd.zero _, hb⟩
end Go.Proofs.YtomndlnfidkdcaaDoor
