/- headgatelaw26.made: the sharing that numbers make. -/
import Derived.Test.YtomndlnfidkdcaaDoorQJ
import Derived.Test.YtomndlnfidkdcaaDoorAddr0
import Derived.Deep.CutBlock
import Derived.Deep.DeepCutAuto
namespace Go.Proofs.YtomndlnfidkdcaaDoor
open Go Go.Proofs Go.RowKit Go.Maps
set_option linter.unusedSimpArgs false
set_option linter.unusedVariables false
set_option maxRecDepth 100000

def MdC (u : Sh) (z : Int) (wr : World) (s9 s10 : Value) (wx : World) : Prop := ShO wx s9 u ∧ s10 = .int .i64 z ∧ Below wr.heap.size wr wx
def MdL (zs : List Int) (w : World) (v i : Value) (wr : World) : Prop := Nonempty {k : Nat // k ≤ zs.length ∧ k ≤ 40 ∧ i = .int .i64 k ∧ ShO wr v (mdTo zs k) ∧ Below w.heap.size w wr}
def JxR (N : Nat) (wx : World) (i : Value) (wv : World) : Prop := ∃ j : Nat, j ≤ N ∧ i = .int .i64 j ∧ wv = wx
def JxS (N : Nat) (F : Nat → Nat) (wx : World) (s i : Value) (wv : World) : Prop := ∃ j : Nat, j ≤ N ∧ i = .int .i64 j ∧ s = .int .i64 (F j : Nat) ∧ wv = wx
/-- What made returns. -/
def MdO (t : Sh) (w w' : World) (e : Ending) : Prop := (∃ v, e = .returned (.tuple #[v, .bool true]) ∧ ShO w' v t) ∧ Below w.heap.size w w'
theorem MdV.fit {t : Sh} (h : MdV t) : FitS t := h.v.fit
theorem mdR_fork {t : Sh} {i : Nat} {n : Int} (h : n % 8 = 0 ∨ n % 8 = 1) (h4 : t.length < 4) : mdR t i n = forkR t (n / 8 % (t.length : Int)) := by unfold mdR; rw [if_pos h, if_pos h4]
theorem mdR_full {t : Sh} {i : Nat} {n : Int} (h : n % 8 = 0 ∨ n % 8 = 1) (h4 : ¬ t.length < 4) : mdR t i n = (t, 0) := by unfold mdR; rw [if_pos h, if_neg h4]
theorem mdR_brk {t : Sh} {i : Nat} {n : Int} (h : n % 8 = 2 ∨ n % 8 = 3) : mdR t i n = ((brkR t (n / 8 % (t.length : Int)) (n / 64 % 6) (10 + (i : Int))).1, (brkR t (n / 8 % (t.length : Int)) (n / 64 % 6) (10 + (i : Int))).2.2) := by
  unfold mdR; rw [if_neg (by omega), if_pos h]
theorem mdR_take {t : Sh} {i : Nat} {n : Int} (h : n % 8 = 4) : mdR t i n = takeR t (n / 8 % (t.length : Int)) (n / 64 % 6) := by
  unfold mdR; rw [if_neg (by omega), if_neg (by omega), if_pos h]
theorem mdR_drop {t : Sh} {i : Nat} {n : Int} (h : n % 8 = 5) : mdR t i n = ((dropR t (n / 8 % (t.length : Int)) (n / 64 % 6)).1, (dropR t (n / 8 % (t.length : Int)) (n / 64 % 6)).2.2.2) := by
  unfold mdR; rw [if_neg (by omega), if_neg (by omega), if_neg (by omega), if_pos h]
theorem mdR_out {t : Sh} {i : Nat} {n : Int} (h : n % 8 = 6 ∨ n % 8 = 7) : mdR t i n = ((outR t (n / 512 % 50) (10 + (i : Int))).1, (outR t (n / 512 % 50) (10 + (i : Int))).2.2) := by
  unfold mdR; rw [if_neg (by omega), if_neg (by omega), if_neg (by omega), if_neg (by omega)]
theorem mdTo_next (zs : List Int) (k : Nat) {u : Sh} {z q : Int} (hq : zs.getD k 0 % 1048576 = q) (h : mdR (mdTo zs k) k q = (u, z)) : mdTo zs (k + 1) = if z = 0 then u else mdTo zs k := by
  show mdStep (mdTo zs k) k (zs.getD k 0 % 1048576) = _
  rw [hq]
  unfold mdStep
  rw [h]
set_option maxHeartbeats 16000000 in
theorem made_any (zs : List Int) (A : Option Addr) (c : Nat) (w : World) (hr : Rd w 1 A zs.length (iw zs)) (hn : zs.length ≤ maxLen) (hL : LayOK w) :
    Calls Tryd.prog 38 #[.slice A zs.length c] w fun e w' => MdO (mdTo zs (min zs.length 40)) w w' e := by
  unfold maxLen at hn
  have hB0 := Below.refl w.heap.size w
  obtain ⟨NZ, hNZ⟩ : ∃ n, n = zs.length := ⟨_, rfl⟩
  rw [← hNZ] at hr hn ⊢
  have HNZ := Lib.hid hNZ
  have HRD := Lib.hid hr
  have HLW := Lib.hid hL
  clear hr hNZ
  go_enter Tryd.func38, Tryd.ntmps38
  go_wp2_with fail
  refine (p_any 0 true _ (by decide) (by decide) hL).mono ?_
  rintro e w1 ⟨rfl, hb1⟩
  replace hL := hL.below hb1
  replace hB0 := bnext hB0 hb1
  clear hb1
  go_wp2_with fail
  refine (p_any 1 true _ (by decide) (by decide) hL).mono ?_
  rintro e w2 ⟨rfl, hb2⟩
  replace hL := hL.below hb2
  replace hB0 := bnext hB0 hb2
  clear hb2
  go_wp2_with fail
  refine (p_any 3 true _ (by decide) (by decide) hL).mono ?_
  rintro e w3 ⟨rfl, hb3⟩
  replace hL := hL.below hb3
  replace hB0 := bnext hB0 hb3
  clear hb3
  go_wp2_with fail
  refine (s_any 0 _ (by decide) (by decide) hL).mono ?_
  rintro e w4 ⟨rfl, hb4⟩
  replace hL := hL.below hb4
  replace hB0 := bnext hB0 hb4
  clear hb4
  go_wp2_with fail
  refine (p_any 5 true _ (by decide) (by decide) hL).mono ?_
  rintro e w5 ⟨rfl, hb5⟩
  replace hL := hL.below hb5
  replace hB0 := bnext hB0 hb5
  clear hb5
  -- row
  go_wp2_with fail
  have hR1 : Rd (w5.alloc (.cells #[.int .u64 (pW 0 true : Nat), .int .u64 (pW 1 true : Nat), .int .u64 0, .int .u64 (pW 3 true : Nat), .int .u64 (sW 0 : Nat), .int .u64 (pW 5 true : Nat)] 52)) 1 (some ⟨w5.heap.size, 0, none⟩) 6 (uw [pW 0 true, pW 1 true, 0, pW 3 true, sW 0, pW 5 true]) := rd_row w5 w5.heap.size [pW 0 true, pW 1 true, 0, pW 3 true, sW 0, pW 5 true] #[.int .u64 (pW 0 true : Nat), .int .u64 (pW 1 true : Nat), .int .u64 0, .int .u64 (pW 3 true : Nat), .int .u64 (sW 0 : Nat), .int .u64 (pW 5 true : Nat)] rfl (by simp)
  replace hL := hL.alloc (.cells #[.int .u64 (pW 0 true : Nat), .int .u64 (pW 1 true : Nat), .int .u64 0, .int .u64 (pW 3 true : Nat), .int .u64 (sW 0 : Nat), .int .u64 (pW 5 true : Nat)] 52)
  replace hB0 := balloc hB0 (.cells #[.int .u64 (pW 0 true : Nat), .int .u64 (pW 1 true : Nat), .int .u64 0, .int .u64 (pW 3 true : Nat), .int .u64 (sW 0 : Nat), .int .u64 (pW 5 true : Nat)] 52)
  have hS2 : ShO ((w5.alloc (.cells #[.int .u64 (pW 0 true : Nat), .int .u64 (pW 1 true : Nat), .int .u64 0, .int .u64 (pW 3 true : Nat), .int .u64 (sW 0 : Nat), .int .u64 (pW 5 true : Nat)] 52)).alloc (.cells #[.slice (some ⟨w5.heap.size, 0, none⟩) 6 6] 54)) (.slice (some ⟨(w5.heap.size + 1), 0, none⟩) 1 1) [[pW 0 true, pW 1 true, 0, pW 3 true, sW 0, pW 5 true]] := sho_one (w5.alloc (.cells #[.int .u64 (pW 0 true : Nat), .int .u64 (pW 1 true : Nat), .int .u64 0, .int .u64 (pW 3 true : Nat), .int .u64 (sW 0 : Nat), .int .u64 (pW 5 true : Nat)] 52)) (w5.heap.size + 1) hR1 (by simp)
  replace hR1 := hR1.alloc (.cells #[.slice (some ⟨w5.heap.size, 0, none⟩) 6 6] 54)
  replace hL := hL.alloc (.cells #[.slice (some ⟨w5.heap.size, 0, none⟩) 6 6] 54)
  replace hB0 := balloc hB0 (.cells #[.slice (some ⟨w5.heap.size, 0, none⟩) 6 6] 54)
  generalize ((w5.alloc (.cells #[.int .u64 (pW 0 true : Nat), .int .u64 (pW 1 true : Nat), .int .u64 0, .int .u64 (pW 3 true : Nat), .int .u64 (sW 0 : Nat), .int .u64 (pW 5 true : Nat)] 52)).alloc (.cells #[.slice (some ⟨w5.heap.size, 0, none⟩) 6 6] 54)) = w6 at *
  refine (of_any _ _).mono ?_
  rintro e w' ⟨rfl, rfl⟩
  clear hR1
  have hst : MdL zs w (.slice (some ⟨(w5.heap.size + 1), 0, none⟩) 1 1) (.int .i64 ((0 : Nat) : Int)) w6 := ⟨⟨0, Nat.zero_le _, by omega, rfl, hS2, hB0⟩⟩
  have HST := Lib.hid hst
  have HL0 := Lib.hid hL
  have HB0 := Lib.hid hB0
  clear hst hL hB0 hS2
  go_wp2
  go_loopw [4, 5] (MdL zs w) (fun _ i _ => NZ - (intOf i).toNat)
  case atStart => exact HST.out
  case round =>
    obtain ⟨⟨k, hk, hk40, rfl, hS, hB⟩⟩ := hrel
    rw [← HNZ.out] at hk
    have hM := mdTo_ok zs k hk40
    obtain ⟨A4, c4, rfl, hIn, hcap4⟩ := hS.ins hM.fit
    by_cases hlt : k < NZ ∧ k < 40
    · obtain ⟨hlt1, hlt4⟩ := hlt
      obtain ⟨g, off, z, rfl, hg, hz, hc⟩ := (HRD.out.below hB (Nat.le_refl _)).num hlt1
      have hlt1' : (k : Int) < (NZ : Int) := by omega
      have hlt4' : (k : Int) < 40 := by omega
      obtain ⟨q, hq⟩ : ∃ q : Int, z % 1048576 = q := ⟨_, rfl⟩
      have hq0 : 0 ≤ q := by rw [← hq]; exact Int.emod_nonneg z (by omega)
      have hq1 : q < 1048576 := by rw [← hq]; exact Int.emod_lt_of_pos z (by omega)
      have hgd : zs.getD k 0 % 1048576 = q := by rw [List.getD_eq_getElem?_getD, hz]; exact hq
      obtain ⟨d, hd⟩ : ∃ d : Int, q % 8 = d := ⟨_, rfl⟩
      rcases hmr : mdR (mdTo zs k) k q with ⟨u, e9⟩
      have hnx := mdTo_next zs k hgd hmr
      have hmok := mdR_ok hM k hlt4 q
      rw [hmr] at hmok
      generalize mdTo zs k = t at *
      obtain ⟨N, hN⟩ : ∃ N, N = t.length := ⟨_, rfl⟩
      rw [← hN] at hIn hcap4 ⊢
      have h1N : 1 ≤ N := by have := hM.lo; omega
      have hN4 : N ≤ 4 := by have := hM.hi; omega
      have hNz : ((N : Int) == 0) = false := by simp; omega
      have hNz' : (0 : Int) < (N : Int) := by omega
      have hM9 := Mod_any z 1048576 wr (by omega) (by omega)
      rw [hq] at hM9
      have HM9 := Lib.hid hM9
      have HNX := Lib.hid hnx
      have HOK := Lib.hid hmok
      have HMR := Lib.hid hmr
      have HN := Lib.hid hN
      have HLR := Lib.hid (HLW.out.below hB)
      have HIN := Lib.hid hIn
      have HM := Lib.hid hM
      have HS := Lib.hid hS
      have HB := Lib.hid hB
      clear hM9 hnx hmok hmr hN hIn hM hS hB hz hq hgd hg
      go_upto_block 2 with (go_at_call 39; refine HM9.out.mono ?_; rintro e w' ⟨rfl, rfl⟩)
      rw [hd]
      go_cut [9, 10] (MdC u e9 wr)
      case first =>
        have HD := Lib.hid hd
        have hd8 : d = 0 ∨ d = 1 ∨ d = 2 ∨ d = 3 ∨ d = 4 ∨ d = 5 ∨ d = 6 ∨ d = 7 := by omega
        clear hd
        rcases hd8 with rfl | rfl | rfl | rfl | rfl | rfl | rfl | rfl
        · by_cases h4 : N < 4
          · have h4' : (N : Int) < 4 := by omega
            have hR := HMR.out
            rw [mdR_fork (by have := HD.out; omega) (by rw [← HN.out]; exact h4), ← HN.out] at hR
            have hcall := Fork_any A4 N c4 t (q / 8 % (N : Int)) wr HIN.out HLR.out
            rw [hR] at hcall
            have HCALL := Lib.hid hcall
            clear hcall hR
            go_wp2_with fail
            refine HCALL.out.mono ?_
            rintro e w8 ⟨⟨v8, rfl, hS8⟩, hb8⟩
            simp only at hS8 ⊢
            go_wp2_with fail
            go_meet
            exact ⟨hS8, rfl, hb8⟩
          · have h4' : ¬ (N : Int) < 4 := by omega
            have hR := HMR.out
            rw [mdR_full (by have := HD.out; omega) (by rw [← HN.out]; exact h4)] at hR
            simp only [Prod.mk.injEq] at hR
            obtain ⟨rfl, rfl⟩ := hR
            go_wp2_with fail
            go_meet
            exact ⟨HIN.out.sho hcap4, rfl, Below.refl _ _⟩
        · by_cases h4 : N < 4
          · have h4' : (N : Int) < 4 := by omega
            have hR := HMR.out
            rw [mdR_fork (by have := HD.out; omega) (by rw [← HN.out]; exact h4), ← HN.out] at hR
            have hcall := Fork_any A4 N c4 t (q / 8 % (N : Int)) wr HIN.out HLR.out
            rw [hR] at hcall
            have HCALL := Lib.hid hcall
            clear hcall hR
            go_wp2_with fail
            refine HCALL.out.mono ?_
            rintro e w8 ⟨⟨v8, rfl, hS8⟩, hb8⟩
            simp only at hS8 ⊢
            go_wp2_with fail
            go_meet
            exact ⟨hS8, rfl, hb8⟩
          · have h4' : ¬ (N : Int) < 4 := by omega
            have hR := HMR.out
            rw [mdR_full (by have := HD.out; omega) (by rw [← HN.out]; exact h4)] at hR
            simp only [Prod.mk.injEq] at hR
            obtain ⟨rfl, rfl⟩ := hR
            go_wp2_with fail
            go_meet
            exact ⟨HIN.out.sho hcap4, rfl, Below.refl _ _⟩
        · rcases hbr : brkR t (q / 8 % (N : Int)) (q / 64 % 6) (10 + (k : Int)) with ⟨u', x', e'⟩
          have hR := HMR.out
          rw [mdR_brk (by have := HD.out; omega), ← HN.out, hbr] at hR
          simp only [Prod.mk.injEq] at hR
          obtain ⟨rfl, rfl⟩ := hR
          have hcall := Break_any A4 N c4 t (q / 8 % (N : Int)) (q / 64 % 6) (10 + (k : Int)) wr HIN.out HLR.out
          rw [hbr] at hcall
          have HCALL := Lib.hid hcall
          clear hcall hbr
          go_wp2_with fail
          refine HCALL.out.mono ?_
          rintro e w8 ⟨⟨v8, rfl, hS8⟩, hb8⟩
          simp only at hS8 ⊢
          go_wp2_with fail
          go_meet
          exact ⟨hS8, rfl, hb8⟩
        · rcases hbr : brkR t (q / 8 % (N : Int)) (q / 64 % 6) (10 + (k : Int)) with ⟨u', x', e'⟩
          have hR := HMR.out
          rw [mdR_brk (by have := HD.out; omega), ← HN.out, hbr] at hR
          simp only [Prod.mk.injEq] at hR
          obtain ⟨rfl, rfl⟩ := hR
          have hcall := Break_any A4 N c4 t (q / 8 % (N : Int)) (q / 64 % 6) (10 + (k : Int)) wr HIN.out HLR.out
          rw [hbr] at hcall
          have HCALL := Lib.hid hcall
          clear hcall hbr
          go_wp2_with fail
          refine HCALL.out.mono ?_
          rintro e w8 ⟨⟨v8, rfl, hS8⟩, hb8⟩
          simp only at hS8 ⊢
          go_wp2_with fail
          go_meet
          exact ⟨hS8, rfl, hb8⟩
        · have hR := HMR.out
          rw [mdR_take (by have := HD.out; omega), ← HN.out] at hR
          have hcall := Take_any A4 N c4 t (q / 8 % (N : Int)) (q / 64 % 6) wr HIN.out HLR.out
          rw [hR] at hcall
          have HCALL := Lib.hid hcall
          clear hcall hR
          go_wp2_with fail
          refine HCALL.out.mono ?_
          rintro e w8 ⟨⟨v8, rfl, hS8⟩, hb8⟩
          simp only at hS8 ⊢
          go_wp2_with fail
          go_meet
          exact ⟨hS8, rfl, hb8⟩
        · rcases hbr : dropR t (q / 8 % (N : Int)) (q / 64 % 6) with ⟨u', x', y', e'⟩
          have hR := HMR.out
          rw [mdR_drop (by have := HD.out; omega), ← HN.out, hbr] at hR
          simp only [Prod.mk.injEq] at hR
          obtain ⟨rfl, rfl⟩ := hR
          have hcall := Drop_any A4 N c4 t (q / 8 % (N : Int)) (q / 64 % 6) wr HIN.out HLR.out
          rw [hbr] at hcall
          have HCALL := Lib.hid hcall
          clear hcall hbr
          go_wp2_with fail
          refine HCALL.out.mono ?_
          rintro e w8 ⟨⟨v8, rfl, hS8⟩, hb8⟩
          simp only at hS8 ⊢
          go_wp2_with fail
          go_meet
          exact ⟨hS8, rfl, hb8⟩
        · rcases hbr : outR t (q / 512 % 50) (10 + (k : Int)) with ⟨u', x', e'⟩
          have hR := HMR.out
          rw [mdR_out (by have := HD.out; omega), hbr] at hR
          simp only [Prod.mk.injEq] at hR
          obtain ⟨rfl, rfl⟩ := hR
          have hcall := Out_any A4 N c4 t (q / 512 % 50) (10 + (k : Int)) wr HIN.out HLR.out
          rw [hbr] at hcall
          have HCALL := Lib.hid hcall
          clear hcall hbr
          go_wp2_with fail
          refine HCALL.out.mono ?_
          rintro e w8 ⟨⟨v8, rfl, hS8⟩, hb8⟩
          simp only at hS8 ⊢
          go_wp2_with fail
          go_meet
          exact ⟨hS8, rfl, hb8⟩
        · rcases hbr : outR t (q / 512 % 50) (10 + (k : Int)) with ⟨u', x', e'⟩
          have hR := HMR.out
          rw [mdR_out (by have := HD.out; omega), hbr] at hR
          simp only [Prod.mk.injEq] at hR
          obtain ⟨rfl, rfl⟩ := hR
          have hcall := Out_any A4 N c4 t (q / 512 % 50) (10 + (k : Int)) wr HIN.out HLR.out
          rw [hbr] at hcall
          have HCALL := Lib.hid hcall
          clear hcall hbr
          go_wp2_with fail
          refine HCALL.out.mono ?_
          rintro e w8 ⟨⟨v8, rfl, hS8⟩, hb8⟩
          simp only at hS8 ⊢
          go_wp2_with fail
          go_meet
          exact ⟨hS8, rfl, hb8⟩
      case rest =>
        obtain ⟨hS9, rfl, hb9⟩ := hcut
        have hbx := bnext HB.out hb9
        by_cases he : e9 = 0
        · subst he
          have hM5 := HOK.out rfl
          have HNX5 : Hid (mdTo zs (k + 1) = u) := Lib.hid (by rw [HNX.out, if_pos rfl])
          obtain ⟨A5, c5, rfl, hIn5, hcap5⟩ := hS9.ins (MdV.fit hM5)
          obtain ⟨N5, hN5⟩ : ∃ N, N = u.length := ⟨_, rfl⟩
          rw [← hN5] at hIn5 hcap5 ⊢
          clear hN5 hb9
          have h15 : 1 ≤ N5 := by have := hM5.lo; have := hIn5.rr.len; omega
          have h45 : N5 ≤ 4 := by have := hM5.hi; have := hIn5.rr.len; omega
          have h15' : ¬ (N5 : Int) < 1 := by omega
          have h45' : ¬ (4 : Int) < (N5 : Int) := by omega
          have HIN5 := Lib.hid hIn5
          have HM5 := Lib.hid hM5
          have HS5 := Lib.hid (hIn5.sho hcap5)
          have HBX := Lib.hid hbx
          clear hIn5 hM5 hbx
          go_wp2
          obtain ⟨wx, rfl⟩ : ∃ wx : World, wx = wc := ⟨_, rfl⟩
          go_loopw [11] (JxR N5 wx) (fun i _ => N5 - (intOf i).toNat)
          case atStart => exact ⟨0, Nat.zero_le _, rfl, rfl⟩
          case round =>
            obtain ⟨j, hj, rfl, rfl⟩ := hrel
            by_cases hlt : j < N5
            · have hlt2' : (j : Int) < (N5 : Int) := by omega
              obtain ⟨b5, off5, B5, cB5, rfl, hbl5, hcell5, hRl5, hqt5, hl705, hsm5⟩ := HIN5.out.at hlt
              rw [HM5.out.row hqt5] at hcell5
              clear hRl5 hqt5 hl705 hsm5
              go_wp2
              go_roundw
              case rel => exact ⟨j + 1, by omega, by go_num, rfl⟩
              case measure => simp [intOf]; omega
            · have hnlt : ¬ (j : Int) < (N5 : Int) := by omega
              go_wp2
              go_roundw
              case rel => exact ⟨⟨k + 1, by rw [← HNZ.out]; omega, by omega, by go_num, by rw [HNX5.out]; exact HS5.out, HBX.out⟩⟩
              case measure => simp [intOf]; omega
        · have hne : (e9 == 0) = false := by simpa using he
          have HNX5 : Hid (mdTo zs (k + 1) = t) := Lib.hid (by rw [HNX.out, if_neg he])
          have hM5 := HM.out
          have hIn5 := HIN.out.to hb9
          clear hb9 hS9 he
          have h15 : 1 ≤ N := by have := hM5.lo; have := hIn5.rr.len; omega
          have h45 : N ≤ 4 := by have := hM5.hi; have := hIn5.rr.len; omega
          have h15' : ¬ (N : Int) < 1 := by omega
          have h45' : ¬ (4 : Int) < (N : Int) := by omega
          have HIN5 := Lib.hid hIn5
          have HM5 := Lib.hid hM5
          have HS5 := Lib.hid (hIn5.sho hcap4)
          have HBX := Lib.hid hbx
          clear hIn5 hM5 hbx
          go_wp2
          obtain ⟨wx, rfl⟩ : ∃ wx : World, wx = wc := ⟨_, rfl⟩
          go_loopw [11] (JxR N wx) (fun i _ => N - (intOf i).toNat)
          case atStart => exact ⟨0, Nat.zero_le _, rfl, rfl⟩
          case round =>
            obtain ⟨j, hj, rfl, rfl⟩ := hrel
            by_cases hlt : j < N
            · have hlt2' : (j : Int) < (N : Int) := by omega
              obtain ⟨b5, off5, B5, cB5, rfl, hbl5, hcell5, hRl5, hqt5, hl705, hsm5⟩ := HIN5.out.at hlt
              rw [HM5.out.row hqt5] at hcell5
              clear hRl5 hqt5 hl705 hsm5
              go_wp2
              go_roundw
              case rel => exact ⟨j + 1, by omega, by go_num, rfl⟩
              case measure => simp [intOf]; omega
            · have hnlt : ¬ (j : Int) < (N : Int) := by omega
              go_wp2
              go_roundw
              case rel => exact ⟨⟨k + 1, by rw [← HNZ.out]; omega, by omega, by go_num, by rw [HNX5.out]; exact HS5.out, HBX.out⟩⟩
              case measure => simp [intOf]; omega
    · obtain ⟨hkm, hex⟩ : min NZ 40 = k ∧ (¬ k < NZ ∨ ¬ k < 40) := by omega
      have hck := cCheck_any A4 (mdTo zs k).length c4 (mdTo zs k) wr hIn (HLW.out.below hB)
      rw [hM.v.zero] at hck
      have HCK := Lib.hid hck
      have HS := Lib.hid hS
      have HB := Lib.hid hB
      have HKM := Lib.hid hkm
      clear hck hkm hIn hM hS hB
      by_cases hlt1 : k < NZ
      · have hlt1' : (k : Int) < (NZ : Int) := by omega
        have hlt4' : ¬ (k : Int) < 40 := by omega
        go_wp2_with fail
        refine HCK.out.mono ?_
        rintro e w8 ⟨rfl, hb8⟩
        simp only
        go_wp2
        go_ret2
        rw [HKM.out]
        exact ⟨⟨_, rfl, HS.out.to hb8⟩, bnext HB.out hb8⟩
      · have hlt1' : ¬ (k : Int) < (NZ : Int) := by omega
        go_wp2_with fail
        refine HCK.out.mono ?_
        rintro e w8 ⟨rfl, hb8⟩
        simp only
        go_wp2
        go_ret2
        rw [HKM.out]
        exact ⟨⟨_, rfl, HS.out.to hb8⟩, bnext HB.out hb8⟩
end Go.Proofs.YtomndlnfidkdcaaDoor
