/- CowLast returns true, whatever the numbers. -/
import Derived.Test.YtomndlnfidkdcaaDoorCowJn
namespace Go.Proofs.YtomndlnfidkdcaaDoor
open Go Go.Proofs Go.RowKit Go.Maps
set_option linter.unusedSimpArgs false
set_option linter.unusedVariables false
set_option maxRecDepth 100000

def LasV (t : Sh) (i j : Nat) (n : Int) (L : List (Int × Int)) (M : Nat) (w5 : World) (h v q : Value) (wr : World) : Prop :=
  Nonempty {p : Nat × Int × Sh // p.1 ≤ M ∧ q = .int .i64 p.1 ∧ h = .int .i64 p.2.1 ∧ LastI t i j n L p.1 p.2.2 ∧ ShO wr v p.2.2 ∧ Below w5.heap.size w5 wr}
set_option maxHeartbeats 16000000 in
theorem CowLast_true (zs : List Int) (A : Option Addr) (c : Nat) (table page how : Int) (w : World) (hr : Rd w 1 A zs.length (iw zs)) (hn : zs.length ≤ maxLen) (hL : LayOK w) :
    Calls Tryd.prog 8 #[.slice A zs.length c, .int .i64 table, .int .i64 page, .int .i64 how] w fun e w' => e = .returned (.bool true) ∧ Below w.heap.size w w' := by
  have hB0 := Below.refl w.heap.size w
  go_enter Tryd.func8, Tryd.ntmps8
  go_wp2_with fail
  refine (CowKnown_true _ hL).mono ?_
  rintro e w1 ⟨rfl, hb1⟩
  replace hr := hr.below hb1 (Nat.le_refl _)
  replace hL := hL.below hb1
  replace hB0 := bnext hB0 hb1
  clear hb1
  go_wp2_with fail
  refine (made_any zs A c w1 hr hn hL).mono ?_
  rintro e w2 ⟨⟨v2, rfl, hS⟩, hb2⟩
  replace hL := hL.below hb2
  replace hB0 := bnext hB0 hb2
  have hM := mdTo_ok zs (min zs.length 40) (by omega)
  clear hb2 hr hn
  generalize mdTo zs (min zs.length 40) = t at *
  obtain ⟨A2, c2, rfl, hIn, hcap⟩ := hS.ins hM.fit
  obtain ⟨N, hN⟩ : ∃ N, N = t.length := ⟨_, rfl⟩
  rw [← hN] at hIn hcap ⊢
  have h1N : 1 ≤ N := by have := hM.lo; omega
  have hN4 : N ≤ 4 := by have := hM.hi; omega
  obtain ⟨b2, o2, rfl⟩ := hIn.base (by omega)
  clear hS
  obtain ⟨i, hi⟩ : ∃ i : Nat, table % (N : Int) = i := ⟨(table % (N : Int)).toNat, by have := Int.emod_nonneg table (show (N : Int) ≠ 0 by omega); omega⟩
  have hiN : i < N := by have := Int.emod_lt_of_pos table (show (0 : Int) < (N : Int) by omega); omega
  obtain ⟨j, hj⟩ : ∃ j : Nat, page % 6 = j := ⟨(page % 6).toNat, by have := Int.emod_nonneg page (show (6 : Int) ≠ 0 by omega); omega⟩
  have hj6 : j < 6 := by have := Int.emod_lt_of_pos page (show (0 : Int) < 6 by omega); omega
  have hm1 := Mod_any table N w2 (by omega) (by omega)
  have hm2 := Mod_any page 6 w2 (by omega) (by omega)
  rw [hi] at hm1
  rw [hj] at hm2
  have hit : i < t.length := by rw [← hN]; exact hiN
  have HM1 := Lib.hid hm1
  have HM2 := Lib.hid hm2
  have HN := Lib.hid hN
  have HIT := Lib.hid hit
  have hiN' : (i : Int) < (N : Int) := by omega
  have hj6' : (j : Int) < 6 := by omega
  clear hm1 hm2 hN hit hi hj
  obtain ⟨x, hx⟩ : ∃ x, x = wordAt t i j := ⟨_, rfl⟩
  rcases hent : entW x with ⟨k0, n0, a0, b0, c0⟩
  have hun : unpE x = 0 := by rw [hx]; exact hM.word HIT.out hj6
  obtain ⟨hk3, hn0, hn50⟩ := hM.bound HIT.out hj6 (show entW (wordAt t i j) = (k0, n0, a0, b0, c0) by rw [← hx]; exact hent)
  have hux : useW (wordAt t i j) = (k0, n0) := by rw [← hx]; simp [useW, useE, hent]
  have HX := Lib.hid hx
  have HENT := Lib.hid hent
  have HUN := Lib.hid hun
  have HUX := Lib.hid hux
  have HM := Lib.hid hM
  clear hx hent hun hux hM
  go_wp2_with fail
  refine HM1.out.mono ?_
  rintro e w' ⟨rfl, rfl⟩
  go_wp2_with fail
  refine HM2.out.mono ?_
  rintro e w' ⟨rfl, rfl⟩
  go_wp2_with fail
  have hsh := Sharers_any _ N c2 t (i : Int) (j : Int) w2 hIn hL
  rw [HM.out.shr HIT.out hj6] at hsh
  obtain ⟨L, hLL⟩ : ∃ L, L = shL t i j := ⟨_, rfl⟩
  rw [← hLL] at hsh
  obtain ⟨M, hMl⟩ : ∃ M, M = L.length := ⟨_, rfl⟩
  have HLL := Lib.hid hLL
  have HML := Lib.hid hMl
  have HSH := Lib.hid hsh
  clear hLL hMl hsh
  refine HSH.out.mono ?_
  rintro e w3 ⟨X, cX, rfl, hX, hb3⟩
  simp only at hX ⊢
  rw [← HML.out] at hX ⊢
  replace hIn := hIn.to hb3
  replace hL := hL.below hb3
  replace hB0 := bnext hB0 hb3
  clear hb3
  obtain ⟨bR1, oR1, cR1, hb1l, hc1, hr1l, hw1⟩ := hIn.cells hiN (HM.out.row HIT.out) hj6
  rw [← HX.out] at hw1
  go_wp2_with fail
  refine (oUnpack x k0 n0 a0 b0 c0 _ HUN.out HENT.out hL).mono ?_
  rintro e w4 ⟨rfl, hb4⟩
  replace hIn := hIn.to hb4
  replace hL := hL.below hb4
  replace hB0 := bnext hB0 hb4
  replace hX := hX.below hb4 (Nat.le_refl _)
  clear hb4 hb1l hc1 hr1l hw1
  by_cases hk1 : k0 = 1
  case neg =>
    have hkb : (k0 != 1) = true := by simpa using hk1
    clear hk1 hk3
    go_wp2
    go_ret
    exact ⟨rfl, balloc hB0 _⟩
  subst hk1
  cases a0
  case true =>
    have hM0 : M = 0 := by
      have h1 := shAll_cnt HIT.out (j := j) (by rw [HM.out.row HIT.out]; exact hj6)
      have h2 := HM.out.v.wr _ (rowAt_mem HIT.out) _ (wordAt_mem (j := j) (by rw [HM.out.row HIT.out]; exact hj6)) (by rw [wrW, ← HX.out, HENT.out])
      rw [HML.out, HLL.out]
      unfold shL
      rw [← HX.out, HENT.out, if_neg (by simp)]
      omega
    subst hM0
    clear hk3
    go_wp2
    go_ret
    exact ⟨rfl, balloc hB0 _⟩
  have hSA : shL t i j = shAll t i j t.length := by
    unfold shL
    rw [← HX.out, HENT.out, if_neg (by simp)]
  have hLA : L = shAll t i j t.length := HLL.out.trans hSA
  have hst : LastI t i j n0 (shAll t i j t.length) 0 t := LastI.zero HM.out i j n0 _
  have hS0 : ShO w4 (.slice (some ⟨b2, o2, none⟩) N c2) t := hIn.sho hcap
  have hM24 : M ≤ 24 := by
    have h1 := HM.out.few (useW (wordAt t i j))
    have h2 := shAll_cnt HIT.out (j := j) (by rw [HM.out.row HIT.out]; exact hj6)
    rw [HML.out, hLA]
    omega
  have HLA := Lib.hid hLA
  have HW := Lib.hid (show wrW (wordAt t i j) = false by rw [wrW, ← HX.out, HENT.out])
  have hA5 : Below w4.heap.size w4 (w4.alloc (.cells #[.int .i64 1, .int .i64 n0, .bool false, .bool b0, .bool c0] 61)) := balloc (Below.refl _ _) _
  replace hS0 := hS0.to hA5
  replace hX := hX.below hA5 (Nat.le_refl _)
  replace hIn := hIn.to hA5
  replace hL := hL.below hA5
  replace hB0 := bnext hB0 hA5
  clear hA5 hSA hLA
  have HSTART := Lib.hid (And.intro hst hS0)
  have HX5 := Lib.hid hX
  have HL5 := Lib.hid hL
  have HB5 := Lib.hid hB0
  clear hst hS0 hX hL hB0 hIn
  go_wp2
  generalize w4.alloc (.cells #[.int .i64 1, .int .i64 n0, .bool false, .bool b0, .bool c0] 61) = w5 at *
  go_loopw [3, 16, 17] (LasV t i j n0 (shAll t i j t.length) M w5) (fun _ _ q _ => M - (intOf q).toNat)
  case atStart => exact ⟨⟨(0, how, t), Nat.zero_le _, rfl, rfl, HSTART.out.1, HSTART.out.2, Below.refl _ _⟩⟩
  case round =>
    obtain ⟨⟨⟨k, h, u⟩, hk, rfl, rfl, hI, hS, hbw⟩⟩ := hrel
    simp only at hk hI hS ⊢
    obtain ⟨A6, c6, rfl, hIn6, hcap6⟩ := hS.ins hI.v.fit
    have hul : u.length = N := hI.len.trans HN.out.symm
    rw [hul] at hIn6 hcap6 ⊢
    have hL6 := HL5.out.below hbw
    by_cases hlt : k < M
    · obtain ⟨g1, o1, r1, rfl, hl1, hr1, hc1, hc1'⟩ := (HX5.out.below hbw (Nat.le_refl _)).pair hlt
      rw [HLA.out] at hr1
      obtain ⟨a, b, rfl, hat, hb6, _, _, _, _, _, _, _, hk24⟩ := hI.at HM.out HIT.out hj6 HUX.out hr1
      simp only at hc1 hc1'
      have haN : a < N := by rw [HN.out]; exact hat
      have haN' : ¬ (N : Int) ≤ (a : Int) := by omega
      have ha0 : ¬ (a : Int) < 0 := by omega
      have hlt2 : (k : Int) < (M : Int) := by omega
      have hm1 := Mod_any h 2 wr (by omega) (by omega)
      obtain ⟨par, hpar⟩ : ∃ p, h % 2 = p := ⟨_, rfl⟩
      rw [hpar] at hm1
      obtain ⟨q, hq⟩ : ∃ q, h % 1048576 = q := ⟨_, rfl⟩
      have hq0 : 0 ≤ q := by rw [← hq]; exact Int.emod_nonneg h (by omega)
      have hq1 : q < 1048576 := by rw [← hq]; exact Int.emod_lt_of_pos h (by omega)
      have hm2 : ∀ W : World, Calls Tryd.prog 39 #[.int .i64 h, .int .i64 1048576] W fun e w' => e = .returned (.int .i64 q) ∧ W = w' := fun W => by
        have h1 := Mod_any h 1048576 W (by omega) (by omega)
        rw [hq] at h1
        exact h1
      have HM1 := Lib.hid hm1
      have HM2 := Lib.hid hm2
      have HI := Lib.hid hI
      have HR1 := Lib.hid hr1
      have HIN6 := Lib.hid hIn6
      have HL6 := Lib.hid hL6
      have HBW := Lib.hid hbw
      have HUL := Lib.hid hul
      clear hm1 hm2 hq hpar hI hr1 hIn6 hL6 hbw hS hul hat
      by_cases hp : par = 0
      · subst hp
        have hd := HI.out.drop HM.out HIT.out hj6 HUX.out HR1.out
        rcases hdr : dropR u a b with ⟨u', x', y', e'⟩
        rw [hdr] at hd
        obtain ⟨hd1, hd2⟩ := hd
        simp only at hd1 hd2
        subst hd1
        have hcall : ∀ W, Below wr.heap.size wr W → Calls Tryd.prog 20 #[.slice A6 N c6, .int .i64 a, .int .i64 b] W fun e w' => DropO (u', x', y', 0) W w' e := fun W hW => by
          have h1 := Drop_any A6 N c6 u a b W (HIN6.out.to hW) (HL6.out.below hW)
          rwa [hdr] at h1
        have HC := Lib.hid hcall
        have HD := Lib.hid hd2
        clear hcall hd2 hdr
        go_wp2_with (go_at_call 39; refine HM1.out.mono ?_; rintro e w' ⟨rfl, rfl⟩)
        go_region_held3 (fun w' => w'.cell? ⟨g1, o1 + k * 2, none⟩ = some (.int .i64 a) ∧ w'.cell? ⟨g1, o1 + k * 2 + 1, none⟩ = some (.int .i64 b))
          (refine ⟨?_, ?_⟩ <;> (repeat (with_reducible first | exact hc1 | exact hc1' | refine cell_drew ?_ | refine cell_later hb7 ?_)))
          (first | (go_at_call 20; refine (HC.out _ (below_drew (Below.refl _ _))).mono ?_; rintro e w7 ⟨⟨v7, rfl, hS7⟩, hb7⟩; simp only at hS7 ⊢))
        go_wp2_with (go_at_call 39; refine (HM2.out _).mono ?_; rintro e w' ⟨rfl, rfl⟩)
        go_roundw
        case rel => exact ⟨⟨(k + 1, q / 2, u'), by simp only; omega, by go_num, rfl, HD.out, hS7, bnext HBW.out (bnext (below_drew (Below.refl _ _)) hb7)⟩⟩
        case measure => simp [intOf]; omega
      · have hpb : (par == 0) = false := by simpa using hp
        have hd := HI.out.brk HM.out HIT.out hj6 HUX.out HR1.out
        rcases hdr : brkR u a b (200 + (k : Int)) with ⟨u', x', e'⟩
        rw [hdr] at hd
        obtain ⟨hd1, hd2⟩ := hd
        simp only at hd1 hd2
        subst hd1
        have hcall : ∀ W, Below wr.heap.size wr W → Calls Tryd.prog 18 #[.slice A6 N c6, .int .i64 a, .int .i64 b, .int .i64 (200 + (k : Int))] W fun e w' => BrkO (u', x', 0) W w' e := fun W hW => by
          have h1 := Break_any A6 N c6 u a b (200 + (k : Int)) W (HIN6.out.to hW) (HL6.out.below hW)
          rwa [hdr] at h1
        have HC := Lib.hid hcall
        have HD := Lib.hid hd2
        have hwk : IntKind.i64.wrap (200 + (k : Int)) = 200 + (k : Int) := IntWalk.i64_in _ (by omega)
        clear hcall hd2 hdr hp
        go_wp2_with (go_at_call 39; refine HM1.out.mono ?_; rintro e w' ⟨rfl, rfl⟩)
        go_region_held3 (fun w' => w'.cell? ⟨g1, o1 + k * 2, none⟩ = some (.int .i64 a) ∧ w'.cell? ⟨g1, o1 + k * 2 + 1, none⟩ = some (.int .i64 b))
          (refine ⟨?_, ?_⟩ <;> (repeat (with_reducible first | exact hc1 | exact hc1' | refine cell_drew ?_ | refine cell_later hb7 ?_)))
          (first | (go_at_call 18; refine (HC.out _ (below_drew (Below.refl _ _))).mono ?_; rintro e w7 ⟨⟨v7, rfl, hS7⟩, hb7⟩; simp only at hS7 ⊢))
        clear hwk
        go_wp2_with (go_at_call 39; refine (HM2.out _).mono ?_; rintro e w' ⟨rfl, rfl⟩)
        go_roundw
        case rel => exact ⟨⟨(k + 1, q / 2, u'), by simp only; omega, by go_num, rfl, HD.out, hS7, bnext HBW.out (bnext (below_drew (Below.refl _ _)) hb7)⟩⟩
        case measure => simp [intOf]; omega
    · have hkM : k = (shAll t i j t.length).length := by rw [← HLA.out, ← HML.out]; omega
      have hnlt : ¬ (k : Int) < (M : Int) := by omega
      rw [hkM] at hI
      have hdn := hI.done HM.out HIT.out hj6 HUX.out HW.out
      have hdd := Decide_any A6 N c6 u (i : Int) (j : Int) wr hIn6 hL6
      rw [hdn] at hdd
      have HDD := Lib.hid hdd
      have HB := Lib.hid (bnext HB5.out hbw)
      clear hkM hI hdn hdd hbw hS hul hIn6 hL6
      go_wp2_with fail
      refine HDD.out.mono ?_
      rintro e w8 ⟨rfl, hb8⟩
      simp only
      go_wp2
      go_ret
      exact ⟨by simp, bnext HB.out hb8⟩
end Go.Proofs.YtomndlnfidkdcaaDoor
