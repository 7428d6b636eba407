/- SpaceMaps returns true. -/
import Derived.Test.YtpkgfkhaiifooaaGreatDoorMp27
import Derived.Test.YtpkgfkhaiifooaaGreatDoorRm27
import Derived.Test.YtpkgfkhaiifooaaGreatDoorRu27
import Derived.Test.YtpkgfkhaiifooaaGreatDoorRe27
import Derived.Test.YtpkgfkhaiifooaaGreatDoorSpK
import Derived.Test.YtpkgfkhaiifooaaGreatDoorSpA
import Derived.Test.YtpkgfkhaiifooaaGreatDoorSl27
import Derived.Test.YtpkgfkhaiifooaaGreatDoorRgG
namespace Go.Proofs.YtpkgfkhaiifooaaGreatDoor
open Go Go.Proofs Go.RowKit
set_option linter.unusedSimpArgs false
set_option linter.unusedVariables false
set_option maxRecDepth 100000

/-- The slices of an address space lie in no block g. -/
def NoG (g : Nat) (v : Value) : Prop := ∀ A n c r L l cl B m d, v = spcV A n c r L l cl B m d → (∀ b off, 0 < n → A = some ⟨b, off, none⟩ → b ≠ g) ∧ (∀ b off, 0 < l → L = some ⟨b, off, none⟩ → b ≠ g) ∧ (∀ b off, 0 < m → B = some ⟨b, off, none⟩ → b ≠ g)
theorem NoG.new {w : World} {v : Value} {s : Sp} {g : Nat} (h : SpV w v s) (hg : w.heap.size ≤ g) : NoG g v := fun A n c r L l cl B m d e => by
  obtain ⟨A', c', L', cl', B', d', e', h1, h2, h3, _⟩ := h
  rw [e] at e'
  simp only [spcV, Value.agg.injEq, Array.mk.injEq, List.cons.injEq, Value.slice.injEq] at e'
  obtain ⟨⟨rfl, rfl, _⟩, _, ⟨rfl, rfl, _⟩, ⟨rfl, rfl, _⟩, _⟩ := e'
  exact ⟨fun b off h0 e => by have := rd_ltU h1 b off h0 e; omega, fun b off h0 e => by have := rd_ltU h2 b off h0 e; omega, fun b off h0 e => by have := rd_ltU h3 b off h0 e; omega⟩
theorem spv_no4 {w : World} {v : Value} {s : Sp} {g : Nat} (h : SpV w v s) (hl : NoG g v) (x y z u : Value) : SpV ((((w.setCell ⟨g, 0, none⟩ x).setCell ⟨g, 1, none⟩ y).setCell ⟨g, 2, none⟩ z).setCell ⟨g, 3, none⟩ u) v s := by
  obtain ⟨A, c, L, cl, B, d, rfl, h1, h2, h3, h4⟩ := h
  obtain ⟨l1, l2, l3⟩ := hl _ _ _ _ _ _ _ _ _ _ rfl
  exact ⟨A, c, L, cl, B, d, rfl, h1.far4 l1 x y z u, h2.far4 l2 x y z u, h3.far4 l3 x y z u, h4⟩
theorem rd_il4 {w : World} {sz n c g lo : Nat} {A : Option Addr} {xs : List Value} (h : Rd w sz A n xs) (hj : ILoc lo (.slice A n c)) (hg : g < lo) (x y z u : Value) : Rd ((((w.setCell ⟨g, 0, none⟩ x).setCell ⟨g, 1, none⟩ y).setCell ⟨g, 2, none⟩ z).setCell ⟨g, 3, none⟩ u) sz A n xs :=
  h.far4 (fun b off h0 e => by have := hj _ _ _ rfl b off h0 e; omega) x y z u
theorem bk_far4 {w : World} {b g : Nat} {cs : Array Value} {t : TypeId} (h : Bk w b cs t) (hp : b ≠ g) (x y z u : Value) : Bk ((((w.setCell ⟨g, 0, none⟩ x).setCell ⟨g, 1, none⟩ y).setCell ⟨g, 2, none⟩ z).setCell ⟨g, 3, none⟩ u) b cs t :=
  (((h.far (p := ⟨g, 0, none⟩) hp x).far (p := ⟨g, 1, none⟩) hp y).far (p := ⟨g, 2, none⟩) hp z).far (p := ⟨g, 3, none⟩) hp u
/-- An address space is small. -/
def LenM (n : Nat) (s : Sp) : Prop := wsmall s.2.2.2 ∧ s.1.length ≤ n ∧ s.2.2.1.length ≤ n ∧ s.2.2.2.length ≤ n
theorem sp0_lenM : LenM 1000 sp0 := ⟨fun x hx => by simp [sp0, tb0] at hx, by simp [sp0], by simp [sp0, tb0], by simp [sp0, tb0]⟩
theorem mapS_len {s : Sp} (a b m : Int) (h : LenM 1000 s) : LenM 1000 (mapS s a b m).1 := by
  unfold mapS
  split
  · exact sp0_lenM
  · split
    · exact sp0_lenM
    · refine ⟨h.1, ?_, h.2.2.1, h.2.2.2⟩
      show (mapR s.1 a b m).1.length ≤ 1000
      unfold mapR
      split
      · simp
      · split
        · simp
        · split
          · simp
          · have := regs_le (addF s.1 a b)
            show (regs (addF s.1 a b)).length ≤ 1000
            omega
theorem unmS_len {s : Sp} (a b : Int) (h : LenM 1000 s) : LenM 1000 (unmS s a b).1 ∧ (unmS s a b).2.1.length ≤ 1000 := by
  unfold unmS
  split
  · exact ⟨sp0_lenM, by simp⟩
  · rename_i hE
    have hT := (spc_zero (Classical.not_not.1 hE)).2.1
    split
    · exact ⟨sp0_lenM, by simp⟩
    · obtain ⟨f1, f2, f3, _⟩ := los_facts hT h.1 a b 64 (Nat.le_refl _)
      obtain ⟨g1, g2, _⟩ := tab_zero f1
      refine ⟨⟨f2, ?_, by rw [g1]; omega, by rw [g2]; omega⟩, by show (losP s.2.1 s.2.2.1 s.2.2.2 a b (pgs 0 64)).2.2.length ≤ 1000; omega⟩
      show (unmR s.1 a b).1.length ≤ 1000
      unfold unmR
      split
      · simp
      · split
        · simp
        · have := regs_le (subF s.1 a b)
          show (regs (subF s.1 a b)).length ≤ 1000
          omega
theorem empS_len {s : Sp} (h : LenM 1000 s) : LenM 1000 (empS s).1 ∧ (empS s).2.1.length ≤ 1000 ∧ (empS s).2.2.1.length ≤ 1000 := by
  unfold empS
  split
  · exact ⟨sp0_lenM, by simp, by simp⟩
  · rename_i hE
    have hT := (spc_zero (Classical.not_not.1 hE)).2.1
    obtain ⟨f1, f2, f3, _⟩ := los_facts hT h.1 0 63 64 (Nat.le_refl _)
    refine ⟨⟨fun x hx => ?_, by simp, by simp [t0N], by simp [t0N]⟩, by simp only [List.length_map]; omega, ?_⟩
    · rw [List.eq_of_mem_replicate (show x ∈ List.replicate 64 0 from hx)]
      decide
    · show (frmR s.2.1 s.2.2.1 s.2.2.2).1.length ≤ 1000
      unfold frmR
      split
      · simp
      · have := frmL_len s.2.2.1 8
        rw [List.length_append]
        split <;> simp <;> omega

set_option maxHeartbeats 16000000 in
theorem SpaceMaps_true (rs : List (Int × Int)) (r : Int) (ls : List Int) (es : List Nat) (v : Value) (a1 a2 a3 : Int) (w : World) (hv : SpV w v (rs, r, ls, es)) (hs : wsmall es) (hL : LayOK w) :
    Calls Tryz.prog 3 #[v, .int .i64 a1, .int .i64 a2, .int .i64 a3] w fun e w' => e = .returned (.bool true) ∧ Below w.heap.size w w' := by
  obtain ⟨A, c, L, cl, B, d, hve, -, -, -, -⟩ := id hv
  subst hve
  unfold spcV at hv ⊢
  simp only at hv ⊢
  have hL0 := hL
  have kS := Bk.new w #[.slice A rs.length c, .int .i64 r, .slice L ls.length cl, .slice B es.length d] 28
  have hB0 := balloc (Below.refl _ w) (.cells #[.slice A rs.length c, .int .i64 r, .slice L ls.length cl, .slice B es.length d] 28)
  generalize hw1 : w.alloc (.cells #[.slice A rs.length c, .int .i64 r, .slice L ls.length cl, .slice B es.length d] 28) = w1 at *
  replace hv := hv.to hB0
  replace hL := hL.below hB0
  have HLt := Lib.hid (fun v W h => light_any rs r ls es v W h)
  by_cases hlt : rs.length ≤ 70 ∧ ls.length ≤ 10 ∧ es.length ≤ 70
  case neg =>
    rw [decide_eq_false hlt] at HLt
    clear hlt
    go_enter Tryz.func3, Tryz.ntmps3
    obtain ⟨c_kS, f_kS, l_kS⟩ := kS.facts
    go_wp2_with fail
    clear c_kS f_kS l_kS
    refine (HLt.out _ _ hv).mono ?_
    rintro e w1 ⟨rfl, hb1⟩
    replace hv := hv.to hb1
    replace kS := kS.to hb1
    replace hL := hL.below hb1
    replace hB0 := bnext hB0 hb1
    clear hb1
    clear hw1
    obtain ⟨c_kS, f_kS, l_kS⟩ := kS.facts
    go_wp2_with fail
    clear c_kS f_kS l_kS
    refine (awake27_any _ hL).mono ?_
    rintro e w2 ⟨rfl, hb2⟩
    replace hv := hv.to hb2
    replace kS := kS.to hb2
    replace hL := hL.below hb2
    replace hB0 := bnext hB0 hb2
    clear hb2
    obtain ⟨c_kS, f_kS, l_kS⟩ := kS.facts
    go_wp2_with fail
    go_ret
    exact ⟨rfl, hB0⟩
  rw [decide_eq_true hlt] at HLt
  obtain ⟨hl1, hl2, hl3⟩ := hlt
  have hLn : LenM 1000 (rs, r, ls, es) := ⟨hs, by simp only; omega, by simp only; omega, by simp only; omega⟩
  have hM := mapS_len a1 a2 a3 hLn
  obtain ⟨hU, hU2⟩ := unmS_len a1 a2 hLn
  obtain ⟨hE, hE2, hE3⟩ := empS_len hLn
  have HOS := Lib.hid (fun v W h => OwnSpace_any rs r ls es v W h (by omega) (by omega) (by omega))
  have HM := Lib.hid (fun v W h hl => SpMap_any rs r ls es v a1 a2 a3 W h (by omega) hs hl)
  have HMr := Lib.hid (fun v W h => rSpMap_any rs r ls es v a1 a2 a3 W h (by omega) hs)
  have HU := Lib.hid (fun v W h hl => UnmapSp_any rs r ls es v a1 a2 W h (by omega) hs hl)
  have HUr := Lib.hid (fun v W h => rSpUnmap_any rs r ls es v a1 a2 W h (by omega) hs)
  have HE := Lib.hid (fun v W h hl => EmptySp_any rs r ls es v W h (by omega) hs hl)
  have HEr := Lib.hid (fun v W h => rSpEmpty_any rs r ls es v W h (by omega) hs)
  have HSX := Lib.hid (fun v v2 W h h2 => SameSpace_eq rs r ls es v v2 W h h2 hs (by omega) (by omega) (by omega))
  generalize mapS (rs, r, ls, es) a1 a2 a3 = M at *
  generalize unmS (rs, r, ls, es) a1 a2 = U at *
  generalize empS (rs, r, ls, es) = E at *
  obtain ⟨⟨rsM, rM, lsM, esM⟩, eM⟩ := M
  obtain ⟨⟨rsU, rU, lsU, esU⟩, loU, eU⟩ := U
  obtain ⟨⟨rsE, rE, lsE, esE⟩, loE, zE, eE⟩ := E
  obtain ⟨m1, m2, m3, m4⟩ := hM
  obtain ⟨u1, u2, u3, u4⟩ := hU
  obtain ⟨e1, e2, e3, e4⟩ := hE
  simp only at m1 m2 m3 m4 u1 u2 u3 u4 e1 e2 e3 e4 hU2 hE2 hE3
  have HSM := Lib.hid (fun v v2 W h h2 => SameSpace_eq rsM rM lsM esM v v2 W h h2 m1 m2 m3 m4)
  have HSU := Lib.hid (fun v v2 W h h2 => SameSpace_eq rsU rU lsU esU v v2 W h h2 u1 u2 u3 u4)
  have HSE := Lib.hid (fun v v2 W h h2 => SameSpace_eq rsE rE lsE esE v v2 W h h2 e1 e2 e3 e4)
  have HLU := Lib.hid (fun v v2 W h h2 => SameLost_eq loU v v2 W h h2 hU2)
  have HLE := Lib.hid (fun v v2 W h h2 => SameLost_eq loE v v2 W h h2 hE2)
  have HIE := Lib.hid (fun v v2 W h h2 => SameInts_v zE v v2 W h h2 hE3)
  have Hs := Lib.hid hs
  clear hl1 hl2 hl3 hLn m1 m2 m3 m4 u1 u2 u3 u4 e1 e2 e3 e4 hU2 hE2 hE3 hs
  go_enter Tryz.func3, Tryz.ntmps3
  obtain ⟨c_kS, f_kS, l_kS⟩ := kS.facts
  go_wp2_with fail
  clear c_kS f_kS l_kS
  refine (HLt.out _ _ hv).mono ?_
  rintro e w1 ⟨rfl, hb1⟩
  replace hv := hv.to hb1
  replace kS := kS.to hb1
  replace hL := hL.below hb1
  replace hB0 := bnext hB0 hb1
  clear hb1
  clear hw1 HLt
  obtain ⟨c_kS, f_kS, l_kS⟩ := kS.facts
  go_wp2_with fail
  clear c_kS f_kS l_kS
  refine (HOS.out _ _ hv).mono ?_
  rintro e w2 ⟨vx, rfl, hvx, hb2⟩
  replace hv := hv.to hb2
  replace kS := kS.to hb2
  replace hL := hL.below hb2
  replace hB0 := bnext hB0 hb2
  clear hb2
  obtain ⟨AX, cX, LX, clX, BX, dX, rfl, -, -, -, -⟩ := id hvx
  simp only [spcV] at hvx ⊢
  clear HOS
  have oSx := kS.lt
  obtain ⟨c_kS, f_kS, l_kS⟩ := kS.facts
  go_upto_region 4 with fail
  clear c_kS f_kS l_kS
  have kx := Bk.new w2 #[.slice AX rs.length cX, .int .i64 r, .slice LX ls.length clX, .slice BX es.length dX] 28
  have hcN := balloc (Below.refl _ w2) (.cells #[.slice AX rs.length cX, .int .i64 r, .slice LX ls.length clX, .slice BX es.length dX] 28)
  generalize w2.alloc (.cells #[.slice AX rs.length cX, .int .i64 r, .slice LX ls.length clX, .slice BX es.length dX] 28) = w3 at *
  replace hv := hv.to hcN
  replace hvx := hvx.to hcN
  replace kS := kS.to hcN
  replace hL := hL.below hcN
  replace hB0 := bnext hB0 hcN
  clear hcN
  obtain ⟨c_kS, f_kS, l_kS⟩ := kS.facts
  obtain ⟨c_kx, f_kx, l_kx⟩ := kx.facts
  go_wp2_with fail
  clear c_kS f_kS l_kS
  clear c_kx f_kx l_kx
  refine (HM.out _ _ hvx hL).mono ?_
  rintro e w4 ⟨v_a, rfl, h_a, -, hb4⟩
  replace hv := hv.to hb4
  replace hvx := hvx.to hb4
  replace kS := kS.to hb4
  replace kx := kx.to hb4
  replace hL := hL.below hb4
  replace hB0 := bnext hB0 hb4
  clear hb4
  obtain ⟨Aa, ca, La, cla, Ba, da, rfl, -, -, -, -⟩ := id h_a
  simp only [spcV] at h_a ⊢
  have okSk10 := kS.lt
  have okxk10 := kx.lt
  have nhvk10 := NoG.new hv (Nat.le_refl _)
  have nhvxk10 := NoG.new hvx (Nat.le_refl _)
  obtain ⟨c_kS, f_kS, l_kS⟩ := kS.facts
  obtain ⟨c_kx, f_kx, l_kx⟩ := kx.facts
  go_upto_region 5 with fail
  clear c_kS f_kS l_kS
  clear c_kx f_kx l_kx
  have k10 := Bk.new w4 #[.slice Aa rsM.length ca, .int .i64 rM, .slice La lsM.length cla, .slice Ba esM.length da] 28
  have hcN := balloc (Below.refl _ w4) (.cells #[.slice Aa rsM.length ca, .int .i64 rM, .slice La lsM.length cla, .slice Ba esM.length da] 28)
  generalize w4.alloc (.cells #[.slice Aa rsM.length ca, .int .i64 rM, .slice La lsM.length cla, .slice Ba esM.length da] 28) = w5 at *
  replace hv := hv.to hcN
  replace hvx := hvx.to hcN
  replace h_a := h_a.to hcN
  replace kS := kS.to hcN
  replace kx := kx.to hcN
  replace hL := hL.below hcN
  replace hB0 := bnext hB0 hcN
  clear hcN
  obtain ⟨c_kS, f_kS, l_kS⟩ := kS.facts
  obtain ⟨c_kx, f_kx, l_kx⟩ := kx.facts
  obtain ⟨c_k10, f_k10, l_k10⟩ := k10.facts
  go_wp2_with fail
  clear c_kS f_kS l_kS
  clear c_kx f_kx l_kx
  clear c_k10 f_k10 l_k10
  refine (HMr.out _ _ hv).mono ?_
  rintro e w6 ⟨v_b, rfl, h_b, -, hb6⟩
  replace hv := hv.to hb6
  replace hvx := hvx.to hb6
  replace h_a := h_a.to hb6
  replace kS := kS.to hb6
  replace kx := kx.to hb6
  replace k10 := k10.to hb6
  replace hL := hL.below hb6
  replace hB0 := bnext hB0 hb6
  clear hb6
  obtain ⟨Ab, cb, Lb, clb, Bb, db, rfl, -, -, -, -⟩ := id h_b
  simp only [spcV] at h_b ⊢
  have okSk12 := kS.lt
  have okxk12 := kx.lt
  have ok10k12 := k10.lt
  have nhvk12 := NoG.new hv (Nat.le_refl _)
  have nhvxk12 := NoG.new hvx (Nat.le_refl _)
  obtain ⟨c_kS, f_kS, l_kS⟩ := kS.facts
  obtain ⟨c_kx, f_kx, l_kx⟩ := kx.facts
  obtain ⟨c_k10, f_k10, l_k10⟩ := k10.facts
  go_upto_region 6 with fail
  clear c_kS f_kS l_kS
  clear c_kx f_kx l_kx
  clear c_k10 f_k10 l_k10
  have k12 := Bk.new w6 #[.slice Ab rsM.length cb, .int .i64 rM, .slice Lb lsM.length clb, .slice Bb esM.length db] 28
  have hcN := balloc (Below.refl _ w6) (.cells #[.slice Ab rsM.length cb, .int .i64 rM, .slice Lb lsM.length clb, .slice Bb esM.length db] 28)
  generalize w6.alloc (.cells #[.slice Ab rsM.length cb, .int .i64 rM, .slice Lb lsM.length clb, .slice Bb esM.length db] 28) = w7 at *
  replace hv := hv.to hcN
  replace hvx := hvx.to hcN
  replace h_a := h_a.to hcN
  replace h_b := h_b.to hcN
  replace kS := kS.to hcN
  replace kx := kx.to hcN
  replace k10 := k10.to hcN
  replace hL := hL.below hcN
  replace hB0 := bnext hB0 hcN
  clear hcN
  clear HM HMr
  obtain ⟨c_kS, f_kS, l_kS⟩ := kS.facts
  obtain ⟨c_kx, f_kx, l_kx⟩ := kx.facts
  obtain ⟨c_k10, f_k10, l_k10⟩ := k10.facts
  obtain ⟨c_k12, f_k12, l_k12⟩ := k12.facts
  go_wp2_with fail
  clear c_kS f_kS l_kS
  clear c_kx f_kx l_kx
  clear c_k10 f_k10 l_k10
  clear c_k12 f_k12 l_k12
  refine (HSM.out _ _ _ h_a h_b).mono ?_
  rintro e w8 ⟨rfl, hb8⟩
  replace hv := hv.to hb8
  replace hvx := hvx.to hb8
  replace h_a := h_a.to hb8
  replace h_b := h_b.to hb8
  replace kS := kS.to hb8
  replace kx := kx.to hb8
  replace k10 := k10.to hb8
  replace k12 := k12.to hb8
  replace hL := hL.below hb8
  replace hB0 := bnext hB0 hb8
  clear hb8
  clear h_a h_b
  clear HSM
  have pk10c := k10.lt
  have pk12c := k12.lt
  obtain ⟨c_kS, f_kS, l_kS⟩ := kS.facts
  obtain ⟨c_kx, f_kx, l_kx⟩ := kx.facts
  obtain ⟨c_k10, f_k10, l_k10⟩ := k10.facts
  obtain ⟨c_k12, f_k12, l_k12⟩ := k12.facts
  go_wp2_with fail
  clear c_kS f_kS l_kS
  clear c_kx f_kx l_kx
  clear c_k10 f_k10 l_k10
  clear c_k12 f_k12 l_k12
  refine (HU.out _ _ hvx hL).mono ?_
  rintro e w9 ⟨v_c, u_c, rfl, h_c, l_c, i_c, j_c, hb9⟩
  replace hv := hv.to hb9
  replace hvx := hvx.to hb9
  replace kS := kS.to hb9
  replace kx := kx.to hb9
  replace k10 := k10.to hb9
  replace k12 := k12.to hb9
  replace hL := hL.below hb9
  replace hB0 := bnext hB0 hb9
  clear hb9
  obtain ⟨Ac, cc, Lc, clc, Bc, dc, rfl, -, -, -, -⟩ := id h_c
  simp only [spcV] at h_c ⊢
  simp only [spcV] at l_c
  obtain ⟨Au_c, cu_c, rfl, r_c⟩ := i_c
  obtain ⟨c_kS, f_kS, l_kS⟩ := kS.facts
  obtain ⟨c_kx, f_kx, l_kx⟩ := kx.facts
  obtain ⟨c_k10, f_k10, l_k10⟩ := k10.facts
  obtain ⟨c_k12, f_k12, l_k12⟩ := k12.facts
  go_upto_region 9 with fail
  clear c_kS f_kS l_kS
  clear c_kx f_kx l_kx
  clear c_k10 f_k10 l_k10
  clear c_k12 f_k12 l_k12
  replace kS := bk_far4 (g := w4.heap.size) kS (by omega) (.slice Ac rsU.length cc) (.int .i64 rU) (.slice Lc lsU.length clc) (.slice Bc esU.length dc)
  replace kx := bk_far4 (g := w4.heap.size) kx (by omega) (.slice Ac rsU.length cc) (.int .i64 rU) (.slice Lc lsU.length clc) (.slice Bc esU.length dc)
  replace k10 := k10.put4 (.slice Ac rsU.length cc) (.int .i64 rU) (.slice Lc lsU.length clc) (.slice Bc esU.length dc)
  replace k12 := bk_far4 (g := w4.heap.size) k12 (by omega) (.slice Ac rsU.length cc) (.int .i64 rU) (.slice Lc lsU.length clc) (.slice Bc esU.length dc)
  replace hv := spv_no4 (g := w4.heap.size) hv nhvk10 (.slice Ac rsU.length cc) (.int .i64 rU) (.slice Lc lsU.length clc) (.slice Bc esU.length dc)
  replace hvx := spv_no4 (g := w4.heap.size) hvx nhvxk10 (.slice Ac rsU.length cc) (.int .i64 rU) (.slice Lc lsU.length clc) (.slice Bc esU.length dc)
  replace h_c := spv_put4 (g := w4.heap.size) h_c l_c pk10c (.slice Ac rsU.length cc) (.int .i64 rU) (.slice Lc lsU.length clc) (.slice Bc esU.length dc)
  replace r_c := rd_il4 (g := w4.heap.size) r_c j_c pk10c (.slice Ac rsU.length cc) (.int .i64 rU) (.slice Lc lsU.length clc) (.slice Bc esU.length dc)
  replace hB0 := below_put4 hB0 (g := w4.heap.size) (by omega) (.slice Ac rsU.length cc) (.int .i64 rU) (.slice Lc lsU.length clc) (.slice Bc esU.length dc)
  generalize (((w9.setCell ⟨w4.heap.size, 0, none⟩ (.slice Ac rsU.length cc)).setCell ⟨w4.heap.size, 1, none⟩ (.int .i64 rU)).setCell ⟨w4.heap.size, 2, none⟩ (.slice Lc lsU.length clc)).setCell ⟨w4.heap.size, 3, none⟩ (.slice Bc esU.length dc) = w10 at *
  clear hL
  have hL := hL0.below hB0
  have pk10d := k10.lt
  have pk12d := k12.lt
  obtain ⟨c_kS, f_kS, l_kS⟩ := kS.facts
  obtain ⟨c_kx, f_kx, l_kx⟩ := kx.facts
  obtain ⟨c_k10, f_k10, l_k10⟩ := k10.facts
  obtain ⟨c_k12, f_k12, l_k12⟩ := k12.facts
  go_wp2_with fail
  clear c_kS f_kS l_kS
  clear c_kx f_kx l_kx
  clear c_k10 f_k10 l_k10
  clear c_k12 f_k12 l_k12
  refine (HUr.out _ _ hv).mono ?_
  rintro e w11 ⟨v_d, u_d, rfl, h_d, l_d, i_d, j_d, hb11⟩
  replace hv := hv.to hb11
  replace hvx := hvx.to hb11
  replace h_c := h_c.to hb11
  replace r_c := r_c.to hb11
  replace kS := kS.to hb11
  replace kx := kx.to hb11
  replace k10 := k10.to hb11
  replace k12 := k12.to hb11
  replace hL := hL.below hb11
  replace hB0 := bnext hB0 hb11
  clear hb11
  obtain ⟨Ad, cd, Ld, cld, Bd, dd, rfl, -, -, -, -⟩ := id h_d
  simp only [spcV] at h_d ⊢
  simp only [spcV] at l_d
  obtain ⟨Au_d, cu_d, rfl, r_d⟩ := i_d
  obtain ⟨c_kS, f_kS, l_kS⟩ := kS.facts
  obtain ⟨c_kx, f_kx, l_kx⟩ := kx.facts
  obtain ⟨c_k10, f_k10, l_k10⟩ := k10.facts
  obtain ⟨c_k12, f_k12, l_k12⟩ := k12.facts
  go_upto_region 10 with fail
  clear c_kS f_kS l_kS
  clear c_kx f_kx l_kx
  clear c_k10 f_k10 l_k10
  clear c_k12 f_k12 l_k12
  replace kS := bk_far4 (g := w6.heap.size) kS (by omega) (.slice Ad rsU.length cd) (.int .i64 rU) (.slice Ld lsU.length cld) (.slice Bd esU.length dd)
  replace kx := bk_far4 (g := w6.heap.size) kx (by omega) (.slice Ad rsU.length cd) (.int .i64 rU) (.slice Ld lsU.length cld) (.slice Bd esU.length dd)
  replace k10 := bk_far4 (g := w6.heap.size) k10 (by omega) (.slice Ad rsU.length cd) (.int .i64 rU) (.slice Ld lsU.length cld) (.slice Bd esU.length dd)
  replace k12 := k12.put4 (.slice Ad rsU.length cd) (.int .i64 rU) (.slice Ld lsU.length cld) (.slice Bd esU.length dd)
  replace hv := spv_no4 (g := w6.heap.size) hv nhvk12 (.slice Ad rsU.length cd) (.int .i64 rU) (.slice Ld lsU.length cld) (.slice Bd esU.length dd)
  replace hvx := spv_no4 (g := w6.heap.size) hvx nhvxk12 (.slice Ad rsU.length cd) (.int .i64 rU) (.slice Ld lsU.length cld) (.slice Bd esU.length dd)
  replace h_c := spv_put4 (g := w6.heap.size) h_c l_c pk12c (.slice Ad rsU.length cd) (.int .i64 rU) (.slice Ld lsU.length cld) (.slice Bd esU.length dd)
  replace r_c := rd_il4 (g := w6.heap.size) r_c j_c pk12c (.slice Ad rsU.length cd) (.int .i64 rU) (.slice Ld lsU.length cld) (.slice Bd esU.length dd)
  replace h_d := spv_put4 (g := w6.heap.size) h_d l_d pk12d (.slice Ad rsU.length cd) (.int .i64 rU) (.slice Ld lsU.length cld) (.slice Bd esU.length dd)
  replace r_d := rd_il4 (g := w6.heap.size) r_d j_d pk12d (.slice Ad rsU.length cd) (.int .i64 rU) (.slice Ld lsU.length cld) (.slice Bd esU.length dd)
  replace hB0 := below_put4 hB0 (g := w6.heap.size) (by omega) (.slice Ad rsU.length cd) (.int .i64 rU) (.slice Ld lsU.length cld) (.slice Bd esU.length dd)
  generalize (((w11.setCell ⟨w6.heap.size, 0, none⟩ (.slice Ad rsU.length cd)).setCell ⟨w6.heap.size, 1, none⟩ (.int .i64 rU)).setCell ⟨w6.heap.size, 2, none⟩ (.slice Ld lsU.length cld)).setCell ⟨w6.heap.size, 3, none⟩ (.slice Bd esU.length dd) = w12 at *
  clear hL
  have hL := hL0.below hB0
  clear HU HUr
  obtain ⟨c_kS, f_kS, l_kS⟩ := kS.facts
  obtain ⟨c_kx, f_kx, l_kx⟩ := kx.facts
  obtain ⟨c_k10, f_k10, l_k10⟩ := k10.facts
  obtain ⟨c_k12, f_k12, l_k12⟩ := k12.facts
  go_wp2_with fail
  clear c_kS f_kS l_kS
  clear c_kx f_kx l_kx
  clear c_k10 f_k10 l_k10
  clear c_k12 f_k12 l_k12
  refine (HSU.out _ _ _ h_c h_d).mono ?_
  rintro e w13 ⟨rfl, hb13⟩
  replace hv := hv.to hb13
  replace hvx := hvx.to hb13
  replace h_c := h_c.to hb13
  replace r_c := r_c.to hb13
  replace h_d := h_d.to hb13
  replace r_d := r_d.to hb13
  replace kS := kS.to hb13
  replace kx := kx.to hb13
  replace k10 := k10.to hb13
  replace k12 := k12.to hb13
  replace hL := hL.below hb13
  replace hB0 := bnext hB0 hb13
  clear hb13
  obtain ⟨c_kS, f_kS, l_kS⟩ := kS.facts
  obtain ⟨c_kx, f_kx, l_kx⟩ := kx.facts
  obtain ⟨c_k10, f_k10, l_k10⟩ := k10.facts
  obtain ⟨c_k12, f_k12, l_k12⟩ := k12.facts
  go_wp2_with fail
  clear c_kS f_kS l_kS
  clear c_kx f_kx l_kx
  clear c_k10 f_k10 l_k10
  clear c_k12 f_k12 l_k12
  refine (HLU.out _ _ _ ⟨_, _, rfl, r_c⟩ ⟨_, _, rfl, r_d⟩).mono ?_
  rintro e w14 ⟨rfl, hb14⟩
  replace hv := hv.to hb14
  replace hvx := hvx.to hb14
  replace h_c := h_c.to hb14
  replace r_c := r_c.to hb14
  replace h_d := h_d.to hb14
  replace r_d := r_d.to hb14
  replace kS := kS.to hb14
  replace kx := kx.to hb14
  replace k10 := k10.to hb14
  replace k12 := k12.to hb14
  replace hL := hL.below hb14
  replace hB0 := bnext hB0 hb14
  clear hb14
  clear h_c r_c
  clear l_c j_c pk10c pk12c
  clear h_d r_d
  clear l_d j_d pk10d pk12d
  clear HSU HLU
  have pk10e := k10.lt
  have pk12e := k12.lt
  obtain ⟨c_kS, f_kS, l_kS⟩ := kS.facts
  obtain ⟨c_kx, f_kx, l_kx⟩ := kx.facts
  obtain ⟨c_k10, f_k10, l_k10⟩ := k10.facts
  obtain ⟨c_k12, f_k12, l_k12⟩ := k12.facts
  go_wp2_with fail
  clear c_kS f_kS l_kS
  clear c_kx f_kx l_kx
  clear c_k10 f_k10 l_k10
  clear c_k12 f_k12 l_k12
  refine (HE.out _ _ hvx hL).mono ?_
  rintro e w15 ⟨v_e, u_e, z_e, rfl, h_e, l_e, i_e, j_e, zi_e, zj_e, hb15⟩
  replace hv := hv.to hb15
  replace hvx := hvx.to hb15
  replace kS := kS.to hb15
  replace kx := kx.to hb15
  replace k10 := k10.to hb15
  replace k12 := k12.to hb15
  replace hL := hL.below hb15
  replace hB0 := bnext hB0 hb15
  clear hb15
  obtain ⟨Ae, ce, Le, cle, Be, de, rfl, -, -, -, -⟩ := id h_e
  simp only [spcV] at h_e ⊢
  simp only [spcV] at l_e
  obtain ⟨Au_e, cu_e, rfl, r_e⟩ := i_e
  obtain ⟨Az_e, cz_e, rfl, s_e⟩ := zi_e
  obtain ⟨c_kS, f_kS, l_kS⟩ := kS.facts
  obtain ⟨c_kx, f_kx, l_kx⟩ := kx.facts
  obtain ⟨c_k10, f_k10, l_k10⟩ := k10.facts
  obtain ⟨c_k12, f_k12, l_k12⟩ := k12.facts
  go_upto_region 13 with fail
  clear c_kS f_kS l_kS
  clear c_kx f_kx l_kx
  clear c_k10 f_k10 l_k10
  clear c_k12 f_k12 l_k12
  replace kS := bk_far4 (g := w4.heap.size) kS (by omega) (.slice Ae rsE.length ce) (.int .i64 rE) (.slice Le lsE.length cle) (.slice Be esE.length de)
  replace kx := bk_far4 (g := w4.heap.size) kx (by omega) (.slice Ae rsE.length ce) (.int .i64 rE) (.slice Le lsE.length cle) (.slice Be esE.length de)
  replace k10 := k10.put4 (.slice Ae rsE.length ce) (.int .i64 rE) (.slice Le lsE.length cle) (.slice Be esE.length de)
  replace k12 := bk_far4 (g := w4.heap.size) k12 (by omega) (.slice Ae rsE.length ce) (.int .i64 rE) (.slice Le lsE.length cle) (.slice Be esE.length de)
  replace hv := spv_no4 (g := w4.heap.size) hv nhvk10 (.slice Ae rsE.length ce) (.int .i64 rE) (.slice Le lsE.length cle) (.slice Be esE.length de)
  replace hvx := spv_no4 (g := w4.heap.size) hvx nhvxk10 (.slice Ae rsE.length ce) (.int .i64 rE) (.slice Le lsE.length cle) (.slice Be esE.length de)
  replace h_e := spv_put4 (g := w4.heap.size) h_e l_e pk10e (.slice Ae rsE.length ce) (.int .i64 rE) (.slice Le lsE.length cle) (.slice Be esE.length de)
  replace r_e := rd_il4 (g := w4.heap.size) r_e j_e pk10e (.slice Ae rsE.length ce) (.int .i64 rE) (.slice Le lsE.length cle) (.slice Be esE.length de)
  replace s_e := rd_il4 (g := w4.heap.size) s_e zj_e pk10e (.slice Ae rsE.length ce) (.int .i64 rE) (.slice Le lsE.length cle) (.slice Be esE.length de)
  replace hB0 := below_put4 hB0 (g := w4.heap.size) (by omega) (.slice Ae rsE.length ce) (.int .i64 rE) (.slice Le lsE.length cle) (.slice Be esE.length de)
  generalize (((w15.setCell ⟨w4.heap.size, 0, none⟩ (.slice Ae rsE.length ce)).setCell ⟨w4.heap.size, 1, none⟩ (.int .i64 rE)).setCell ⟨w4.heap.size, 2, none⟩ (.slice Le lsE.length cle)).setCell ⟨w4.heap.size, 3, none⟩ (.slice Be esE.length de) = w16 at *
  clear hL
  have hL := hL0.below hB0
  have pk10f := k10.lt
  have pk12f := k12.lt
  obtain ⟨c_kS, f_kS, l_kS⟩ := kS.facts
  obtain ⟨c_kx, f_kx, l_kx⟩ := kx.facts
  obtain ⟨c_k10, f_k10, l_k10⟩ := k10.facts
  obtain ⟨c_k12, f_k12, l_k12⟩ := k12.facts
  go_wp2_with fail
  clear c_kS f_kS l_kS
  clear c_kx f_kx l_kx
  clear c_k10 f_k10 l_k10
  clear c_k12 f_k12 l_k12
  refine (HEr.out _ _ hv).mono ?_
  rintro e w17 ⟨v_f, u_f, z_f, rfl, h_f, l_f, i_f, j_f, zi_f, zj_f, hb17⟩
  replace hv := hv.to hb17
  replace hvx := hvx.to hb17
  replace h_e := h_e.to hb17
  replace r_e := r_e.to hb17
  replace s_e := s_e.to hb17
  replace kS := kS.to hb17
  replace kx := kx.to hb17
  replace k10 := k10.to hb17
  replace k12 := k12.to hb17
  replace hL := hL.below hb17
  replace hB0 := bnext hB0 hb17
  clear hb17
  obtain ⟨Af, cf, Lf, clf, Bf, df, rfl, -, -, -, -⟩ := id h_f
  simp only [spcV] at h_f ⊢
  simp only [spcV] at l_f
  obtain ⟨Au_f, cu_f, rfl, r_f⟩ := i_f
  obtain ⟨Az_f, cz_f, rfl, s_f⟩ := zi_f
  obtain ⟨c_kS, f_kS, l_kS⟩ := kS.facts
  obtain ⟨c_kx, f_kx, l_kx⟩ := kx.facts
  obtain ⟨c_k10, f_k10, l_k10⟩ := k10.facts
  obtain ⟨c_k12, f_k12, l_k12⟩ := k12.facts
  go_upto_region 14 with fail
  clear c_kS f_kS l_kS
  clear c_kx f_kx l_kx
  clear c_k10 f_k10 l_k10
  clear c_k12 f_k12 l_k12
  replace kS := bk_far4 (g := w6.heap.size) kS (by omega) (.slice Af rsE.length cf) (.int .i64 rE) (.slice Lf lsE.length clf) (.slice Bf esE.length df)
  replace kx := bk_far4 (g := w6.heap.size) kx (by omega) (.slice Af rsE.length cf) (.int .i64 rE) (.slice Lf lsE.length clf) (.slice Bf esE.length df)
  replace k10 := bk_far4 (g := w6.heap.size) k10 (by omega) (.slice Af rsE.length cf) (.int .i64 rE) (.slice Lf lsE.length clf) (.slice Bf esE.length df)
  replace k12 := k12.put4 (.slice Af rsE.length cf) (.int .i64 rE) (.slice Lf lsE.length clf) (.slice Bf esE.length df)
  replace hv := spv_no4 (g := w6.heap.size) hv nhvk12 (.slice Af rsE.length cf) (.int .i64 rE) (.slice Lf lsE.length clf) (.slice Bf esE.length df)
  replace hvx := spv_no4 (g := w6.heap.size) hvx nhvxk12 (.slice Af rsE.length cf) (.int .i64 rE) (.slice Lf lsE.length clf) (.slice Bf esE.length df)
  replace h_e := spv_put4 (g := w6.heap.size) h_e l_e pk12e (.slice Af rsE.length cf) (.int .i64 rE) (.slice Lf lsE.length clf) (.slice Bf esE.length df)
  replace r_e := rd_il4 (g := w6.heap.size) r_e j_e pk12e (.slice Af rsE.length cf) (.int .i64 rE) (.slice Lf lsE.length clf) (.slice Bf esE.length df)
  replace s_e := rd_il4 (g := w6.heap.size) s_e zj_e pk12e (.slice Af rsE.length cf) (.int .i64 rE) (.slice Lf lsE.length clf) (.slice Bf esE.length df)
  replace h_f := spv_put4 (g := w6.heap.size) h_f l_f pk12f (.slice Af rsE.length cf) (.int .i64 rE) (.slice Lf lsE.length clf) (.slice Bf esE.length df)
  replace r_f := rd_il4 (g := w6.heap.size) r_f j_f pk12f (.slice Af rsE.length cf) (.int .i64 rE) (.slice Lf lsE.length clf) (.slice Bf esE.length df)
  replace s_f := rd_il4 (g := w6.heap.size) s_f zj_f pk12f (.slice Af rsE.length cf) (.int .i64 rE) (.slice Lf lsE.length clf) (.slice Bf esE.length df)
  replace hB0 := below_put4 hB0 (g := w6.heap.size) (by omega) (.slice Af rsE.length cf) (.int .i64 rE) (.slice Lf lsE.length clf) (.slice Bf esE.length df)
  generalize (((w17.setCell ⟨w6.heap.size, 0, none⟩ (.slice Af rsE.length cf)).setCell ⟨w6.heap.size, 1, none⟩ (.int .i64 rE)).setCell ⟨w6.heap.size, 2, none⟩ (.slice Lf lsE.length clf)).setCell ⟨w6.heap.size, 3, none⟩ (.slice Bf esE.length df) = w18 at *
  clear hL
  have hL := hL0.below hB0
  clear HE HEr
  obtain ⟨c_kS, f_kS, l_kS⟩ := kS.facts
  obtain ⟨c_kx, f_kx, l_kx⟩ := kx.facts
  obtain ⟨c_k10, f_k10, l_k10⟩ := k10.facts
  obtain ⟨c_k12, f_k12, l_k12⟩ := k12.facts
  go_wp2_with fail
  clear c_kS f_kS l_kS
  clear c_kx f_kx l_kx
  clear c_k10 f_k10 l_k10
  clear c_k12 f_k12 l_k12
  refine (HSE.out _ _ _ h_e h_f).mono ?_
  rintro e w19 ⟨rfl, hb19⟩
  replace hv := hv.to hb19
  replace hvx := hvx.to hb19
  replace h_e := h_e.to hb19
  replace r_e := r_e.to hb19
  replace s_e := s_e.to hb19
  replace h_f := h_f.to hb19
  replace r_f := r_f.to hb19
  replace s_f := s_f.to hb19
  replace kS := kS.to hb19
  replace kx := kx.to hb19
  replace k10 := k10.to hb19
  replace k12 := k12.to hb19
  replace hL := hL.below hb19
  replace hB0 := bnext hB0 hb19
  clear hb19
  obtain ⟨c_kS, f_kS, l_kS⟩ := kS.facts
  obtain ⟨c_kx, f_kx, l_kx⟩ := kx.facts
  obtain ⟨c_k10, f_k10, l_k10⟩ := k10.facts
  obtain ⟨c_k12, f_k12, l_k12⟩ := k12.facts
  go_wp2_with fail
  clear c_kS f_kS l_kS
  clear c_kx f_kx l_kx
  clear c_k10 f_k10 l_k10
  clear c_k12 f_k12 l_k12
  refine (HLE.out _ _ _ ⟨_, _, rfl, r_e⟩ ⟨_, _, rfl, r_f⟩).mono ?_
  rintro e w20 ⟨rfl, hb20⟩
  replace hv := hv.to hb20
  replace hvx := hvx.to hb20
  replace h_e := h_e.to hb20
  replace r_e := r_e.to hb20
  replace s_e := s_e.to hb20
  replace h_f := h_f.to hb20
  replace r_f := r_f.to hb20
  replace s_f := s_f.to hb20
  replace kS := kS.to hb20
  replace kx := kx.to hb20
  replace k10 := k10.to hb20
  replace k12 := k12.to hb20
  replace hL := hL.below hb20
  replace hB0 := bnext hB0 hb20
  clear hb20
  obtain ⟨c_kS, f_kS, l_kS⟩ := kS.facts
  obtain ⟨c_kx, f_kx, l_kx⟩ := kx.facts
  obtain ⟨c_k10, f_k10, l_k10⟩ := k10.facts
  obtain ⟨c_k12, f_k12, l_k12⟩ := k12.facts
  go_wp2_with fail
  clear c_kS f_kS l_kS
  clear c_kx f_kx l_kx
  clear c_k10 f_k10 l_k10
  clear c_k12 f_k12 l_k12
  refine (HIE.out _ _ _ ⟨_, _, rfl, s_e⟩ ⟨_, _, rfl, s_f⟩).mono ?_
  rintro e w21 ⟨rfl, hb21⟩
  replace hv := hv.to hb21
  replace hvx := hvx.to hb21
  replace h_e := h_e.to hb21
  replace r_e := r_e.to hb21
  replace s_e := s_e.to hb21
  replace h_f := h_f.to hb21
  replace r_f := r_f.to hb21
  replace s_f := s_f.to hb21
  replace kS := kS.to hb21
  replace kx := kx.to hb21
  replace k10 := k10.to hb21
  replace k12 := k12.to hb21
  replace hL := hL.below hb21
  replace hB0 := bnext hB0 hb21
  clear hb21
  clear h_e r_e s_e
  clear l_e j_e zj_e pk10e pk12e
  clear h_f r_f s_f
  clear l_f j_f zj_f pk10f pk12f
  clear HSE HLE HIE
  obtain ⟨c_kS, f_kS, l_kS⟩ := kS.facts
  obtain ⟨c_kx, f_kx, l_kx⟩ := kx.facts
  obtain ⟨c_k10, f_k10, l_k10⟩ := k10.facts
  obtain ⟨c_k12, f_k12, l_k12⟩ := k12.facts
  go_wp2_with fail
  clear c_kS f_kS l_kS
  clear c_kx f_kx l_kx
  clear c_k10 f_k10 l_k10
  clear c_k12 f_k12 l_k12
  refine (HSX.out _ _ _ hvx hv).mono ?_
  rintro e w22 ⟨rfl, hb22⟩
  replace hv := hv.to hb22
  replace hvx := hvx.to hb22
  replace kS := kS.to hb22
  replace kx := kx.to hb22
  replace k10 := k10.to hb22
  replace k12 := k12.to hb22
  replace hL := hL.below hb22
  replace hB0 := bnext hB0 hb22
  clear hb22
  obtain ⟨c_kS, f_kS, l_kS⟩ := kS.facts
  obtain ⟨c_kx, f_kx, l_kx⟩ := kx.facts
  obtain ⟨c_k10, f_k10, l_k10⟩ := k10.facts
  obtain ⟨c_k12, f_k12, l_k12⟩ := k12.facts
  go_wp2_with fail
  clear c_kS f_kS l_kS
  clear c_kx f_kx l_kx
  clear c_k10 f_k10 l_k10
  clear c_k12 f_k12 l_k12
  refine (awake27_any _ hL).mono ?_
  rintro e w23 ⟨rfl, hb23⟩
  replace hv := hv.to hb23
  replace hvx := hvx.to hb23
  replace kS := kS.to hb23
  replace kx := kx.to hb23
  replace k10 := k10.to hb23
  replace k12 := k12.to hb23
  replace hL := hL.below hb23
  replace hB0 := bnext hB0 hb23
  clear hb23
  obtain ⟨c_kS, f_kS, l_kS⟩ := kS.facts
  obtain ⟨c_kx, f_kx, l_kx⟩ := kx.facts
  obtain ⟨c_k10, f_k10, l_k10⟩ := k10.facts
  obtain ⟨c_k12, f_k12, l_k12⟩ := k12.facts
  go_wp2_with fail
  go_ret
  exact ⟨rfl, hB0⟩
end Go.Proofs.YtpkgfkhaiifooaaGreatDoor
