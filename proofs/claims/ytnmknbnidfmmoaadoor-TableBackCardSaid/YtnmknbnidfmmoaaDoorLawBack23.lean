/- TableBack returns true for all numbers. -/
import Derived.Test.YtnmknbnidfmmoaaDoorBackQ
import Derived.Deep.RegionHeld3
import Derived.Deep.DeepCutAuto
namespace Go.Proofs.YtnmknbnidfmmoaaDoor
open Go Go.Proofs Go.RowKit
set_option linter.unusedSimpArgs false
set_option linter.unusedVariables false
set_option maxRecDepth 100000

set_option maxHeartbeats 8000000 in
theorem TableBack_true (nums : List Int) (A : Option Addr) (c : Nat) (page n : Int) (w : World) (hr : Rd w 1 A nums.length (iw nums)) (hL : LayOK w) :
    Calls Tryd.prog 6 #[.slice A nums.length c, .int .i64 page, .int .i64 n] w fun e w' => e = .returned (.bool true) ∧ Below w.heap.size w w' := by
  obtain ⟨q, hq⟩ : ∃ q : Nat, page % 64 = q := ⟨(page % 64).toNat, by have := Int.emod_nonneg page (show (64 : Int) ≠ 0 by omega); omega⟩
  have hq2 : q < 64 := by have := Int.emod_lt_of_pos page (show (0 : Int) < 64 by omega); omega
  have HM := Lib.hid (fun W => Mod_any page 64 W (by omega) (by omega))
  rw [hq] at HM
  clear hq
  have hL0 := hL
  go_enter Tryd.func6, Tryd.ntmps6
  go_wp2_with fail
  refine (made_any nums A c _ hr hL).mono ?_
  rintro e w1 ⟨es, v1, rfl, hE, hs, hv1, hb1⟩
  have hc1 : Below w.heap.size w w1 := bnext (Below.refl _ _) hb1
  replace hL := hL.below hc1
  have e8 : (mdL 8).length = 8 := md_len 8
  have e64 := (tab_zero hE).2.1
  clear hr
  obtain ⟨A1, c1, B1, d1, rfl, _, _, _⟩ := id hv1
  simp only [tabV, e8, e64] at hv1 ⊢
  go_wp2_with fail
  refine (HM.out _).mono ?_
  rintro e w1' ⟨rfl, rfl⟩
  go_wp2_with fail
  refine (entry_any n _).mono ?_
  rintro e w2 ⟨k, m, a, b, f, rfl, hchk, hb2⟩
  have hc2 : Below w1.heap.size w1 w2 := bnext (balloc (Below.refl _ _) _) hb2
  replace hL := hL.below hc2
  replace hv1 := hv1.below hc2
  have kT1 := (Bk.new w1 #[.int .i64 1, .slice A1 8 c1, .slice B1 64 d1] 25).to hb2
  obtain ⟨cT1, fT1, lT1⟩ := kT1.facts
  go_wp2_with fail
  refine (TLacks_any 1 (mdL 8) es _ (q : Nat) _ (hv1.alloc _) hs (hL.alloc _)).mono ?_
  rw [lack_at hE q hq2]
  rintro e w3 ⟨rfl, hb3⟩
  clear cT1 fT1 lT1
  have hc3 : Below w2.heap.size w2 w3 := bnext (balloc (Below.refl _ _) _) hb3
  replace kT1 := kT1.to hc3
  replace hL := hL.below hc3
  replace hv1 := hv1.below hc3
  have kV := (Bk.new w2 #[.int .i64 k, .int .i64 m, .bool a, .bool b, .bool f] 35).to hb3
  obtain ⟨cT1, fT1, lT1⟩ := kT1.facts
  obtain ⟨cV, fV, lV⟩ := kV.facts
  rcases back_put hE q hq2 k m a b f hchk with ⟨hl, hk0, hput⟩ | ⟨hl, x, hput, hEa, hx, hux, hkx, hex⟩
  case inl =>
    have hkk : (k != 0) = true := by simpa using hk0
    simp only [decide_eq_true hl]
    clear hk0 hl
    go_wp2_with fail
    refine (TPut_any 1 (mdL 8) es _ (q : Nat) k m a b f _ hv1 hs hL).mono ?_
    rw [hput]
    rintro e w4 ⟨v4, rfl, hv4, hl4, hb4⟩
    clear cT1 fT1 lT1 cV fV lV
    have hc4 : Below w3.heap.size w3 w4 := bnext (Below.refl _ _) hb4
    replace kT1 := kT1.to hc4
    replace kV := kV.to hc4
    replace hL := hL.below hc4
    replace hv1 := hv1.below hc4
    obtain ⟨cT1, fT1, lT1⟩ := kT1.facts
    obtain ⟨cV, fV, lV⟩ := kV.facts
    obtain ⟨A4, c4, B4, d4, rfl, _, _, _⟩ := id hv4
    simp only [tabV] at hv4 ⊢
    go_wp2_with fail
    refine (awake_true _ (hL.alloc _)).mono ?_
    rintro e w5 ⟨rfl, hb5⟩
    clear cT1 fT1 lT1 cV fV lV
    have hc5 : Below w4.heap.size w4 w5 := bnext (balloc (Below.refl _ _) _) hb5
    replace kT1 := kT1.to hc5
    replace kV := kV.to hc5
    replace hL := hL.below hc5
    replace hv1 := hv1.below hc5
    have kT4 := (Bk.new w4 #[.int .i64 0, .slice A4 0 c4, .slice B4 0 d4] 25).to hb5
    obtain ⟨cT1, fT1, lT1⟩ := kT1.facts
    obtain ⟨cV, fV, lV⟩ := kV.facts
    obtain ⟨cT4, fT4, lT4⟩ := kT4.facts
    go_wp2_with fail
    go_ret
    exact ⟨rfl, bnext (bnext (bnext (bnext hc1 hc2) hc3) hc4) hc5⟩
  have hsa : wsmall (es.set q x) := wsmall_set hs _ (show x < 18446744073709551616 by omega)
  have hga : (es.set q x).getD q 0 = x := by rw [getD_set es q x q (by omega), if_pos rfl]
  have HGa := Lib.hid (get_is hEa q hq2)
  rw [hga, hux] at HGa
  have HO := Lib.hid (show ∀ j : Nat, j < 64 → (j : Int) ≠ q → unpR ((es.set q x).getD j 0) = unpR (es.getD j 0) from fun j _ hj => by rw [getD_set es q x j (by omega), if_neg (by omega)])
  have e64a : (es.set q x).length = 64 := by rw [List.length_set]; exact e64
  generalize decide ((mdL 8).getD (q / 8) 0 = -1) = lk
  clear hex hux
  go_wp2_with fail
  refine (TPut_any 1 (mdL 8) es _ (q : Nat) k m a b f _ hv1 hs hL).mono ?_
  rw [hput]
  rintro e w4 ⟨v4, rfl, hv4, hl4, hb4⟩
  clear cT1 fT1 lT1 cV fV lV
  have hc4 : Below w3.heap.size w3 w4 := bnext (Below.refl _ _) hb4
  replace kT1 := kT1.to hc4
  replace kV := kV.to hc4
  replace hL := hL.below hc4
  replace hv1 := hv1.below hc4
  obtain ⟨cT1, fT1, lT1⟩ := kT1.facts
  obtain ⟨cV, fV, lV⟩ := kV.facts
  obtain ⟨A4, c4, B4, d4, rfl, _, _, _⟩ := id hv4
  simp only [tabV, e8, e64a] at hv4 ⊢
  go_wp2_with fail
  refine (TGet_any 1 (mdL 8) (es.set q x) _ (q : Nat) _ (hv4.alloc _) hsa (hL.alloc _)).mono ?_
  rw [HGa.out]
  rintro e w5 ⟨rfl, hb5⟩
  clear cT1 fT1 lT1 cV fV lV
  have hc5 : Below w4.heap.size w4 w5 := bnext (balloc (Below.refl _ _) _) hb5
  replace kT1 := kT1.to hc5
  replace kV := kV.to hc5
  replace hL := hL.below hc5
  replace hv1 := hv1.below hc5
  replace hv4 := hv4.below hc5
  have kT4 := (Bk.new w4 #[.int .i64 1, .slice A4 8 c4, .slice B4 64 d4] 25).to hb5
  simp only
  obtain ⟨cT1, fT1, lT1⟩ := kT1.facts
  obtain ⟨cV, fV, lV⟩ := kV.facts
  obtain ⟨cT4, fT4, lT4⟩ := kT4.facts
  go_wp2_with fail
  refine (TCheck_any 1 (mdL 8) (es.set q x) _ _ (hv4.alloc _) hsa (hL.alloc _)).mono ?_
  rw [hEa]
  rintro e w6 ⟨rfl, hb6⟩
  clear cT1 fT1 lT1 cV fV lV cT4 fT4 lT4
  have hc6 : Below w5.heap.size w5 w6 := bnext (balloc (Below.refl _ _) _) hb6
  replace kT1 := kT1.to hc6
  replace kV := kV.to hc6
  replace kT4 := kT4.to hc6
  replace hL := hL.below hc6
  replace hv1 := hv1.below hc6
  replace hv4 := hv4.below hc6
  have kG := (Bk.new w5 #[.int .i64 k, .int .i64 m, .bool a, .bool b, .bool f] 35).to hb6
  obtain ⟨cT1, fT1, lT1⟩ := kT1.facts
  obtain ⟨cV, fV, lV⟩ := kV.facts
  obtain ⟨cT4, fT4, lT4⟩ := kT4.facts
  obtain ⟨cG, fG, lG⟩ := kG.facts
  go_wp2_with fail
  refine (others_any 1 1 (mdL 8) (mdL 8) (es.set q x) es _ _ q _ hv4 hv1 hsa hs hEa hE hL HO.out).mono ?_
  rintro e w7 ⟨rfl, hb7⟩
  clear cT1 fT1 lT1 cV fV lV cT4 fT4 lT4 cG fG lG
  have hc7 : Below w6.heap.size w6 w7 := bnext (Below.refl _ _) hb7
  replace kT1 := kT1.to hc7
  replace kV := kV.to hc7
  replace kT4 := kT4.to hc7
  replace kG := kG.to hc7
  replace hL := hL.below hc7
  replace hv1 := hv1.below hc7
  replace hv4 := hv4.below hc7
  obtain ⟨cT1, fT1, lT1⟩ := kT1.facts
  obtain ⟨cV, fV, lV⟩ := kV.facts
  obtain ⟨cT4, fT4, lT4⟩ := kT4.facts
  obtain ⟨cG, fG, lG⟩ := kG.facts
  by_cases hk0 : k = 0
  case pos =>
    subst hk0
    have hcl := back_clear0 hEa q hq2 (by rw [hga]; exact hkx)
    clear hkx
    go_wp2_with fail
    refine (TClear_any 1 (mdL 8) (es.set q x) _ (q : Nat) _ hv4 hsa hL).mono ?_
    rw [hcl]
    rintro e w8 ⟨v8, rfl, hv8, hb8⟩
    clear cT1 fT1 lT1 cV fV lV cT4 fT4 lT4 cG fG lG
    have hc8 : Below w7.heap.size w7 w8 := bnext (Below.refl _ _) hb8
    replace kT1 := kT1.to hc8
    replace kV := kV.to hc8
    replace kT4 := kT4.to hc8
    replace kG := kG.to hc8
    replace hL := hL.below hc8
    replace hv1 := hv1.below hc8
    replace hv4 := hv4.below hc8
    obtain ⟨cT1, fT1, lT1⟩ := kT1.facts
    obtain ⟨cV, fV, lV⟩ := kV.facts
    obtain ⟨cT4, fT4, lT4⟩ := kT4.facts
    obtain ⟨cG, fG, lG⟩ := kG.facts
    obtain ⟨A8, c8, B8, d8, rfl, _, _, _⟩ := id hv8
    simp only [tabV] at hv8 ⊢
    go_wp2_with fail
    refine (awake_true _ (hL.alloc _)).mono ?_
    rintro e w9 ⟨rfl, hb9⟩
    clear cT1 fT1 lT1 cV fV lV cT4 fT4 lT4 cG fG lG
    have hc9 : Below w8.heap.size w8 w9 := bnext (balloc (Below.refl _ _) _) hb9
    replace kT1 := kT1.to hc9
    replace kV := kV.to hc9
    replace kT4 := kT4.to hc9
    replace kG := kG.to hc9
    replace hL := hL.below hc9
    replace hv1 := hv1.below hc9
    replace hv4 := hv4.below hc9
    have kT8 := (Bk.new w8 #[.int .i64 0, .slice A8 0 c8, .slice B8 0 d8] 25).to hb9
    obtain ⟨cT1, fT1, lT1⟩ := kT1.facts
    obtain ⟨cV, fV, lV⟩ := kV.facts
    obtain ⟨cT4, fT4, lT4⟩ := kT4.facts
    obtain ⟨cG, fG, lG⟩ := kG.facts
    obtain ⟨cT8, fT8, lT8⟩ := kT8.facts
    go_wp2_with fail
    go_ret
    exact ⟨rfl, bnext (bnext (bnext (bnext (bnext (bnext (bnext (bnext hc1 hc2) hc3) hc4) hc5) hc6) hc7) hc8) hc9⟩
  have hkk : (k == 0) = false := by simpa using hk0
  obtain ⟨lb, leaf, us, hcl, hEb, hus, hlb, hlf, hlf2⟩ := back_made hEa q hq2 (by rw [hga, hkx]; exact hk0)
  have hsb : wsmall ((es.set q x).set q 0) := wsmall_set hsa _ (by decide)
  have hgb : ((es.set q x).set q 0).getD q 0 = 0 := by rw [getD_set _ q 0 q (by omega), if_pos rfl]
  have HGb := Lib.hid (get_is hEb q hq2)
  rw [hgb, unpR0] at HGb
  have HO2 := Lib.hid (show ∀ j : Nat, j < 64 → (j : Int) ≠ q → unpR (((es.set q x).set q 0).getD j 0) = unpR ((es.set q x).getD j 0) from fun j _ hj => by rw [getD_set _ q 0 j (by omega), if_neg (by omega)])
  have e8b := (tab_zero hEb).1
  have e64b := (tab_zero hEb).2.1
  have HLb := Lib.hid (lack_at hEb q hq2)
  rw [hlb] at HLb
  have HUS := Lib.hid hus
  generalize (es.set q x).set q 0 = eb at *
  generalize es.set q x = ea at *
  clear hk0 hlb hgb hga hus HGa HO hkx
  go_wp2_with fail
  refine (TClear_any 1 (mdL 8) ea _ (q : Nat) _ hv4 hsa hL).mono ?_
  rw [hcl]
  rintro e w8 ⟨v8, rfl, hv8, hb8⟩
  clear cT1 fT1 lT1 cV fV lV cT4 fT4 lT4 cG fG lG
  have hc8 : Below w7.heap.size w7 w8 := bnext (Below.refl _ _) hb8
  replace kT1 := kT1.to hc8
  replace kV := kV.to hc8
  replace kT4 := kT4.to hc8
  replace kG := kG.to hc8
  replace hL := hL.below hc8
  replace hv1 := hv1.below hc8
  replace hv4 := hv4.below hc8
  obtain ⟨cT1, fT1, lT1⟩ := kT1.facts
  obtain ⟨cV, fV, lV⟩ := kV.facts
  obtain ⟨cT4, fT4, lT4⟩ := kT4.facts
  obtain ⟨cG, fG, lG⟩ := kG.facts
  obtain ⟨A8, c8, B8, d8, rfl, _, _, _⟩ := id hv8
  simp only [tabV, e8b, e64b] at hv8 ⊢
  go_wp2_with fail
  refine (TGet_any 1 lb eb _ (q : Nat) _ (hv8.alloc _) hsb (hL.alloc _)).mono ?_
  rw [HGb.out]
  rintro e w9 ⟨rfl, hb9⟩
  clear cT1 fT1 lT1 cV fV lV cT4 fT4 lT4 cG fG lG
  have hc9 : Below w8.heap.size w8 w9 := bnext (balloc (Below.refl _ _) _) hb9
  replace kT1 := kT1.to hc9
  replace kV := kV.to hc9
  replace kT4 := kT4.to hc9
  replace kG := kG.to hc9
  replace hL := hL.below hc9
  replace hv1 := hv1.below hc9
  replace hv4 := hv4.below hc9
  replace hv8 := hv8.below hc9
  have kT8 := (Bk.new w8 #[.int .i64 1, .slice A8 8 c8, .slice B8 64 d8] 25).to hb9
  simp only
  obtain ⟨cT1, fT1, lT1⟩ := kT1.facts
  obtain ⟨cV, fV, lV⟩ := kV.facts
  obtain ⟨cT4, fT4, lT4⟩ := kT4.facts
  obtain ⟨cG, fG, lG⟩ := kG.facts
  obtain ⟨cT8, fT8, lT8⟩ := kT8.facts
  go_upto_region 16 with fail
  have s5 := hb5.size
  have s6 := hb6.size
  have s7 := hc7.size
  have s8 := hc8.size
  have s0 : w.heap.size ≤ w4.heap.size := Nat.le_trans hc1.size (Nat.le_trans hc2.size (Nat.le_trans hc3.size hc4.size))
  simp only [World.size_alloc] at s5 s6
  have hBF := below_put5 (bnext (bnext (bnext (bnext (bnext (bnext (bnext (bnext hc1 hc2) hc3) hc4) hc5) hc6) hc7) hc8) hc9) (b := w5.heap.size) (by omega) (.int .i64 0) (.int .i64 0) (.bool false) (.bool false) (.bool false)
  replace hL := hL0.below hBF
  replace hv4 := hv4.put5 kG (by simp [e8]) (by simp [e64a]) (.int .i64 0) (.int .i64 0) (.bool false) (.bool false) (.bool false)
  replace hv8 := hv8.put5 kG (by simp [e8b]) (by simp [e64b]) (.int .i64 0) (.int .i64 0) (.bool false) (.bool false) (.bool false)
  replace kT4 := kT4.far5 (g := w5.heap.size) (by omega) (.int .i64 0) (.int .i64 0) (.bool false) (.bool false) (.bool false)
  replace kT8 := kT8.far5 (g := w5.heap.size) (by omega) (.int .i64 0) (.int .i64 0) (.bool false) (.bool false) (.bool false)
  replace kG := kG.put5 (.int .i64 0) (.int .i64 0) (.bool false) (.bool false) (.bool false)
  clear cT1 fT1 lT1 cV fV lV cT4 fT4 lT4 cG fG lG cT8 fT8 lT8 kT1 kV hv1 hb1 hb2 hb3 hb4 hb5 hb6 hb7 hb8 hb9 hc1 hc2 hc3 hc4 hc5 hc6 hc7 hc8 hc9 hl4 HM hL0
  generalize (((((w9.setCell ⟨w5.heap.size, 0, none⟩ (.int .i64 0)).setCell ⟨w5.heap.size, 1, none⟩ (.int .i64 0)).setCell ⟨w5.heap.size, 2, none⟩ (.bool false)).setCell ⟨w5.heap.size, 3, none⟩ (.bool false)).setCell ⟨w5.heap.size, 4, none⟩ (.bool false)) = wF at *
  generalize w4.heap.size = b4 at *
  generalize w5.heap.size = b5 at *
  generalize w8.heap.size = b8 at *
  clear s0 s5 s6 s7 s8
  obtain ⟨cT4, fT4, lT4⟩ := kT4.facts
  obtain ⟨cG, fG, lG⟩ := kG.facts
  obtain ⟨cT8, fT8, lT8⟩ := kT8.facts
  go_wp2_with fail
  refine (TCheck_any 1 lb eb _ _ hv8 hsb hL).mono ?_
  rw [hEb]
  rintro e w10 ⟨rfl, hb10⟩
  clear cT4 fT4 lT4 cG fG lG cT8 fT8 lT8
  have hc10 : Below wF.heap.size wF w10 := bnext (Below.refl _ _) hb10
  replace kT4 := kT4.to hc10
  replace kG := kG.to hc10
  replace kT8 := kT8.to hc10
  replace hL := hL.below hc10
  replace hv4 := hv4.below hc10
  replace hv8 := hv8.below hc10
  obtain ⟨cT4, fT4, lT4⟩ := kT4.facts
  obtain ⟨cG, fG, lG⟩ := kG.facts
  obtain ⟨cT8, fT8, lT8⟩ := kT8.facts
  go_wp2_with fail
  refine (others_any 1 1 lb (mdL 8) eb ea _ _ q _ hv8 hv4 hsb hsa hEb hEa hL HO2.out).mono ?_
  rintro e w11 ⟨rfl, hb11⟩
  clear cT4 fT4 lT4 cG fG lG cT8 fT8 lT8
  have hc11 : Below w10.heap.size w10 w11 := bnext (Below.refl _ _) hb11
  replace kT4 := kT4.to hc11
  replace kG := kG.to hc11
  replace kT8 := kT8.to hc11
  replace hL := hL.below hc11
  replace hv4 := hv4.below hc11
  replace hv8 := hv8.below hc11
  obtain ⟨cT4, fT4, lT4⟩ := kT4.facts
  obtain ⟨cG, fG, lG⟩ := kG.facts
  obtain ⟨cT8, fT8, lT8⟩ := kT8.facts
  go_wp2_with fail
  clear cT4 fT4 lT4 cG fG lG cT8 fT8 lT8 kT4 kG hv4 HO2 hput hcl HGb
  replace hBF := bnext (bnext hBF hc10) hc11
  clear hc10 hc11 hb10 hb11
  obtain ⟨q8, hq8, hq8'⟩ : ∃ q8 : Nat, q / 8 = q8 ∧ q8 < 8 := ⟨q / 8, rfl, by omega⟩
  have hqi : (q : Int) / 8 = (q8 : Nat) := by omega
  rw [hq8] at HUS
  rw [hqi] at hlf2
  have HQ := Lib.hid hqi
  clear hq8 hqi
  go_loopw [18, 19] (fun s i wr => ∃ j : Nat, j ≤ 8 ∧ s = .bool (usedB eb q8 j) ∧ i = .int .i64 ((q8 * 8 + j : Nat) : Int) ∧ Below w11.heap.size w11 wr) (fun _ i _ => 64 - (intOf i).toNat)
  case atStart => exact ⟨0, by omega, rfl, by rw [HQ.out]; go_num, Below.refl _ _⟩
  case round =>
    obtain ⟨j, hj, rfl, rfl, hBx⟩ := hrel
    replace kT8 := kT8.to hBx
    replace hv8 := hv8.to hBx
    replace hL := hL.below hBx
    obtain ⟨cT8, fT8, lT8⟩ := kT8.facts
    have hq1 : ((q : Int) / 8 + 1) * 8 = ((q8 * 8 + 8 : Nat) : Int) := by rw [HQ.out]; omega
    by_cases hj8 : j < 8
    · obtain ⟨gk, gn, ga, gb, gc, hG, _, hK⟩ := get_at hEb (q8 * 8 + j) (by omega)
      have H1 := Lib.hid (TGet_any 1 lb eb _ (q8 * 8 + j : Nat) _ hv8 hsb hL)
      rw [hG] at H1
      have hsu : usedB eb q8 (j + 1) = (usedB eb q8 j || (gk != 0)) := by rw [hK]; rfl
      clear hK hG
      have hi64 : q8 * 8 + j < 64 := by omega
      have hdl : decide (((q8 * 8 + j : Nat) : Int) < ((q : Int) / 8 + 1) * 8) = true := by rw [hq1]; simp; omega
      generalize hi : q8 * 8 + j = i at *
      clear hq1 hl hlf hlf2
      rcases hu : usedB eb q8 j with _ | _
      · rw [hu, Bool.false_or] at hsu
        go_wp2_with (first | (go_at_call 17; refine H1.out.mono ?_; rintro e w12 ⟨rfl, hb12⟩; have kE := Bk.new w12 #[.int .i64 gk, .int .i64 gn, .bool ga, .bool gb, .bool gc] 35))
        go_roundw
        case rel => exact ⟨j + 1, by omega, by rw [hsu], by go_num, balloc (bnext hBx hb12) _⟩
        case measure => simp [intOf]; omega
      · rw [hu, Bool.true_or] at hsu
        go_wp2_with (first | (go_at_call 17; refine H1.out.mono ?_; rintro e w12 ⟨rfl, hb12⟩))
        go_roundw
        case rel => exact ⟨j + 1, by omega, by rw [hsu], by go_num, balloc (bnext hBx hb12) _⟩
        case measure => simp [intOf]; omega
    · obtain rfl : j = 8 := by omega
      have hdl : decide (((q8 * 8 + 8 : Nat) : Int) < ((q : Int) / 8 + 1) * 8) = false := by rw [hq1]; simp
      generalize hi : q8 * 8 + 8 = i at *
      have H1 := Lib.hid (TLacks_any 1 lb eb _ (q : Nat) _ hv8 hsb hL)
      rw [HLb.out] at H1
      rw [HUS.out]
      have hq2' : ((100 : Int) + (q : Int) / 8) = 100 + (q8 : Int) := by rw [HQ.out]
      rw [← hq2'] at hlf2
      clear hq1 hl hq2'
      cases us
      · replace hlf2 := hlf2.resolve_left (by decide)
        go_wp2_with (first
          | (go_at_call 19; refine H1.out.mono ?_; rintro e w12 ⟨rfl, hb12⟩)
          | (go_at_call 10; refine (awake_true _ (hL.below hb12)).mono ?_; rintro e w13 ⟨rfl, hb13⟩))
        all_goals
          go_ret
          exact ⟨rfl, bnext (bnext (bnext hBF hBx) hb12) hb13⟩
      · clear hlf2
        go_wp2_with (first
          | (go_at_call 19; refine H1.out.mono ?_; rintro e w12 ⟨rfl, hb12⟩)
          | (go_at_call 10; refine (awake_true _ (hL.below hb12)).mono ?_; rintro e w13 ⟨rfl, hb13⟩))
        all_goals
          go_ret
          exact ⟨rfl, bnext (bnext (bnext hBF hBx) hb12) hb13⟩
end Go.Proofs.YtnmknbnidfmmoaaDoor
