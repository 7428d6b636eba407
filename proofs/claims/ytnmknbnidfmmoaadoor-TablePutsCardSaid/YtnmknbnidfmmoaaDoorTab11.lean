/- Page tables: find, Pages, Counts. -/
import Derived.Test.YtnmknbnidfmmoaaDoorTab10
namespace Go.Proofs.YtnmknbnidfmmoaaDoor
open Go Go.Proofs Go.RowKit
set_option linter.unusedSimpArgs false
set_option linter.unusedVariables false
set_option maxRecDepth 100000

theorem kind_any (x : Nat) (w : World) (hx : x < 18446744073709551616) (hu : unpE x = 0) (hL : LayOK w) :
    Calls Tryd.prog 59 #[.int .u64 x] w fun e w' => e = .returned (.int .i64 (unpK x)) ∧ Below w.heap.size w w' := by
  have hk := Kind_any x w hx hL
  have h3 := unpE_lt4 x hu
  rw [if_neg h3, if_neg h3, ← unpK_eq x hu] at hk
  generalize unpK x = z at hk ⊢
  go_enter Tryd.func59, Tryd.ntmps59
  go_wp2_with (go_at_call 63; refine hk.mono ?_; rintro e w1 ⟨rfl, hb1⟩)
  go_ret
  exact ⟨rfl, hb1⟩
theorem Page_nat (q m : Nat) (w : World) (hq : q < 8) (hm : m < 8) :
    Calls Tryd.prog 70 #[.int .i64 q, .int .i64 m] w fun e w' => e = .returned (.tuple #[.int .i64 ((q * 8 + m : Nat) : Int), .int .i64 0]) ∧ w = w' := by
  have := Page_ok q m w (by omega) (by omega) (by omega) (by omega)
  rwa [show (q : Int) * 8 + (m : Int) = ((q * 8 + m : Nat) : Int) by omega] at this
theorem kinL_len (es : List Nat) (kd : Int) (n : Nat) : (kinL es kd n).length ≤ n := by
  unfold kinL
  have := List.length_filter_le (fun p => unpK (es.getD p 0) == kd) (List.range n)
  simp at this ⊢
  omega
theorem kinL_succ (es : List Nat) (kd : Int) (n : Nat) : kinL es kd (n + 1) = kinL es kd n ++ (if unpK (es.getD n 0) = kd then [(n : Int)] else []) := by
  unfold kinL
  rw [List.range_succ, List.filter_append, List.map_append]
  congr 1
  by_cases h : unpK (es.getD n 0) = kd
  · have : (unpK (es.getD n 0) == kd) = true := by simpa using h
    rw [if_pos h, List.filter_cons_of_pos (by exact this)]
    rfl
  · have : ¬ (unpK (es.getD n 0) == kd) = true := by simpa using h
    rw [if_neg h, List.filter_cons_of_neg (by exact this)]
    rfl
theorem kinL_skip (es : List Nat) (kd : Int) (m n : Nat) (hmn : m ≤ n) (h : ∀ p, m ≤ p → p < n → unpK (es.getD p 0) ≠ kd) : kinL es kd n = kinL es kd m := by
  induction n with
  | zero => rw [show m = 0 by omega]
  | succ n ih =>
    rcases Nat.lt_or_ge m (n + 1) with h1 | h1
    · rw [kinL_succ, if_neg (h n (by omega) (by omega)), List.append_nil]
      exact ih (by omega) fun p h2 h3 => h p h2 (by omega)
    · rw [show m = n + 1 by omega]
theorem getD_small {es : List Nat} (hs : wsmall es) (p : Nat) (hp : p < es.length) : es.getD p 0 < 18446744073709551616 := by
  rw [List.getD_eq_getElem?_getD, List.getElem?_eq_getElem hp]
  exact hs _ (List.getElem_mem hp)

set_option maxHeartbeats 4000000 in
theorem TFind_ok (r : Int) (ls : List Int) (es : List Nat) (v : Value) (kd : Int) (w : World) (hv : TbV w v (r, ls, es)) (hs : wsmall es) (hL : LayOK w) (hE : tabE r ls es = 0) :
    Calls Tryd.prog 53 #[v, .int .i64 kd] w fun e w' => ∃ v', e = .returned v' ∧ IsV w' v' (kinL es kd 64) ∧ Below w.heap.size w w' := by
  obtain ⟨h1, h2, hR, hLs, hDu, hSt, hUn, hMi⟩ := tab_zero hE
  obtain ⟨A, c, B, d, rfl, hA, hB, hcc⟩ := id hv
  simp only at hA hB hcc
  unfold tabV at hv ⊢
  simp only at hv ⊢
  rw [h1, h2] at hv ⊢
  rw [h1] at hA hcc
  rw [h2] at hB
  have kT := (Bk.new (w) #[.int .i64 r, .slice A 8 c, .slice B 64 d] 25)
  have hB1 := balloc (Below.refl _ w) (.cells #[.int .i64 r, .slice A 8 c, .slice B 64 d] 25)
  generalize hw_w1 : w.alloc (.cells #[.int .i64 r, .slice A 8 c, .slice B 64 d] 25) = w1 at *
  obtain ⟨i0, hi, hz0, hz1, hz2⟩ := info_parts infoInt
  obtain ⟨cT, fT, lT⟩ := kT.facts
  have hln := arrL_len r ls es h1 h2
  have hst := arr_store0 (arr_73 r ls es h1 h2) (arrL_one r ls es)
  go_enter Tryd.func53, Tryd.ntmps53
  go_wp2_with fail
  go_step3
  go_wp2_with fail
  refine (load_any r A B c d ls es _ h1 h2 (hA.below hB1 (Nat.le_refl _)) (hB.below hB1 (Nat.le_refl _))).mono ?_
  rintro e w2 ⟨rfl, hb2⟩
  clear cT fT lT
  go_upto_region 2 with fail
  have kA := (Bk.new (w2) (arrL r ls es).toArray 69)
  have hB3 := balloc (Below.refl _ w2) (.cells (arrL r ls es).toArray 69)
  generalize hw_w3 : (w2).alloc (.cells (arrL r ls es).toArray 69) = w3 at *
  replace hB1 := bnext (bnext hB1 hb2) hB3
  clear hb2 hB3 hst kT hw_w1 hw_w3 hA hB hv
  replace hL := hL.below hB1
  go_wp2_with fail
  go_step3
  go_wp2_with fail
  go_loopw [6, 13] (fun v i wr => ∃ q : Nat, q ≤ 8 ∧ i = .int .i64 q ∧ wr.ownsRow w3.heap.size 3 1 v (kinL es kd (q * 8)).length (iw (kinL es kd (q * 8))) ∧ Below w3.heap.size w3 wr) (fun _ i _ => 8 - (intOf i).toNat)
  case atStart => exact ⟨0, by omega, rfl, World.ownsRow_nil _ _ _ _, Below.refl _ _⟩
  case round =>
    obtain ⟨q, hq, rfl, hown, hBx⟩ := hrel
    by_cases hlt : q < 8
    · have hqd : decide ((q : Int) < 8) = true := by rw [decide_eq_true_eq]; omega
      go_wp2_with fail
      go_loopw [6, 16] (fun v i wr => ∃ m : Nat, m ≤ 8 ∧ i = .int .i64 m ∧ wr.ownsRow w3.heap.size 3 1 v (kinL es kd (q * 8 + m)).length (iw (kinL es kd (q * 8 + m))) ∧ Below w3.heap.size w3 wr) (fun _ i _ => 8 - (intOf i).toNat)
      case atStart => exact ⟨0, by omega, rfl, hown, hBx⟩
      case round =>
        clear hown hBx
        obtain ⟨m, hm, rfl, hown, hBx⟩ := hrel
        by_cases hlm : m < 8
        · have kA2 := kA.to hBx
          have lA := kA2.lt
          have cl := arr_leaf h1 kA2 hlt
          have hqI : (q : Int) < 8 := by omega
          by_cases hsk : kd ≠ 0 ∧ ls.getD q 0 = -1
          · have d1 : (kd != 0) = true := by simpa using hsk.1
            have HS : Hid (kinL es kd ((q + 1) * 8) = kinL es kd (q * 8 + m)) := Lib.hid (kinL_skip es kd _ _ (by omega) fun p hp1 hp2 hc => by
              have h3 := hMi p (by omega)
              have h4 := hUn p (by omega)
              rw [show p / 8 = q by omega] at h3
              rw [unpK_eq _ h4] at hc
              exact h3 ⟨by omega, hsk.2⟩)
            rw [hsk.2] at cl
            clear hsk
            go_wp2_with fail
            go_roundw
            case rel => exact ⟨q + 1, by omega, by go_num, by rw [HS.out]; exact hown, hBx⟩
            case measure => simp [intOf]; omega
          · have ce := arr_ent h1 h2 kA2 (show q * 8 + m < 64 by omega)
            have hxs := getD_small hs (q * 8 + m) (by omega)
            have hux := hUn (q * 8 + m) (by omega)
            have HS := Lib.hid (kinL_succ es kd (q * 8 + m))
            have hkl := kinL_len es kd (q * 8 + m)
            have hpI : ((q * 8 + m : Nat) : Int) < 64 := by omega
            obtain ⟨x, hx⟩ : ∃ x, x = es.getD (q * 8 + m) 0 := ⟨_, rfl⟩
            obtain ⟨z, hz⟩ : ∃ z, z = ls.getD q 0 := ⟨_, rfl⟩
            rw [← hx] at ce hxs hux HS
            rw [← hz] at cl hsk
            clear hx hz
            have hsk2 : (kd != 0) = false ∨ (kd != 0) = true ∧ (z == -1) = false := by
              by_cases h0 : kd = 0
              · left; simp [h0]
              · right; exact ⟨by simpa using h0, by simpa using fun h => hsk ⟨h0, h⟩⟩
            clear hsk
            have HK := Lib.hid (fun W => kind_any x W hxs hux)
            obtain ⟨kx, hkx⟩ : ∃ kx, kx = unpK x := ⟨_, rfl⟩
            rw [← hkx] at HK HS
            clear hkx
            have hPg := fun W => Page_nat q m W hlt hlm
            have hLr := hL.below hBx
            obtain ⟨pp, hpp⟩ : ∃ pp, pp = q * 8 + m := ⟨_, rfl⟩
            rw [← hpp] at ce hkl HS hpI hPg hown
            have hkd : (kx == kd) = true ∧ Hid (kinL es kd (pp + 1) = kinL es kd pp ++ [(pp : Int)]) ∨ (kx == kd) = false ∧ Hid (kinL es kd (pp + 1) = kinL es kd pp) := by
              by_cases h : kx = kd
              · left; exact ⟨by simpa using h, Lib.hid (by rw [HS.out, if_pos h])⟩
              · right; exact ⟨by simpa using h, Lib.hid (by rw [HS.out, if_neg h, List.append_nil])⟩
            clear HS
            have Hpp : Hid (q * 8 + (m + 1) = pp + 1) := Lib.hid (by omega)
            have hpp64 : pp < 64 := by omega
            clear hpp
            rcases hsk2 with hsk2 | ⟨hsk2, hsk3⟩
            all_goals
              rcases hkd with ⟨hkd, HS⟩ | ⟨hkd, HS⟩
              · go_wp2_with (first
                  | (go_at_call 70; refine (hPg _).mono ?_; rintro e w7 ⟨rfl, rfl⟩)
                  | (go_at_call 59; refine (HK.out _ hLr).mono ?_; rintro e w8 ⟨rfl, hb8⟩; have hown8 := own_below hown hb8; have hBx8 := bnext hBx hb8)
                  | (at_builtin; refine wpList_append_own _ rfl _ _ 22 rfl w3.heap.size 3 i0 (.int .i64 0) 1 8 Tryd.underlying22 hi hz0 hz1 hz2 rfl (by decide) _ _ _ rfl (hown8.alloc _) ⟨w8.heap.size, 0, none⟩ 1 1 [.int .i64 pp] rfl rfl (cell_one_new _ _ _) (by simp [Value.oneCell']) (by simp only [maxLen]; omega) (by omega) (by have := hBx8.size; simp; omega) ?_; intro v' w9 hown' hgrow _))
                have hown2 : w9.ownsRow w3.heap.size 3 1 v' (kinL es kd (q * 8 + (m + 1))).length (iw (kinL es kd (q * 8 + (m + 1)))) := by
                  rw [Hpp.out, HS.out]; simpa [iw] using hown'
                have hBx2 : Below w3.heap.size w3 w9 := (hBx8.alloc hBx8.size _).grown hgrow (by have := hBx8.size; simp; omega) (fun q e => (hown8.lt q e).1)
                clear hown' hgrow hown8 hown hBx8 hBx
                go_wp2_with fail
                go_roundw
                case rel => first | exact ⟨m + 1, by omega, by go_num, hown2, hBx2⟩ | ((repeat apply Exists.intro); exact ⟨⟨m + 1, by omega, by go_num, hown2, hBx2⟩, rfl⟩)
                case measure => simp [intOf]; omega
              · go_wp2_with (first
                  | (go_at_call 70; refine (hPg _).mono ?_; rintro e w7 ⟨rfl, rfl⟩)
                  | (go_at_call 59; refine (HK.out _ hLr).mono ?_; rintro e w8 ⟨rfl, hb8⟩; have hown8 := own_below hown hb8; have hBx8 := bnext hBx hb8))
                go_roundw
                case rel => first | exact ⟨m + 1, by omega, by go_num, by rw [Hpp.out, HS.out]; exact hown8, hBx8⟩ | ((repeat apply Exists.intro); exact ⟨⟨m + 1, by omega, by go_num, by rw [Hpp.out, HS.out]; exact hown8, hBx8⟩, rfl⟩)
                case measure => simp [intOf]; omega
        · obtain rfl : m = 8 := by omega
          go_wp2_with fail
          go_roundw
          case rel => exact ⟨q + 1, by omega, by go_num, by rw [show (q + 1) * 8 = q * 8 + 8 by omega]; exact hown, hBx⟩
          case measure => simp [intOf]; omega
    · obtain rfl : q = 8 := by omega
      go_wp2_with fail
      simp only [Exit.noGoto_ret]
      go_ret
      exact ⟨_, rfl, IsV.own hown, bnext hB1 hBx⟩
end Go.Proofs.YtnmknbnidfmmoaaDoor
