/- Pages that are mapped and unmapped, by the program. -/
import Derived.Test.YtfblbkhiaglelaaDoorRgC
import Derived.Deep.AppendLies
namespace Go.Proofs.YtfblbkhiaglelaaDoor
open Go Go.Proofs Go.RowKit
set_option linter.unusedSimpArgs false
set_option linter.unusedVariables false
set_option maxRecDepth 100000

theorem Map_any (A : Option Addr) (n c : Nat) (rs : List (Int × Int)) (a b most : Int) (w : World) (hr : Rd w 2 A n (flat2 .i64 rs)) (hn : n ≤ 1000) :
    Calls Tryd.prog 23 #[.slice A n c, .int .i64 a, .int .i64 b, .int .i64 most] w fun e w' => RgRes w w' (mapR rs a b most).1 (mapR rs a b most).2 e := by
  unfold mapR
  by_cases hE : begE rs a b = 0
  · rw [if_neg (by simp [hE])]
    rcases hany : anyIn rs a b with _ | _
    · rw [if_neg (by simp)]
      by_cases hfull : most < (cntP (addF rs a b) : Int)
      · rw [if_pos hfull]; exact Map_full A n c rs a b most w hr (by omega) hE hany hfull
      · rw [if_neg hfull]; exact Map_ok A n c rs a b most w hr hn hE hany hfull
    · rw [if_pos rfl]; exact Map_exists A n c rs a b most w hr (by omega) hE hany
  · rw [if_pos hE]; exact Map_bad A n c rs a b most w hr (by omega) hE

theorem um1_any (x y a b : Int) (p1 p2 : Nat) (w : World) (h1 : w.cell? ⟨p1, 0, none⟩ = some (.int .i64 a)) (h2 : w.cell? ⟨p2, 0, none⟩ = some (.int .i64 b)) :
    Calls Tryd.prog 56 #[.agg #[.int .i64 x, .int .i64 y], .pointer (some ⟨p1, 0, none⟩), .pointer (some ⟨p2, 0, none⟩)] w fun e w' => e = .returned (.bool (decide (x ≤ a) && decide (b ≤ y))) ∧ Below w.heap.size w w' := by
  have e1 := rcell_alloc (.cells #[.int .i64 x, .int .i64 y] 65) h1
  have e2 := rcell_alloc (.cells #[.int .i64 x, .int .i64 y] 65) h2
  by_cases h : x ≤ a
  · go_enter Tryd.func56, Tryd.ntmps56
    go_wp2
    go_ret
    exact ⟨by simp [h], by (repeat' (first | exact Below.refl _ _ | assumption | refine balloc ?_ _ | refine below_drawn ?_ _ | refine below_drew ?_ | refine bnext ?_ hb24 | refine bnext ?_ hb23 | refine bnext ?_ hb22 | refine bnext ?_ hb21 | refine bnext ?_ hb20 | refine bnext ?_ hb19 | refine bnext ?_ hb18 | refine bnext ?_ hb17 | refine bnext ?_ hb16 | refine bnext ?_ hb15 | refine bnext ?_ hb14 | refine bnext ?_ hb13 | refine bnext ?_ hb12 | refine bnext ?_ hb11 | refine bnext ?_ hb10 | refine bnext ?_ hb9 | refine bnext ?_ hb8 | refine bnext ?_ hb7 | refine bnext ?_ hb6 | refine bnext ?_ hb5 | refine bnext ?_ hb4 | refine bnext ?_ hb3 | refine bnext ?_ hb2 | refine bnext ?_ hb1))⟩
  · go_enter Tryd.func56, Tryd.ntmps56
    go_wp2
    go_ret
    exact ⟨by simp; omega, by (repeat' (first | exact Below.refl _ _ | assumption | refine balloc ?_ _ | refine below_drawn ?_ _ | refine below_drew ?_ | refine bnext ?_ hb24 | refine bnext ?_ hb23 | refine bnext ?_ hb22 | refine bnext ?_ hb21 | refine bnext ?_ hb20 | refine bnext ?_ hb19 | refine bnext ?_ hb18 | refine bnext ?_ hb17 | refine bnext ?_ hb16 | refine bnext ?_ hb15 | refine bnext ?_ hb14 | refine bnext ?_ hb13 | refine bnext ?_ hb12 | refine bnext ?_ hb11 | refine bnext ?_ hb10 | refine bnext ?_ hb9 | refine bnext ?_ hb8 | refine bnext ?_ hb7 | refine bnext ?_ hb6 | refine bnext ?_ hb5 | refine bnext ?_ hb4 | refine bnext ?_ hb3 | refine bnext ?_ hb2 | refine bnext ?_ hb1))⟩
def IxR (rs : List (Int × Int)) (a b r : Int) : Prop := (∃ j : Nat, j < rs.length ∧ r = (j : Int) ∧ (rs.getD j (0, 0)).1 ≤ a ∧ b ≤ (rs.getD j (0, 0)).2) ∨ (r = -1 ∧ ∀ j, j < rs.length → ¬ ((rs.getD j (0, 0)).1 ≤ a ∧ b ≤ (rs.getD j (0, 0)).2))
set_option maxHeartbeats 1000000 in
theorem IndexFunc_any (A : Option Addr) (n c : Nat) (rs : List (Int × Int)) (a b : Int) (p1 p2 : Nat) (w : World) (hr : Rd w 2 A n (flat2 .i64 rs)) (hn : n ≤ 1000000) (h1 : w.cell? ⟨p1, 0, none⟩ = some (.int .i64 a)) (h2 : w.cell? ⟨p2, 0, none⟩ = some (.int .i64 b)) :
    Calls Tryd.prog 55 #[.slice A n c, .func (.func 56) #[] #[.pointer (some ⟨p1, 0, none⟩), .pointer (some ⟨p2, 0, none⟩)]] w fun e w' => ∃ r, e = .returned (.int .i64 r) ∧ IxR rs a b r ∧ Below w.heap.size w w' := by
  have hlen : rs.length = n := by have := hr.1; rw [flat2_len] at this; omega
  go_enter Tryd.func55, Tryd.ntmps55
  go_wp2_with fail
  go_loopw [8] (fun i wr => ∃ k : Nat, k ≤ n ∧ i = .int .i64 k ∧ Hid (∀ j, j < k → ¬ ((rs.getD j (0, 0)).1 ≤ a ∧ b ≤ (rs.getD j (0, 0)).2)) ∧ Below w.heap.size w wr) (fun i _ => n - (intOf i).toNat)
  case atStart => exact ⟨0, by omega, rfl, Lib.hid (fun j h => absurd h (Nat.not_lt_zero _)), Below.refl _ _⟩
  case round =>
    obtain ⟨k, hk, rfl, Hz, hB⟩ := hrel
    by_cases hlt : k < n
    · obtain ⟨gb, off, x, y, rfl, hgb, hg, c1, c2⟩ := (hr.below hB (Nat.le_refl _)).pr hlt
      have HC := Lib.hid (um1_any x y a b p1 p2 wr (rcell_later hB h1) (rcell_later hB h2))
      by_cases hin : x ≤ a ∧ b ≤ y
      · rw [decide_eq_true hin.1, decide_eq_true hin.2] at HC
        simp only [Bool.and_self] at HC
        have Hin := Lib.hid hin
        clear hin
        go_wp2_with (go_at_call 56; refine HC.out.mono ?_; rintro e w1 ⟨rfl, hb1⟩)
        go_ret
        exact ⟨_, rfl, .inl ⟨k, by omega, rfl, by rw [hg]; exact Hin.out⟩, bnext hB hb1⟩
      · have hf : (decide (x ≤ a) && decide (b ≤ y)) = false := by rw [Bool.and_eq_false_iff]; simp only [decide_eq_false_iff_not]; omega
        rw [hf] at HC
        have Hin := Lib.hid hin
        clear hin hf
        go_wp2_with (go_at_call 56; refine HC.out.mono ?_; rintro e w1 ⟨rfl, hb1⟩)
        go_roundw
        case rel => exact ⟨k + 1, by omega, by go_num, Lib.hid (fun j hj => by rcases Nat.lt_or_ge j k with h | h; exact Hz.out j h; rw [show j = k by omega, hg]; exact Hin.out), bnext hB hb1⟩
        case measure => simp [intOf]; omega
    · obtain rfl : k = n := by omega
      go_wp2_with fail
      go_ret
      exact ⟨_, rfl, .inr ⟨rfl, fun j hj => Hz.out j (by omega)⟩, hB⟩
theorem Unmap_bad (A : Option Addr) (n c : Nat) (rs : List (Int × Int)) (a b : Int) (w : World) (hr : Rd w 2 A n (flat2 .i64 rs)) (hn : n ≤ 1000000) (hE : begE rs a b ≠ 0) :
    Calls Tryd.prog 45 #[.slice A n c, .int .i64 a, .int .i64 b] w fun e w' => RgRes w w' [] (begE rs a b) e := by
  have HC := Lib.hid (begin_any A n c rs a b _ ((hr.alloc (.cells #[.int .i64 a] 3)).alloc (.cells #[.int .i64 b] 3)) hn)
  have hE' : (begE rs a b == 0) = false := by simpa using hE
  clear hE
  generalize begE rs a b = z at *
  go_enter Tryd.func45, Tryd.ntmps45
  go_wp2_with (go_at_call 42; refine HC.out.mono ?_; rintro e w1 ⟨rfl, hb1⟩)
  go_ret2
  exact RgRes.nil rfl (by (repeat' (first | exact Below.refl _ _ | assumption | refine balloc ?_ _ | refine below_drawn ?_ _ | refine below_drew ?_ | refine bnext ?_ hb24 | refine bnext ?_ hb23 | refine bnext ?_ hb22 | refine bnext ?_ hb21 | refine bnext ?_ hb20 | refine bnext ?_ hb19 | refine bnext ?_ hb18 | refine bnext ?_ hb17 | refine bnext ?_ hb16 | refine bnext ?_ hb15 | refine bnext ?_ hb14 | refine bnext ?_ hb13 | refine bnext ?_ hb12 | refine bnext ?_ hb11 | refine bnext ?_ hb10 | refine bnext ?_ hb9 | refine bnext ?_ hb8 | refine bnext ?_ hb7 | refine bnext ?_ hb6 | refine bnext ?_ hb5 | refine bnext ?_ hb4 | refine bnext ?_ hb3 | refine bnext ?_ hb2 | refine bnext ?_ hb1)))
set_option maxHeartbeats 4000000 in
theorem Unmap_go (A : Option Addr) (n c : Nat) (rs : List (Int × Int)) (a b : Int) (w : World) (hr : Rd w 2 A n (flat2 .i64 rs)) (hn : n ≤ 1000) (hE : begE rs a b = 0) :
    Calls Tryd.prog 45 #[.slice A n c, .int .i64 a, .int .i64 b] w fun e w' => RgRes w w' (unmR rs a b).1 (unmR rs a b).2 e := by
  obtain ⟨hv, h0, h1, h2⟩ := begE_zero hE
  have hlen : rs.length = n := by have := hr.1; rw [flat2_len] at this; omega
  have HE := Lib.hid hE
  have HU1 := Lib.hid (fun i => unmL_ok rs i a b hv h0 h1 h2)
  have HU2 := Lib.hid (unm_no rs a b hv h0 h1 h2)
  have HUR : Hid (∀ t, allIn rs a b = t → unmR rs a b = if t = false then ([], 6) else (regs (subF rs a b), 0)) := Lib.hid (fun t ht => by unfold unmR; rw [if_neg (by simp [hE]), ht])
  have k4 := (Bk.new w #[.int .i64 a] 3).alloc (.cells #[.int .i64 b] 3)
  have k5 := Bk.new (w.alloc (.cells #[.int .i64 a] 3)) #[.int .i64 b] 3
  simp only [World.size_alloc] at k5
  have hB := balloc (balloc (Below.refl _ w) (.cells #[.int .i64 a] 3)) (.cells #[.int .i64 b] 3)
  have hv8 : Hid (∀ j, j < n → 0 ≤ (rs.getD j (0, 0)).1 ∧ (rs.getD j (0, 0)).1 ≤ 63 ∧ (rs.getD j (0, 0)).2 ≤ 63) := Lib.hid (fun j hj => by have := rgE_one (hv j (by omega)); omega)
  clear hE hv
  go_enter Tryd.func45, Tryd.ntmps45
  go_wp2_with fail
  generalize (w.alloc (.cells #[.int .i64 a] 3)).alloc (.cells #[.int .i64 b] 3) = w0 at *
  refine (begin_any A n c rs a b _ (hr.below hB (Nat.le_refl _)) (by omega)).mono ?_
  rw [HE.out]
  rintro e w1 ⟨rfl, hb1⟩
  replace k4 := k4.to hb1
  replace k5 := k5.to hb1
  replace hB := bnext hB hb1
  go_wp2_with fail
  refine (IndexFunc_any A n c rs a b w.heap.size (w.heap.size + 1) _ (hr.below hB (Nat.le_refl _)) (by omega) (k4.cell 0) (k5.cell 0)).mono ?_
  rintro e w2 ⟨r, rfl, hix, hb2⟩
  replace k4 := k4.to hb2
  replace k5 := k5.to hb2
  replace hB := bnext hB hb2
  clear hb1 hb2
  rcases hix with ⟨i, hi, rfl, h3, h4⟩ | ⟨rfl, hno⟩
  · obtain ⟨gb, off, x, y, rfl, hgb, hg, c1, c2⟩ := (hr.below hB (Nat.le_refl _)).pr (i := i) (by omega)
    have HR := HUR.out true (HU1.out i hi h3 h4).1
    rw [if_neg (by simp)] at HR
    have HL := (HU1.out i hi h3 h4).2
    unfold unmL at HL
    rw [hg] at h3 h4 HL
    simp only at h3 h4 HL
    have HR' := Lib.hid HR
    have HL' := Lib.hid HL
    have hb8 := hv8.out i (by omega)
    rw [hg] at hb8
    simp only at hb8
    obtain ⟨z1, z2, z3⟩ := hb8
    obtain ⟨c4, f4, l4⟩ := k4.facts
    obtain ⟨c5, f5, l5⟩ := k5.facts
    have hiI : (i : Int) < (n : Int) := by omega
    have hin : i < n := by omega
    have hi0 : ¬ (i : Int) < 0 := by omega
    clear HR HL HU1 HU2 HUR hi HE hg
    -- UNMAP WAYS
    obtain ⟨i0, hi0', hz0, hz1, hz2⟩ := info_parts infoRg
    have hwa : IntKind.i64.wrap (a - 1) = a - 1 := by rw [IntKind.wrap_i64]; omega
    have hwb : IntKind.i64.wrap (b + 1) = b + 1 := by rw [IntKind.wrap_i64]; omega
    have hsw : w.heap.size ≤ w2.heap.size := hB.size
    by_cases hxa : x < a <;> by_cases hby : b < y
    · go_wp2_with fail
      go_quiet (fail)
      go_wp2_with fail
      clear c4 f4 l4 c5 f5 l5
      replace k4 := k4.drewN nq
      replace k5 := k5.drewN nq
      replace hB := below_drawn hB nq
      replace c1 : (w2.drewN nq).cell? ⟨gb, off + i * 2, none⟩ = some (.int .i64 x) := c1
      replace c2 : (w2.drewN nq).cell? ⟨gb, off + i * 2 + 1, none⟩ = some (.int .i64 y) := c2
      replace hgb : gb < (w2.drewN nq).heap.size := hgb
      have hs3 : w2.heap.size ≤ (w2.drewN nq).heap.size := Nat.le_refl _
      generalize w2.drewN nq = w3 at *
      obtain ⟨c4, f4, l4⟩ := k4.facts
      obtain ⟨c5, f5, l5⟩ := k5.facts
      go_region_law (first | (refine step_append_lies _ rfl _ _ 22 rfl w2.heap.size 65 i0 (.agg #[.int .i64 0, .int .i64 0]) 2 16 Tryd.underlying22 hi0' hz0 hz1 hz2 rfl (by decide) (.slice none 0 0) 0 [] rfl (World.ownsRow_nil _ _ _ _) ⟨w3.heap.size, 0, none⟩ 1 1 [.int .i64 x, .int .i64 (a - 1)] rfl rfl (cell_two_new _ _ _ _) (by simp [Value.oneCell']) (by decide) (by simp only [maxLen]; omega) (by omega) (by show w2.heap.size ≤ _; simp; omega) _ rfl ?_; intro g1 capg1 w4 howng1 hgr_w4 hatg1 hglg1))
      all_goals
        have hb_w4 : Below w3.heap.size w3 w4 := (below_drew (balloc (Below.refl _ w3) (.cells #[.int .i64 x, .int .i64 (a - 1)] 65))).grown hgr_w4 (by show w3.heap.size ≤ (w3.alloc _).heap.size; simp) (fun q e => by cases e)
        replace k4 := k4.to hb_w4
        replace k5 := k5.to hb_w4
        replace hB := bnext hB hb_w4
        replace c1 := rcell_later hb_w4 c1
        replace c2 := rcell_later hb_w4 c2
        replace hgb : gb < w4.heap.size := Nat.lt_of_lt_of_le hgb hb_w4.size
        have hs4 : w2.heap.size ≤ w4.heap.size := Nat.le_trans hs3 hb_w4.size
        clear hgr_w4 hatg1
        clear c4 f4 l4 c5 f5 l5
        obtain ⟨c4, f4, l4⟩ := k4.facts
        obtain ⟨c5, f5, l5⟩ := k5.facts
        go_wp2_with fail
        go_quiet (fail)
        go_wp2_with fail
        clear c4 f4 l4 c5 f5 l5
        replace k4 := k4.drewN nq
        replace k5 := k5.drewN nq
        replace hB := below_drawn hB nq
        replace c1 : (w4.drewN nq).cell? ⟨gb, off + i * 2, none⟩ = some (.int .i64 x) := c1
        replace c2 : (w4.drewN nq).cell? ⟨gb, off + i * 2 + 1, none⟩ = some (.int .i64 y) := c2
        replace hgb : gb < (w4.drewN nq).heap.size := hgb
        have hs5 : w2.heap.size ≤ (w4.drewN nq).heap.size := hs4
        replace howng1 : (w4.drewN nq).ownsRow w2.heap.size 65 2 (.slice (some ⟨g1, 0, none⟩) 1 capg1) 1 [.int .i64 x, .int .i64 (a - 1)] := howng1
        generalize w4.drewN nq = w5 at *
        obtain ⟨c4, f4, l4⟩ := k4.facts
        obtain ⟨c5, f5, l5⟩ := k5.facts
        go_region_law (first | (refine step_append_lies _ rfl _ _ 22 rfl w2.heap.size 65 i0 (.agg #[.int .i64 0, .int .i64 0]) 2 16 Tryd.underlying22 hi0' hz0 hz1 hz2 rfl (by decide) (.slice (some ⟨g1, 0, none⟩) 1 capg1) 1 [.int .i64 x, .int .i64 (a - 1)] rfl (show World.ownsRow (World.drew _) _ _ _ _ _ _ from howng1.alloc _) ⟨w5.heap.size, 0, none⟩ 1 1 [.int .i64 (b + 1), .int .i64 y] rfl rfl (cell_two_new _ _ _ _) (by simp [Value.oneCell']) (by decide) (by simp only [maxLen]; omega) (by omega) (by show w2.heap.size ≤ _; simp; omega) _ rfl ?_; intro g2 capg2 w6 howng2 hgr_w6 hatg2 hglg2))
        all_goals
          have hB6 : Below w.heap.size w w6 := (below_drew (balloc hB (.cells #[.int .i64 (b + 1), .int .i64 y] 65))).grown hgr_w6 (by have h9 := hB.size; show w.heap.size ≤ (w5.alloc _).heap.size; simp; omega) (fun q e => by have h9 := (howng1.lt q e).1; have h8 := hsw; omega)
          clear hB
          have hB := hB6
          clear hB6 k4 k5 c4 f4 l4 c5 f5 l5 c1 c2
          have own1 := Lib.hid (show w6.ownsRow w2.heap.size 65 2 (.slice (some ⟨g2, 0, none⟩) 2 capg2) 2 (flat2 .i64 [(x, a - 1), (b + 1, y)]) from howng2)
          go_wp2_with fail
          refine (CloneR_any (some ⟨gb, off, none⟩) n c rs _ (hr.below hB (Nat.le_refl _)) (by omega)).mono ?_
          rintro e wC ⟨v', rfl, hoC, hbC⟩
          have hRp := Replace_any v' n i (i + 1) (some ⟨g2, 0, none⟩) 2 capg2 w6.heap.size w2.heap.size rs [(x, a - 1), (b + 1, y)] wC hoC (own_below own1.out hbC) (fun b hb e => by injection hb with hb; injection hb with hb; have h9 := (hoC.lt b e).1; have h8 := own1.out.lt b (by rw [hb]; rfl); omega) (by omega) (by omega) (fun h => by omega) (by omega) hn hbC.size
          rw [show ((i + 1 : Nat) : Int) = (i : Int) + 1 by omega] at hRp
          have HRp := Lib.hid hRp
          have Hvs : Hid (rs.take i ++ [(x, a - 1), (b + 1, y)] ++ rs.drop (i + 1) = regs (subF rs a b)) := Lib.hid (by have h9 := HL'.out; rw [if_pos hxa, if_pos hby] at h9; simpa using h9)
          have Hln : Hid ((regs (subF rs a b)).length = i + 2 + (n - (i + 1))) := Lib.hid (by rw [← Hvs.out]; simp; omega)
          clear hRp
          try clear c4 f4 l4 c5 f5 l5
          go_wp2_with fail
          refine HRp.out.mono ?_
          rintro e wD ⟨vD, rfl, hoD, hbD⟩
          go_wp2_with fail
          go_ret2
          exact ⟨_, by rw [HR'.out]; rfl, by rw [HR'.out]; show World.ownsRow _ _ _ _ _ (regs (subF rs a b)).length (flat2 .i64 (regs (subF rs a b))); rw [Hln.out, ← Hvs.out]; exact own_less hoD hB.size, bnext hB (hbC.trans hbD)⟩
    · go_wp2_with fail
      go_quiet (fail)
      go_wp2_with fail
      clear c4 f4 l4 c5 f5 l5
      replace k4 := k4.drewN nq
      replace k5 := k5.drewN nq
      replace hB := below_drawn hB nq
      replace c1 : (w2.drewN nq).cell? ⟨gb, off + i * 2, none⟩ = some (.int .i64 x) := c1
      replace c2 : (w2.drewN nq).cell? ⟨gb, off + i * 2 + 1, none⟩ = some (.int .i64 y) := c2
      replace hgb : gb < (w2.drewN nq).heap.size := hgb
      have hs3 : w2.heap.size ≤ (w2.drewN nq).heap.size := Nat.le_refl _
      generalize w2.drewN nq = w3 at *
      obtain ⟨c4, f4, l4⟩ := k4.facts
      obtain ⟨c5, f5, l5⟩ := k5.facts
      go_region_law (first | (refine step_append_lies _ rfl _ _ 22 rfl w2.heap.size 65 i0 (.agg #[.int .i64 0, .int .i64 0]) 2 16 Tryd.underlying22 hi0' hz0 hz1 hz2 rfl (by decide) (.slice none 0 0) 0 [] rfl (World.ownsRow_nil _ _ _ _) ⟨w3.heap.size, 0, none⟩ 1 1 [.int .i64 x, .int .i64 (a - 1)] rfl rfl (cell_two_new _ _ _ _) (by simp [Value.oneCell']) (by decide) (by simp only [maxLen]; omega) (by omega) (by show w2.heap.size ≤ _; simp; omega) _ rfl ?_; intro g1 capg1 w4 howng1 hgr_w4 hatg1 hglg1))
      all_goals
        have hb_w4 : Below w3.heap.size w3 w4 := (below_drew (balloc (Below.refl _ w3) (.cells #[.int .i64 x, .int .i64 (a - 1)] 65))).grown hgr_w4 (by show w3.heap.size ≤ (w3.alloc _).heap.size; simp) (fun q e => by cases e)
        replace k4 := k4.to hb_w4
        replace k5 := k5.to hb_w4
        replace hB := bnext hB hb_w4
        replace c1 := rcell_later hb_w4 c1
        replace c2 := rcell_later hb_w4 c2
        replace hgb : gb < w4.heap.size := Nat.lt_of_lt_of_le hgb hb_w4.size
        have hs4 : w2.heap.size ≤ w4.heap.size := Nat.le_trans hs3 hb_w4.size
        clear hgr_w4 hatg1
        clear c4 f4 l4 c5 f5 l5
        obtain ⟨c4, f4, l4⟩ := k4.facts
        obtain ⟨c5, f5, l5⟩ := k5.facts
        go_wp2_with fail
        go_quiet (fail)
        clear c4 f4 l4 c5 f5 l5
        replace k4 := k4.drewN nq
        replace k5 := k5.drewN nq
        replace hB := below_drawn hB nq
        replace c1 : (w4.drewN nq).cell? ⟨gb, off + i * 2, none⟩ = some (.int .i64 x) := c1
        replace c2 : (w4.drewN nq).cell? ⟨gb, off + i * 2 + 1, none⟩ = some (.int .i64 y) := c2
        replace hgb : gb < (w4.drewN nq).heap.size := hgb
        have hs5 : w2.heap.size ≤ (w4.drewN nq).heap.size := hs4
        replace howng1 : (w4.drewN nq).ownsRow w2.heap.size 65 2 (.slice (some ⟨g1, 0, none⟩) 1 capg1) 1 [.int .i64 x, .int .i64 (a - 1)] := howng1
        generalize w4.drewN nq = w5 at *
        obtain ⟨c4, f4, l4⟩ := k4.facts
        obtain ⟨c5, f5, l5⟩ := k5.facts
        have own1 := Lib.hid (show w5.ownsRow w2.heap.size 65 2 (.slice (some ⟨g1, 0, none⟩) 1 capg1) 1 (flat2 .i64 [(x, a - 1)]) from howng1)
        go_wp2_with fail
        refine (CloneR_any (some ⟨gb, off, none⟩) n c rs _ (hr.below hB (Nat.le_refl _)) (by omega)).mono ?_
        rintro e wC ⟨v', rfl, hoC, hbC⟩
        have hRp := Replace_any v' n i (i + 1) (some ⟨g1, 0, none⟩) 1 capg1 w5.heap.size w2.heap.size rs [(x, a - 1)] wC hoC (own_below own1.out hbC) (fun b hb e => by injection hb with hb; injection hb with hb; have h9 := (hoC.lt b e).1; have h8 := own1.out.lt b (by rw [hb]; rfl); omega) (by omega) (by omega) (fun h => by omega) (by omega) hn hbC.size
        rw [show ((i + 1 : Nat) : Int) = (i : Int) + 1 by omega] at hRp
        have HRp := Lib.hid hRp
        have Hvs : Hid (rs.take i ++ [(x, a - 1)] ++ rs.drop (i + 1) = regs (subF rs a b)) := Lib.hid (by have h9 := HL'.out; rw [if_pos hxa, if_neg (by omega)] at h9; simpa using h9)
        have Hln : Hid ((regs (subF rs a b)).length = i + 1 + (n - (i + 1))) := Lib.hid (by rw [← Hvs.out]; simp; omega)
        clear hRp
        try clear c4 f4 l4 c5 f5 l5
        go_wp2_with fail
        refine HRp.out.mono ?_
        rintro e wD ⟨vD, rfl, hoD, hbD⟩
        go_wp2_with fail
        go_ret2
        exact ⟨_, by rw [HR'.out]; rfl, by rw [HR'.out]; show World.ownsRow _ _ _ _ _ (regs (subF rs a b)).length (flat2 .i64 (regs (subF rs a b))); rw [Hln.out, ← Hvs.out]; exact own_less hoD hB.size, bnext hB (hbC.trans hbD)⟩
    · go_wp2_with fail
      go_quiet (fail)
      clear c4 f4 l4 c5 f5 l5
      replace k4 := k4.drewN nq
      replace k5 := k5.drewN nq
      replace hB := below_drawn hB nq
      replace c1 : (w2.drewN nq).cell? ⟨gb, off + i * 2, none⟩ = some (.int .i64 x) := c1
      replace c2 : (w2.drewN nq).cell? ⟨gb, off + i * 2 + 1, none⟩ = some (.int .i64 y) := c2
      replace hgb : gb < (w2.drewN nq).heap.size := hgb
      have hs3 : w2.heap.size ≤ (w2.drewN nq).heap.size := Nat.le_refl _
      generalize w2.drewN nq = w3 at *
      obtain ⟨c4, f4, l4⟩ := k4.facts
      obtain ⟨c5, f5, l5⟩ := k5.facts
      go_wp2_with fail
      go_quiet (fail)
      go_wp2_with fail
      clear c4 f4 l4 c5 f5 l5
      replace k4 := k4.drewN nq
      replace k5 := k5.drewN nq
      replace hB := below_drawn hB nq
      replace c1 : (w3.drewN nq).cell? ⟨gb, off + i * 2, none⟩ = some (.int .i64 x) := c1
      replace c2 : (w3.drewN nq).cell? ⟨gb, off + i * 2 + 1, none⟩ = some (.int .i64 y) := c2
      replace hgb : gb < (w3.drewN nq).heap.size := hgb
      have hs5 : w2.heap.size ≤ (w3.drewN nq).heap.size := hs3
      generalize w3.drewN nq = w5 at *
      obtain ⟨c4, f4, l4⟩ := k4.facts
      obtain ⟨c5, f5, l5⟩ := k5.facts
      go_region_law (first | (refine step_append_lies _ rfl _ _ 22 rfl w2.heap.size 65 i0 (.agg #[.int .i64 0, .int .i64 0]) 2 16 Tryd.underlying22 hi0' hz0 hz1 hz2 rfl (by decide) (.slice none 0 0) 0 [] rfl (World.ownsRow_nil _ _ _ _) ⟨w5.heap.size, 0, none⟩ 1 1 [.int .i64 (b + 1), .int .i64 y] rfl rfl (cell_two_new _ _ _ _) (by simp [Value.oneCell']) (by decide) (by simp only [maxLen]; omega) (by omega) (by show w2.heap.size ≤ _; simp; omega) _ rfl ?_; intro g2 capg2 w6 howng2 hgr_w6 hatg2 hglg2))
      all_goals
        have hB6 : Below w.heap.size w w6 := (below_drew (balloc hB (.cells #[.int .i64 (b + 1), .int .i64 y] 65))).grown hgr_w6 (by have h9 := hB.size; show w.heap.size ≤ (w5.alloc _).heap.size; simp; omega) (fun q e => by cases e)
        clear hB
        have hB := hB6
        clear hB6 k4 k5 c4 f4 l4 c5 f5 l5 c1 c2
        have own1 := Lib.hid (show w6.ownsRow w2.heap.size 65 2 (.slice (some ⟨g2, 0, none⟩) 1 capg2) 1 (flat2 .i64 [(b + 1, y)]) from howng2)
        go_wp2_with fail
        refine (CloneR_any (some ⟨gb, off, none⟩) n c rs _ (hr.below hB (Nat.le_refl _)) (by omega)).mono ?_
        rintro e wC ⟨v', rfl, hoC, hbC⟩
        have hRp := Replace_any v' n i (i + 1) (some ⟨g2, 0, none⟩) 1 capg2 w6.heap.size w2.heap.size rs [(b + 1, y)] wC hoC (own_below own1.out hbC) (fun b hb e => by injection hb with hb; injection hb with hb; have h9 := (hoC.lt b e).1; have h8 := own1.out.lt b (by rw [hb]; rfl); omega) (by omega) (by omega) (fun h => by omega) (by omega) hn hbC.size
        rw [show ((i + 1 : Nat) : Int) = (i : Int) + 1 by omega] at hRp
        have HRp := Lib.hid hRp
        have Hvs : Hid (rs.take i ++ [(b + 1, y)] ++ rs.drop (i + 1) = regs (subF rs a b)) := Lib.hid (by have h9 := HL'.out; rw [if_neg (by omega), if_pos hby] at h9; simpa using h9)
        have Hln : Hid ((regs (subF rs a b)).length = i + 1 + (n - (i + 1))) := Lib.hid (by rw [← Hvs.out]; simp; omega)
        clear hRp
        try clear c4 f4 l4 c5 f5 l5
        go_wp2_with fail
        refine HRp.out.mono ?_
        rintro e wD ⟨vD, rfl, hoD, hbD⟩
        go_wp2_with fail
        go_ret2
        exact ⟨_, by rw [HR'.out]; rfl, by rw [HR'.out]; show World.ownsRow _ _ _ _ _ (regs (subF rs a b)).length (flat2 .i64 (regs (subF rs a b))); rw [Hln.out, ← Hvs.out]; exact own_less hoD hB.size, bnext hB (hbC.trans hbD)⟩
    · go_wp2_with fail
      go_quiet (fail)
      clear c4 f4 l4 c5 f5 l5
      replace k4 := k4.drewN nq
      replace k5 := k5.drewN nq
      replace hB := below_drawn hB nq
      replace c1 : (w2.drewN nq).cell? ⟨gb, off + i * 2, none⟩ = some (.int .i64 x) := c1
      replace c2 : (w2.drewN nq).cell? ⟨gb, off + i * 2 + 1, none⟩ = some (.int .i64 y) := c2
      replace hgb : gb < (w2.drewN nq).heap.size := hgb
      have hs3 : w2.heap.size ≤ (w2.drewN nq).heap.size := Nat.le_refl _
      generalize w2.drewN nq = w3 at *
      obtain ⟨c4, f4, l4⟩ := k4.facts
      obtain ⟨c5, f5, l5⟩ := k5.facts
      go_wp2_with fail
      go_quiet (fail)
      clear c4 f4 l4 c5 f5 l5
      replace k4 := k4.drewN nq
      replace k5 := k5.drewN nq
      replace hB := below_drawn hB nq
      replace c1 : (w3.drewN nq).cell? ⟨gb, off + i * 2, none⟩ = some (.int .i64 x) := c1
      replace c2 : (w3.drewN nq).cell? ⟨gb, off + i * 2 + 1, none⟩ = some (.int .i64 y) := c2
      replace hgb : gb < (w3.drewN nq).heap.size := hgb
      have hs5 : w2.heap.size ≤ (w3.drewN nq).heap.size := hs3
      generalize w3.drewN nq = w5 at *
      obtain ⟨c4, f4, l4⟩ := k4.facts
      obtain ⟨c5, f5, l5⟩ := k5.facts
      have own1 := Lib.hid (World.ownsRow_nil w5 w2.heap.size 65 2)
      go_wp2_with fail
      refine (CloneR_any (some ⟨gb, off, none⟩) n c rs _ (hr.below hB (Nat.le_refl _)) (by omega)).mono ?_
      rintro e wC ⟨v', rfl, hoC, hbC⟩
      have hRp := Replace_any v' n i (i + 1) (none) 0 0 w5.heap.size w2.heap.size rs [] wC hoC (own_below own1.out hbC) (fun b hb e => by cases hb) (by omega) (by omega) (fun h => by omega) (by omega) hn hbC.size
      rw [show ((i + 1 : Nat) : Int) = (i : Int) + 1 by omega] at hRp
      have HRp := Lib.hid hRp
      have Hvs : Hid (rs.take i ++ [] ++ rs.drop (i + 1) = regs (subF rs a b)) := Lib.hid (by have h9 := HL'.out; rw [if_neg (by omega), if_neg (by omega)] at h9; simpa using h9)
      have Hln : Hid ((regs (subF rs a b)).length = i + 0 + (n - (i + 1))) := Lib.hid (by rw [← Hvs.out]; simp; omega)
      clear hRp
      try clear c4 f4 l4 c5 f5 l5
      go_wp2_with fail
      refine HRp.out.mono ?_
      rintro e wD ⟨vD, rfl, hoD, hbD⟩
      go_wp2_with fail
      go_ret2
      exact ⟨_, by rw [HR'.out]; rfl, by rw [HR'.out]; show World.ownsRow _ _ _ _ _ (regs (subF rs a b)).length (flat2 .i64 (regs (subF rs a b))); rw [Hln.out, ← Hvs.out]; exact own_less hoD hB.size, bnext hB (hbC.trans hbD)⟩
    -- END WAYS
  · have HR := HUR.out false (HU2.out hno)
    have HR' := Lib.hid HR
    clear hno HR
    go_wp2_with fail
    go_ret2
    rw [HR'.out]
    exact RgRes.nil rfl hB
end Go.Proofs.YtfblbkhiaglelaaDoor
