/- A set with a range put in or out: the program. -/
import Derived.Test.YtihbdndigfnhkaaDoorBit14
import Derived.Deep.RegionHeld3
import Derived.Deep.DeepCutAuto
namespace Go.Proofs.YtihbdndigfnhkaaDoor
open Go Go.Proofs Go.RowKit
set_option linter.unusedSimpArgs false
set_option linter.unusedVariables false

theorem cell_later {w w' : World} {a : Addr} {v : Value} (hb : Below w.heap.size w w') (h : w.cell? a = some v) : w'.cell? a = some v :=
  (hb.cell (World.block_lt_of_cell? w a h)).trans h
theorem cell_alloc {w : World} {a : Addr} {v : Value} (o : Obj) (h : w.cell? a = some v) : (w.alloc o).cell? a = some v :=
  (World.cell?_alloc_lt w o a (World.block_lt_of_cell? w a h)).trans h

theorem cell_far {w : World} {a p : Addr} {v : Value} (h : w.cell? a = some v) (hp : a.block ≠ p.block) (u : Value) : (w.setCell p u).cell? a = some v := by
  rw [← h]
  simp only [World.cell?, Below.heap_setCell w p u a.block hp]
theorem Rd.drew {w : World} {sz n : Nat} {A : Option Addr} {xs : List Value} (h : Rd w sz A n xs) : Rd w.drew sz A n xs := h
theorem cell_drew {w : World} {a : Addr} {v : Value} (h : w.cell? a = some v) : w.drew.cell? a = some v := h
set_option maxHeartbeats 2000000 in
set_option maxRecDepth 100000 in
theorem Put_any (N : Int) (A : Option Addr) (n c : Nat) (ws : List Nat) (a b : Int) (inn : Bool) (w : World) (hr : Rd w 1 A n (uw ws)) (hs : wsmall ws) (hn : n ≤ 1000000) :
    Calls Tryd.prog 14 #[.agg #[.int .i64 N, .slice A n c], .int .i64 a, .int .i64 b, .bool inn] w fun e w' => BitsRes w w' (putR N ws a b inn) e := by
  have hlen : ws.length = n := by have := hr.1; rw [uw_len] at this; omega
  go_enter Tryd.func14, Tryd.ntmps14
  go_wp2_with fail
  refine (Check_any _ _ _ _ ws _ ((hr.alloc _).alloc _) hs hn).mono ?_
  rintro e w1 ⟨rfl, hb1⟩
  have kB := ((Bk.new w #[.int .i64 N, .slice A n c] 24).alloc (.cells #[.int .i64 0, .slice none 0 0] 24)).to hb1
  have kR := (Bk.new (w.alloc (.cells #[.int .i64 N, .slice A n c] 24)) #[.int .i64 0, .slice none 0 0] 24).to hb1
  rw [World.size_alloc] at kR
  obtain ⟨cB, fB, lB⟩ := kB.facts
  obtain ⟨cR, fR, lR⟩ := kR.facts
  have hz1 : chkE N ws ≠ 0 → putR N ws a b inn = (0, [], chkE N ws) := fun h => by unfold putR; rw [if_pos h]
  have hz2 : chkE N ws = 0 → (a < 0 ∨ b < a ∨ N < b) → putR N ws a b inn = (0, [], 2) := fun h h' => by unfold putR; rw [if_neg (by simp [h]), if_pos h']
  have hz3 : chkE N ws = 0 → ¬ (a < 0 ∨ b < a ∨ N < b) → putR N ws a b inn = (N, wordsOf ((N.toNat + 63) / 64) (putF ws N.toNat a.toNat b.toNat inn), 0) := fun h h' => by unfold putR; rw [if_neg (by simp [h]), if_neg h']
  have Hz1 := Lib.hid hz1
  have Hz2 := Lib.hid hz2
  have Hz3 := Lib.hid hz3
  have kF := (kR.put 0 (.int .i64 0)).put 1 (.slice none 0 0)
  have hBF : Below w.heap.size w ((w1.setCell ⟨w.heap.size + 1, 0, none⟩ (.int .i64 0)).setCell ⟨w.heap.size + 1, 1, none⟩ (.slice none 0 0)) :=
    ((show Below w.heap.size w w1 by (repeat' (first | exact Below.refl _ _ | assumption | refine balloc ?_ _ | refine below_drawn ?_ _ | refine below_drew ?_ | refine bnext ?_ hb24 | refine bnext ?_ hb23 | refine bnext ?_ hb22 | refine bnext ?_ hb21 | refine bnext ?_ hb20 | refine bnext ?_ hb19 | refine bnext ?_ hb18 | refine bnext ?_ hb17 | refine bnext ?_ hb16 | refine bnext ?_ hb15 | refine bnext ?_ hb14 | refine bnext ?_ hb13 | refine bnext ?_ hb12 | refine bnext ?_ hb11 | refine bnext ?_ hb10 | refine bnext ?_ hb9 | refine bnext ?_ hb8 | refine bnext ?_ hb7 | refine bnext ?_ hb6 | refine bnext ?_ hb5 | refine bnext ?_ hb4 | refine bnext ?_ hb3 | refine bnext ?_ hb2 | refine bnext ?_ hb1))).setCell (by show w.heap.size ≤ w.heap.size + 1; omega) _).setCell (by show w.heap.size ≤ w.heap.size + 1; omega) _
  clear hz1 hz2 hz3
  go_wp2_with fail
  all_goals try (
    generalize (w1.setCell ⟨w.heap.size + 1, 0, none⟩ (.int .i64 0)).setCell ⟨w.heap.size + 1, 1, none⟩ (.slice none 0 0) = wF at *
    obtain ⟨cF, fF, lF⟩ := kF.facts
    first
      | (have hE : chkE N ws ≠ 0 := by simp_all
         exact bodyPost_ret (v := .tuple #[.agg #[.int .i64 0, .slice none 0 0], .int .i64 (chkE N ws)]) (by simp [results, Tryd.results14, go_sem, cF]) rfl ⟨none, 0, 0, by rw [Hz1.out hE], by rw [Hz1.out hE]; exact own_nil _ _ _ _, hBF⟩)
      | (have hE : chkE N ws = 0 := by simp_all
         exact bodyPost_ret (v := .tuple #[.agg #[.int .i64 0, .slice none 0 0], .int .i64 2]) (by simp [results, Tryd.results14, go_sem, cF]) rfl ⟨none, 0, 0, by rw [Hz2.out hE (by omega)], by rw [Hz2.out hE (by omega)]; exact own_nil _ _ _ _, hBF⟩))
  have hE : chkE N ws = 0 := by simp_all
  have hab : 0 ≤ a ∧ a ≤ b ∧ b ≤ N := by omega
  obtain ⟨z0, z1, z2, _⟩ := chk_zero N ws hE
  have hn17 : n ≤ 100 := by omega
  have hv := Hz3.out hE (by omega)
  clear Hz1 Hz2 Hz3 kF hBF
  obtain ⟨a, rfl⟩ : ∃ q : Nat, a = q := ⟨a.toNat, by omega⟩
  obtain ⟨b, rfl⟩ : ∃ q : Nat, b = q := ⟨b.toNat, by omega⟩
  obtain ⟨N, rfl⟩ : ∃ q : Nat, N = q := ⟨N.toNat, by omega⟩
  simp only [Int.toNat_natCast] at hv
  have hab1 : a ≤ b := by omega
  have hab2 : b ≤ N := by omega
  rw [← putK_all N ws hs a b inn hE hab2] at hv
  have HV := Lib.hid hv
  clear hE hv
  have hB1 : Below w.heap.size w w1 := by (repeat' (first | exact Below.refl _ _ | assumption | refine balloc ?_ _ | refine below_drawn ?_ _ | refine below_drew ?_ | refine bnext ?_ hb24 | refine bnext ?_ hb23 | refine bnext ?_ hb22 | refine bnext ?_ hb21 | refine bnext ?_ hb20 | refine bnext ?_ hb19 | refine bnext ?_ hb18 | refine bnext ?_ hb17 | refine bnext ?_ hb16 | refine bnext ?_ hb15 | refine bnext ?_ hb14 | refine bnext ?_ hb13 | refine bnext ?_ hb12 | refine bnext ?_ hb11 | refine bnext ?_ hb10 | refine bnext ?_ hb9 | refine bnext ?_ hb8 | refine bnext ?_ hb7 | refine bnext ?_ hb6 | refine bnext ?_ hb5 | refine bnext ?_ hb4 | refine bnext ?_ hb3 | refine bnext ?_ hb2 | refine bnext ?_ hb1))
  have hr1 := hr.below hB1 (Nat.le_refl _)
  have cB0 := kB.cell 0
  have cB1 := kB.cell 1
  simp at cB0 cB1
  clear cB fB lB hb1 z2
  have hs2 := kR.lt
  clear kB cR fR lR
  go_cut [11] (fun s11 wx => ∃ p A2 c2, s11 = .pointer (some ⟨p, 0, none⟩) ∧ w.heap.size + 2 ≤ p ∧ Bk wx p #[.int .i64 N, .slice A2 n c2] 24 ∧ wx.ownsRow (w.heap.size + 2) 61 1 (.slice A2 n c2) n (uw ws) ∧ (∀ g, A2 = some ⟨g, 0, none⟩ → g ≠ p) ∧ Bk wx (w.heap.size + 1) #[.int .i64 0, .slice none 0 0] 24 ∧ Below w.heap.size w wx)
  case first =>
    go_region_held3 (fun w' => w'.cell? ⟨w.heap.size, 0, none⟩ = some (.int .i64 N) ∧ w'.cell? ⟨w.heap.size, 1, none⟩ = some (.slice A n c))
      (refine ⟨?_, ?_⟩ <;> (repeat (with_reducible first | exact cB0 | exact cB1 | refine cell_alloc _ ?_ | refine cell_drew ?_ | refine cell_later hb2 ?_ | refine cell_far ?_ (by first | (have := hb2.size; simp at this ⊢; omega) | (simp; omega)) _)))
      (first
        | (go_at_call 44; refine (Clone_any A n c ws _ (by with_reducible first | exact hr1.drew | exact (hr1.alloc _).drew) hn).mono ?_; rintro e w2 ⟨v', rfl, hown, hb2⟩; obtain ⟨A2, c2, rfl, hr2⟩ := own_slice hown; clear hr2
           first
             | (with_reducible have kP := (Bk.new w1 #[.int .i64 0, .slice none 0 0] 24).drew.to hb2; obtain ⟨cP, fP, lP⟩ := kP.facts)
             | skip))
    · go_wp2_with fail
      go_meet
      have hsz : w1.heap.size ≤ w2.heap.size := hb2.size
      have hown0 : w2.ownsRow w1.heap.size 61 1 (.slice A2 n c2) n (uw ws) := hown
      refine ⟨w2.heap.size, A2, c2, rfl, by omega, Bk.new _ _ _, (own_less hown0 hs2).alloc _, ?_, (kR.drew.to hb2).alloc _, balloc (bnext (below_drew hB1) hb2) _⟩
      intro g hg
      subst hg
      have := (hown0.lt g rfl).2
      omega
    · go_wp2_with fail
      go_meet
      have hsz : w1.heap.size + 1 ≤ w2.heap.size := by have := hb2.size; simp at this; exact this
      have hown0 : w2.ownsRow (w1.heap.size + 1) 61 1 (.slice A2 n c2) n (uw ws) := by have := hown; simp at this; exact this
      refine ⟨w1.heap.size, A2, c2, rfl, hs2, (kP.put 0 _).put 1 _, own_less (own_far (own_far hown0 (Nat.lt_succ_self _) _) (Nat.lt_succ_self _) _) (by omega), ?_, (((kR.alloc _).drew.to hb2).far (by show w.heap.size + 1 ≠ w1.heap.size; omega) _).far (by show w.heap.size + 1 ≠ w1.heap.size; omega) _, ((bnext (below_drew (balloc hB1 _)) hb2).setCell (by show w.heap.size ≤ w1.heap.size; omega) _).setCell (by show w.heap.size ≤ w1.heap.size; omega) _⟩
      intro g hg
      subst hg
      have := (hown0.lt g rfl).1
      omega
  case rest =>
    obtain ⟨p, A2, c2, rfl, hp, kP, hown, hgp, kR', hB⟩ := hcut
    clear kR hB1 hr1 cB0 cB1
    have hnl := hlen
    rw [← putK_zero ws a b inn] at hown
    obtain ⟨cP, fP, lP⟩ := kP.facts
    have Hlen := Lib.hid hlen
    clear hlen hnl
    go_wp2_with fail
    clear cP fP lP
    go_loopw [42] (fun i wr => ∃ k : Nat, k ≤ n ∧ i = .int .i64 k ∧ Bk wr p #[.int .i64 N, .slice A2 n c2] 24 ∧ wr.ownsRow (w.heap.size + 2) 61 1 (.slice A2 n c2) n (uw (putK ws a b inn k)) ∧ Bk wr (w.heap.size + 1) #[.int .i64 0, .slice none 0 0] 24 ∧ Below w.heap.size w wr) (fun i _ => n - (intOf i).toNat)
    case atStart => exact ⟨0, by omega, rfl, kP, hown, kR', hB⟩
    case round =>
      clear hown kR' hB kP
      obtain ⟨k, hk, rfl, kP, hown, kR, hB⟩ := hrel
      obtain ⟨cP, fP, lP⟩ := kP.facts
      by_cases hlt : k < n
      · obtain ⟨g, rfl, hg1, hg2⟩ := own_nat hown (by omega)
        have hgp' := hgp g rfl
        have hcw := own_word hown (i := k) (by omega)
        rw [putK_get ws a b inn k (by rw [Hlen.out]; exact hlt)] at hcw
        have hxs := wsmall_get ws hs k
        have hfw := hown.frozenAt k
        have hkI : (k : Int) < (n : Int) := by omega
        have HS := Lib.hid (putK_succ ws a b inn k (by rw [Hlen.out]; exact hlt))
        generalize ws.getD k 0 = x at hcw hxs HS
        cases inn
        · simp only [Bool.false_eq_true, if_false] at HS
          have HO := Lib.hid (u64_andNot_nat x (maskV (mkLo k a) (mkHi k b)) hxs (mask_lt _ _ _))
          clear hxs
          go_wp2_with fail
          refine wp_region_still_tail 11 (by kernel_rfl) (by kernel_rfl) ?_
          simp only [List.take_succ_cons, List.take_zero, List.drop_succ_cons, List.drop_zero]
          repeat still_step
          still_call ((mask_any _ _ _ _ (by omega) (by omega) (by omega) (by omega) (by omega) (by omega)).mono fun _ _ h => ⟨h.1, h.2.symm⟩)
          repeat still_step
          refine wpStill_nil ?_
          change wpList _ _ _ _ _ wr.drew
          go_wp2
          go_roundw
          case rel =>
            refine ⟨k + 1, by omega, by go_num, kP.drew.far (by show p ≠ g; omega) _, ?_, kR.drew.far (by show w.heap.size + 1 ≠ g; omega) _, (below_drew hB).setCell (by show w.heap.size ≤ g; omega) _⟩
            rw [HS.out]
            exact own_put hown k _ _ HO.out
          case measure => simp [intOf]; omega
        · simp only [if_true] at HS
          have HO := Lib.hid (u64_or_nat x (maskV (mkLo k a) (mkHi k b)) hxs (mask_lt _ _ _))
          clear hxs
          go_wp2_with fail
          refine wp_region_still_tail 11 (by kernel_rfl) (by kernel_rfl) ?_
          simp only [List.take_succ_cons, List.take_zero, List.drop_succ_cons, List.drop_zero]
          repeat still_step
          still_call ((mask_any _ _ _ _ (by omega) (by omega) (by omega) (by omega) (by omega) (by omega)).mono fun _ _ h => ⟨h.1, h.2.symm⟩)
          repeat still_step
          refine wpStill_nil ?_
          change wpList _ _ _ _ _ wr.drew
          go_wp2
          go_roundw
          case rel =>
            refine ⟨k + 1, by omega, by go_num, kP.drew.far (by show p ≠ g; omega) _, ?_, kR.drew.far (by show w.heap.size + 1 ≠ g; omega) _, (below_drew hB).setCell (by show w.heap.size ≤ g; omega) _⟩
            rw [HS.out]
            exact own_put hown k _ _ HO.out
          case measure => simp [intOf]; omega
      · obtain rfl : k = n := by omega
        have hHV := HV.out
        rw [Hlen.out] at hHV
        have HV' := Lib.hid hHV
        clear hHV
        have kF := (kR.put 0 (.int .i64 N)).put 1 (.slice A2 k c2)
        have hoF := own_far (own_far hown (p := ⟨w.heap.size + 1, 0, none⟩) (Nat.lt_succ_self _) (.int .i64 N)) (p := ⟨w.heap.size + 1, 1, none⟩) (Nat.lt_succ_self _) (.slice A2 k c2)
        have hBF := (hB.setCell (p := ⟨w.heap.size + 1, 0, none⟩) (by show w.heap.size ≤ w.heap.size + 1; omega) (.int .i64 N)).setCell (p := ⟨w.heap.size + 1, 1, none⟩) (by show w.heap.size ≤ w.heap.size + 1; omega) (.slice A2 k c2)
        obtain ⟨cR, fR, lR⟩ := kR.facts
        clear hown hB
        go_wp2_with fail
        generalize (wr.setCell ⟨w.heap.size + 1, 0, none⟩ (.int .i64 N)).setCell ⟨w.heap.size + 1, 1, none⟩ (.slice A2 k c2) = wF at *
        obtain ⟨cF, fF, lF⟩ := kF.facts
        exact bodyPost_ret (v := .tuple #[.agg #[.int .i64 N, .slice A2 k c2], .int .i64 0]) (by simp [results, Tryd.results14, go_sem, cF]) rfl ⟨A2, k, c2, by rw [HV'.out], by rw [HV'.out]; exact own_less hoF (by omega), hBF⟩
end Go.Proofs.YtihbdndigfnhkaaDoor
