/- A set with a range put in or out: the reference. -/
import Derived.Test.YtihbdndigfnhkaaDoorBit13
namespace Go.Proofs.YtihbdndigfnhkaaDoor
open Go Go.Proofs Go.RowKit
set_option linter.unusedSimpArgs false
set_option linter.unusedVariables false

/-- A set and an error that a call returned. -/
def BitsRes (w w' : World) (r : Int × List Nat × Int) (e : Ending) : Prop :=
  ∃ A n c, e = .returned (.tuple #[.agg #[.int .i64 r.1, .slice A n c], .int .i64 r.2.2]) ∧ w'.ownsRow w.heap.size 61 1 (.slice A n c) n (uw r.2.1) ∧ Below w.heap.size w w'

/-- A list whose places from a to k - 1 are put. -/
def putL (l : List Bool) (a k : Nat) (inn : Bool) : List Bool := (List.range l.length).map fun i => if a ≤ i ∧ i < k then inn else l.getD i false
theorem putL_zero (l : List Bool) (a : Nat) (inn : Bool) : putL l a a inn = l := by
  apply List.ext_getElem
  · simp [putL]
  · intro i h1 h2
    simp only [putL, List.getElem_map, List.getElem_range]
    rw [if_neg (by omega)]
    simp [List.getD_eq_getElem?_getD, h2]
theorem putL_succ (l : List Bool) (a k : Nat) (inn : Bool) (h : a ≤ k) : putL l a (k + 1) inn = (putL l a k inn).set k inn := by
  apply List.ext_getElem
  · simp [putL]
  · intro i h1 h2
    rw [List.getElem_set]
    simp only [putL, List.getElem_map, List.getElem_range]
    by_cases hi : k = i
    · subst hi; simp [h]
    · rw [if_neg hi]
      by_cases hlt : a ≤ i ∧ i < k
      · rw [if_pos hlt, if_pos (by omega)]
      · rw [if_neg hlt, if_neg (by omega)]
theorem putL_words (ws : List Nat) (N a b m : Nat) (inn : Bool) (hb : b ≤ N) : wordsOf m (listF (putL (mem ws N) a b inn) N) = wordsOf m (putF ws N a b inn) := by
  apply wordsOf_congr
  intro i _
  unfold listF putF
  by_cases hN : i < N
  · have : (putL (mem ws N) a b inn).getD i false = if a ≤ i ∧ i < b then inn else wbit ws i := by
      simp [putL, mem, List.getD_eq_getElem?_getD, hN, List.getElem?_range hN]
    rw [this]
  · simp [hN]

set_option maxRecDepth 100000 in
theorem rPut_any (N : Int) (A : Option Addr) (n c : Nat) (ws : List Nat) (a b : Int) (inn : Bool) (w : World) (hr : Rd w 1 A n (uw ws)) (hs : wsmall ws) (hn : n ≤ 1000000) :
    Calls Tryd.prog 15 #[.agg #[.int .i64 N, .slice A n c], .int .i64 a, .int .i64 b, .bool inn] w fun e w' => BitsRes w w' (putR N ws a b inn) e := by
  have hlen : ws.length = n := by have := hr.1; rw [uw_len] at this; omega
  go_enter Tryd.func15, Tryd.ntmps15
  go_wp2_with fail
  refine (rCheck_any _ _ _ _ ws _ ((hr.alloc _).alloc _) hs hn).mono ?_
  rintro e w1 ⟨rfl, hb1⟩
  have kB := ((Bk.new w #[.int .i64 N, .slice A n c] 24).alloc (.cells #[.int .i64 0, .slice none 0 0] 24)).to hb1
  have kR := (Bk.new (w.alloc (.cells #[.int .i64 N, .slice A n c] 24)) #[.int .i64 0, .slice none 0 0] 24).to hb1
  rw [World.size_alloc] at kR
  obtain ⟨cB, fB, lB⟩ := kB.facts
  obtain ⟨cR, fR, lR⟩ := kR.facts
  have hz1 : chkE N ws ≠ 0 → putR N ws a b inn = (0, [], chkE N ws) := fun h => by unfold putR; rw [if_pos h]
  have hz2 : chkE N ws = 0 → (a < 0 ∨ b < a ∨ N < b) → putR N ws a b inn = (0, [], 2) := fun h h' => by unfold putR; rw [if_neg (by simp [h]), if_pos h']
  have hz3 : chkE N ws = 0 → ¬ (a < 0 ∨ b < a ∨ N < b) → putR N ws a b inn = (N, wordsOf ((N.toNat + 63) / 64) (putF ws N.toNat a.toNat b.toNat inn), 0) := fun h h' => by unfold putR; rw [if_neg (by simp [h]), if_neg h']
  have Hz1 := Lib.hid hz1
  have Hz2 := Lib.hid hz2
  have Hz3 := Lib.hid hz3
  have kF := (kR.put 0 (.int .i64 0)).put 1 (.slice none 0 0)
  have hBF : Below w.heap.size w ((w1.setCell ⟨w.heap.size + 1, 0, none⟩ (.int .i64 0)).setCell ⟨w.heap.size + 1, 1, none⟩ (.slice none 0 0)) :=
    ((show Below w.heap.size w w1 by (repeat' (first | exact Below.refl _ _ | assumption | refine balloc ?_ _ | refine below_drawn ?_ _ | refine below_drew ?_ | refine bnext ?_ hb24 | refine bnext ?_ hb23 | refine bnext ?_ hb22 | refine bnext ?_ hb21 | refine bnext ?_ hb20 | refine bnext ?_ hb19 | refine bnext ?_ hb18 | refine bnext ?_ hb17 | refine bnext ?_ hb16 | refine bnext ?_ hb15 | refine bnext ?_ hb14 | refine bnext ?_ hb13 | refine bnext ?_ hb12 | refine bnext ?_ hb11 | refine bnext ?_ hb10 | refine bnext ?_ hb9 | refine bnext ?_ hb8 | refine bnext ?_ hb7 | refine bnext ?_ hb6 | refine bnext ?_ hb5 | refine bnext ?_ hb4 | refine bnext ?_ hb3 | refine bnext ?_ hb2 | refine bnext ?_ hb1))).setCell (by show w.heap.size ≤ w.heap.size + 1; omega) _).setCell (by show w.heap.size ≤ w.heap.size + 1; omega) _
  clear hz1 hz2 hz3
  go_wp2_with fail
  all_goals try (
    generalize (w1.setCell ⟨w.heap.size + 1, 0, none⟩ (.int .i64 0)).setCell ⟨w.heap.size + 1, 1, none⟩ (.slice none 0 0) = wF at *
    obtain ⟨cF, fF, lF⟩ := kF.facts
    first
      | (have hE : chkE N ws ≠ 0 := by simp_all
         exact bodyPost_ret (v := .tuple #[.agg #[.int .i64 0, .slice none 0 0], .int .i64 (chkE N ws)]) (by simp [results, Tryd.results15, go_sem, cF]) rfl ⟨none, 0, 0, by rw [Hz1.out hE], by rw [Hz1.out hE]; exact own_nil _ _ _ _, hBF⟩)
      | (have hE : chkE N ws = 0 := by simp_all
         exact bodyPost_ret (v := .tuple #[.agg #[.int .i64 0, .slice none 0 0], .int .i64 2]) (by simp [results, Tryd.results15, go_sem, cF]) rfl ⟨none, 0, 0, by rw [Hz2.out hE (by omega)], by rw [Hz2.out hE (by omega)]; exact own_nil _ _ _ _, hBF⟩))
  have hE : chkE N ws = 0 := by simp_all
  have hab : 0 ≤ a ∧ a ≤ b ∧ b ≤ N := by omega
  obtain ⟨z0, z1, z2, _⟩ := chk_zero N ws hE
  have hv := Hz3.out hE (by omega)
  clear Hz1 Hz2 Hz3 kF hBF
  obtain ⟨a, rfl⟩ : ∃ q : Nat, a = q := ⟨a.toNat, by omega⟩
  obtain ⟨b, rfl⟩ : ∃ q : Nat, b = q := ⟨b.toNat, by omega⟩
  obtain ⟨N, rfl⟩ : ∃ q : Nat, N = q := ⟨N.toNat, by omega⟩
  simp only [Int.toNat_natCast] at hv
  have HV := Lib.hid hv
  clear hE hv
  have hB1 : Below w.heap.size w w1 := by (repeat' (first | exact Below.refl _ _ | assumption | refine balloc ?_ _ | refine below_drawn ?_ _ | refine below_drew ?_ | refine bnext ?_ hb24 | refine bnext ?_ hb23 | refine bnext ?_ hb22 | refine bnext ?_ hb21 | refine bnext ?_ hb20 | refine bnext ?_ hb19 | refine bnext ?_ hb18 | refine bnext ?_ hb17 | refine bnext ?_ hb16 | refine bnext ?_ hb15 | refine bnext ?_ hb14 | refine bnext ?_ hb13 | refine bnext ?_ hb12 | refine bnext ?_ hb11 | refine bnext ?_ hb10 | refine bnext ?_ hb9 | refine bnext ?_ hb8 | refine bnext ?_ hb7 | refine bnext ?_ hb6 | refine bnext ?_ hb5 | refine bnext ?_ hb4 | refine bnext ?_ hb3 | refine bnext ?_ hb2 | refine bnext ?_ hb1))
  have hN64 : N ≤ 64 * n := by omega
  have hab1 : a ≤ b := by omega
  have hab2 : b ≤ N := by omega
  refine (members_any N A n c ws _ (hr.below hB1 (Nat.le_refl _)) hs hN64 (by omega)).mono ?_
  rintro e w2 ⟨v', rfl, hown, hb2⟩
  have hs2 := kR.lt
  clear cB fB lB cR fR lR hb1 z2 hlen
  replace kR := kR.to hb2
  replace hB1 := bnext hB1 hb2
  have hs1 := kR.lt
  replace hown := own_less hown (show w.heap.size + 2 ≤ w1.heap.size from hs2)
  clear kB hb2
  rw [← putL_zero (mem ws N) a inn] at hown
  go_wp2_with fail
  go_loopw [12] (fun i wr => ∃ k : Nat, a ≤ k ∧ k ≤ b ∧ i = .int .i64 k ∧ wr.ownsRow (w.heap.size + 2) 4 1 v' N (bw (putL (mem ws N) a k inn)) ∧ Bk wr (w.heap.size + 1) #[.int .i64 0, .slice none 0 0] 24 ∧ Below w.heap.size w wr) (fun i _ => b - (intOf i).toNat)
  case atStart => exact ⟨a, by omega, by omega, rfl, hown, kR, hB1⟩
  case round =>
    clear hown kR hB1
    obtain ⟨k, hk0, hk, rfl, hown, kR, hB⟩ := hrel
    by_cases hlt : k < b
    · obtain ⟨g, cap, rfl, hg1, hg2⟩ := hown.form (by omega)
      have hcw := own_boolAt hown (i := k) (by omega)
      have hfw := hown.frozenAt k
      have HS := Lib.hid (putL_succ (mem ws N) a k inn hk0)
      generalize (putL (mem ws N) a k inn).getD k false = x at hcw
      have hkN : k < N := by omega
      have hkI : (k : Int) < (N : Int) := by omega
      go_wp2
      go_roundw
      case rel =>
        refine ⟨k + 1, by omega, by omega, by go_num, ?_, ?_, ?_⟩
        · rw [HS.out]; exact own_putB hown k inn
        · exact kR.far (by show w.heap.size + 1 ≠ g; omega) _
        · exact hB.setCell (by show w.heap.size ≤ g; omega) _
      case measure => simp [intOf]; omega
    · obtain rfl : k = b := by omega
      obtain ⟨A2, c2, rfl, hr2⟩ := own_slice hown
      have kR0 := kR
      go_wp2_with fail
      refine (rmade_any A2 N c2 (putL (mem ws N) a k inn) _ hr2 (by omega)).mono ?_
      rw [putL_words ws N a k _ inn hab2]
      rintro e w3 ⟨A3, rfl, hown3, hb3⟩
      generalize (N + 63) / 64 = m at *
      replace kR := kR.to hb3
      replace hown3 := own_less hown3 (show w.heap.size + 2 ≤ wr.heap.size by have := kR0.lt; omega)
      have hB3 := bnext hB hb3
      have kF := (kR.put 0 (.int .i64 N)).put 1 (.slice A3 m m)
      have hoF := own_far (own_far hown3 (p := ⟨w.heap.size + 1, 0, none⟩) (Nat.lt_succ_self _) (.int .i64 N)) (p := ⟨w.heap.size + 1, 1, none⟩) (Nat.lt_succ_self _) (.slice A3 m m)
      have hBF := (hB3.setCell (p := ⟨w.heap.size + 1, 0, none⟩) (by show w.heap.size ≤ w.heap.size + 1; omega) (.int .i64 N)).setCell (p := ⟨w.heap.size + 1, 1, none⟩) (by show w.heap.size ≤ w.heap.size + 1; omega) (.slice A3 m m)
      obtain ⟨cR, fR, lR⟩ := kR.facts
      clear hown3 hb3 hown hB
      go_wp2_with fail
      generalize (w3.setCell ⟨w.heap.size + 1, 0, none⟩ (.int .i64 N)).setCell ⟨w.heap.size + 1, 1, none⟩ (.slice A3 m m) = wF at *
      obtain ⟨cF, fF, lF⟩ := kF.facts
      exact bodyPost_ret (v := .tuple #[.agg #[.int .i64 N, .slice A3 m m], .int .i64 0]) (by simp [results, Tryd.results15, go_sem, cF]) rfl ⟨A3, m, m, by rw [HV.out], by rw [HV.out]; exact own_less hoF (by omega), hBF⟩
end Go.Proofs.YtihbdndigfnhkaaDoor
