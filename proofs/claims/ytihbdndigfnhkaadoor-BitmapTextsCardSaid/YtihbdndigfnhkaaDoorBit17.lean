/- The first aligned run: the program. -/
import Derived.Test.YtihbdndigfnhkaaDoorBit16
namespace Go.Proofs.YtihbdndigfnhkaaDoor
open Go Go.Proofs Go.RowKit
set_option linter.unusedSimpArgs false
set_option linter.unusedVariables false

/-- The lengths of the runs from k on. -/
def lngL (ws : List Nat) (inn : Bool) (N k : Nat) : List Int := (List.range 1025).map fun i => if k ≤ i then (lng ws inn N i : Int) else 0
def lngA (ws : List Nat) (inn : Bool) (N k : Nat) : Array Value := ((lngL ws inn N k).map (Value.int .i64)).toArray
theorem lngA_get (ws : List Nat) (inn : Bool) (N k i : Nat) (hi : i < 1025) : (lngA ws inn N k)[i]? = some (.int .i64 (if k ≤ i then (lng ws inn N i : Int) else 0)) := by
  simp [lngA, lngL, List.getElem?_range hi]
set_option maxRecDepth 100000 in
theorem zeroLong : Tryd.zeroCells67 = ((List.range 1025).map fun _ => Value.int .i64 0).toArray := by kernel_rfl
theorem lngD_zero (ws : List Nat) (inn : Bool) (N i : Nat) (h : N ≤ i) : lng ws inn N i = 0 := by
  unfold lng; rw [show N - i = 0 by omega]; rfl
set_option maxRecDepth 100000 in
theorem lngA_start (ws : List Nat) (inn : Bool) (N : Nat) : Tryd.zeroCells67 = lngA ws inn N N := by
  rw [zeroLong]
  unfold lngA lngL
  rw [List.map_map]
  congr 1
  apply List.map_congr_left
  intro i _
  simp only [Function.comp]
  split
  · rename_i h; rw [lngD_zero ws inn N i h]; rfl
  · rfl
theorem lngA_step (ws : List Nat) (inn : Bool) (N j : Nat) (hj : j < N) (hN : N ≤ 1024) : lngA ws inn N j = if wbit ws j = inn then (lngA ws inn N (j + 1)).setIfInBounds j (.int .i64 ((lng ws inn N (j + 1) : Int) + 1)) else lngA ws inn N (j + 1) := by
  apply Array.ext_getElem?
  intro i
  by_cases hi : i < 1025
  · rw [lngA_get _ _ _ _ _ hi]
    by_cases hb : wbit ws j = inn
    · rw [if_pos hb, Array.getElem?_setIfInBounds]
      by_cases hij : j = i
      · subst hij
        rw [if_pos rfl, if_pos (Nat.le_refl _), lng_step ws inn N j hj, if_pos hb]
        simp [lngA, lngL, hi]
      · rw [if_neg hij, lngA_get _ _ _ _ _ hi]
        by_cases hle : j ≤ i
        · rw [if_pos hle, if_pos (by omega)]
        · rw [if_neg hle, if_neg (by omega)]
    · rw [if_neg hb, lngA_get _ _ _ _ _ hi]
      by_cases hij : j = i
      · subst hij
        rw [if_pos (Nat.le_refl _), if_neg (by omega), lng_step ws inn N j hj, if_neg hb]; rfl
      · by_cases hle : j ≤ i
        · rw [if_pos hle, if_pos (by omega)]
        · rw [if_neg hle, if_neg (by omega)]
  · have e : ∀ k, (lngA ws inn N k).size = 1025 := fun k => by simp [lngA, lngL]
    rw [Array.getElem?_eq_none (by rw [e]; omega)]
    split
    · rw [Array.getElem?_eq_none (by rw [Array.size_setIfInBounds, e]; omega)]
    · rw [Array.getElem?_eq_none (by rw [e]; omega)]
set_option maxHeartbeats 1000000 in
set_option maxRecDepth 100000 in
theorem Run_any (N : Int) (A : Option Addr) (n c : Nat) (ws : List Nat) (a b : Int) (inn : Bool) (w : World) (hr : Rd w 1 A n (uw ws)) (hs : wsmall ws) (hn : n ≤ 1000000) :
    Calls Tryd.prog 16 #[.agg #[.int .i64 N, .slice A n c], .int .i64 a, .int .i64 b, .bool inn] w fun e w' => e = .returned (.tuple #[.int .i64 (runR N ws a b inn).1, .int .i64 (runR N ws a b inn).2]) ∧ Below w.heap.size w w' := by
  have hlen : ws.length = n := by have := hr.1; rw [uw_len] at this; omega
  go_enter Tryd.func16, Tryd.ntmps16
  go_wp2_with fail
  refine (Check_any _ _ _ _ ws _ (hr.alloc _) hs hn).mono ?_
  rintro e w1 ⟨rfl, hb1⟩
  have kB := (Bk.new w #[.int .i64 N, .slice A n c] 24).to hb1
  obtain ⟨cB, fB, lB⟩ := kB.facts
  have Hz1 : Hid (chkE N ws ≠ 0 → runR N ws a b inn = (0, chkE N ws)) := Lib.hid fun h => by unfold runR; rw [if_pos h]
  have Hz2 : Hid (chkE N ws = 0 → (a < 1 ∨ 1024 < a ∨ b < 1 ∨ 1024 < b) → runR N ws a b inn = (0, 2)) := Lib.hid fun h h' => by unfold runR; rw [if_neg (by simp [h]), if_pos h']
  have hB1 : Below w.heap.size w w1 := by (repeat' (first | exact Below.refl _ _ | assumption | refine balloc ?_ _ | refine below_drawn ?_ _ | refine below_drew ?_ | refine bnext ?_ hb24 | refine bnext ?_ hb23 | refine bnext ?_ hb22 | refine bnext ?_ hb21 | refine bnext ?_ hb20 | refine bnext ?_ hb19 | refine bnext ?_ hb18 | refine bnext ?_ hb17 | refine bnext ?_ hb16 | refine bnext ?_ hb15 | refine bnext ?_ hb14 | refine bnext ?_ hb13 | refine bnext ?_ hb12 | refine bnext ?_ hb11 | refine bnext ?_ hb10 | refine bnext ?_ hb9 | refine bnext ?_ hb8 | refine bnext ?_ hb7 | refine bnext ?_ hb6 | refine bnext ?_ hb5 | refine bnext ?_ hb4 | refine bnext ?_ hb3 | refine bnext ?_ hb2 | refine bnext ?_ hb1))
  have hr1 := hr.below hB1 (Nat.le_refl _)
  clear hb1
  go_wp2_with fail
  all_goals try (
    go_ret2
    first
      | (have hE : chkE N ws ≠ 0 := by simp_all
         exact ⟨by rw [Hz1.out hE]; rfl, hB1⟩)
      | (have hE : chkE N ws = 0 := by simp_all
         exact ⟨by rw [Hz2.out hE (by omega)]; rfl, hB1⟩))
  have hE : chkE N ws = 0 := by simp_all
  have hab : 1 ≤ a ∧ a ≤ 1024 ∧ 1 ≤ b ∧ b ≤ 1024 := by omega
  obtain ⟨z0, z1, z2, _⟩ := chk_zero N ws hE
  clear Hz1 Hz2
  obtain ⟨a, rfl⟩ : ∃ q : Nat, a = q := ⟨a.toNat, by omega⟩
  obtain ⟨b, rfl⟩ : ∃ q : Nat, b = q := ⟨b.toNat, by omega⟩
  obtain ⟨N, rfl⟩ : ∃ q : Nat, N = q := ⟨N.toNat, by omega⟩
  have Hhit := Lib.hid (fun q => runR_hit N ws a b q inn hE (by omega) (by omega) (by omega) (by omega))
  have Hnone := Lib.hid (runR_none N ws a b inn hE (by omega) (by omega) (by omega) (by omega))
  have hN64 : N ≤ 64 * n := by omega
  have hN1 : N ≤ 1024 := by omega
  obtain ⟨ha1, ha2, hb1, hb2⟩ : 1 ≤ a ∧ a ≤ 1024 ∧ 1 ≤ b ∧ b ≤ 1024 := by omega
  clear hE z0 z1 z2 hab hlen cB fB lB
  have hBL : Below w1.heap.size w1 (w1.alloc (.cells Tryd.zeroCells67 67)) := balloc (Below.refl _ _) _
  have kL := Bk.new w1 Tryd.zeroCells67 67
  rw [lngA_start ws inn N] at kL hBL ⊢
  have hwr : wrap64 ((N : Int) - 1) = (N : Int) - 1 := by unfold wrap64; omega
  rw [hwr]
  clear hwr
  generalize w1.alloc (.cells (lngA ws inn N N) 67) = w2 at *
  go_loopw [12] (fun i wr => ∃ k : Nat, k ≤ N ∧ i = .int .i64 ((k : Int) - 1) ∧ Bk wr w1.heap.size (lngA ws inn N k) 67 ∧ Below w1.heap.size w1 wr) (fun i _ => (intOf i + 1).toNat)
  case atStart => exact ⟨N, by omega, rfl, kL, hBL⟩
  case round =>
    clear kL hBL
    obtain ⟨k, hk, rfl, kL, hB⟩ := hrel
    obtain ⟨cB, fB, lB⟩ := (kB.to hB).facts
    by_cases hpos : 0 < k
    · obtain ⟨j, rfl⟩ : ∃ j, k = j + 1 := ⟨k - 1, by omega⟩
      rw [show (((j + 1 : Nat) : Int) - 1) = (j : Int) by omega]
      have HS := Lib.hid (lngA_step ws inn N j (by omega) hN1)
      by_cases hbit : wbit ws j = inn
      · have hbe : (wbit ws j == inn) = true := by rw [hbit]; simp
        rw [if_pos hbit] at HS
        clear hbit
        have hl1 : lng ws inn N (j + 1) ≤ 1024 := by have := lng_le ws inn N (N - (j + 1)); unfold lng; omega
        have HG1 := Lib.hid (lngA_get ws inn N (j + 1) (j + 1) (by omega))
        have HG0 := Lib.hid (lngA_get ws inn N (j + 1) j (by omega))
        rw [if_pos (Nat.le_refl _)] at HG1
        rw [if_neg (by omega)] at HG0
        generalize lng ws inn N (j + 1) = x at HS hl1 HG1
        go_wp2_with (go_at_call 48; refine (has_any _ _ _ _ ws j _ (hr1.below hB (Nat.le_refl _)) hs (by omega) (by omega)).mono ?_; rintro e w3 ⟨rfl, hb3⟩; have kL3 := kL.to hb3; have cL1 := (kL3.cell (j + 1)).trans HG1.out; have cL0 := (kL3.cell j).trans HG0.out; have fL0 := kL3.frozen j)
        go_roundw
        case rel => exact ⟨j, by omega, rfl, by rw [HS.out]; exact kL3.put j _, (bnext hB hb3).setCell (Nat.le_refl _) _⟩
        case measure => simp [intOf]
      · have hbe : (wbit ws j == inn) = false := by simpa using hbit
        rw [if_neg hbit] at HS
        clear hbit
        go_wp2_with (go_at_call 48; refine (has_any _ _ _ _ ws j _ (hr1.below hB (Nat.le_refl _)) hs (by omega) (by omega)).mono ?_; rintro e w3 ⟨rfl, hb3⟩)
        go_roundw
        case rel => exact ⟨j, by omega, rfl, by rw [HS.out]; exact kL.to hb3, bnext hB hb3⟩
        case measure => simp [intOf]
    · obtain rfl : k = 0 := by omega
      rw [show (((0 : Nat) : Int) - 1) = (-1 : Int) by omega]
      go_wp2_with fail
      clear cB fB lB
      go_loopw [13] (fun i wr => ∃ k t : Nat, Hid (t = k * b) ∧ t ≤ 3000 ∧ i = .int .i64 t ∧ Hid (∀ j, j < k → j * b + a ≤ N → okB ws inn a (j * b) = false) ∧ Bk wr w1.heap.size (lngA ws inn N 0) 67 ∧ Below w1.heap.size w1 wr) (fun i _ => 4000 - (intOf i).toNat)
      case atStart => exact ⟨0, 0, Lib.hid (by simp), by omega, rfl, Lib.hid (fun j h => by omega), kL, hB⟩
      case round =>
        clear hB kL
        obtain ⟨k, t, Ht, ht, rfl, Hno, kL, hB⟩ := hrel
        obtain ⟨cB, fB, lB⟩ := (kB.to hB).facts
        by_cases hlt : t < N
        · have HG := Lib.hid (lngA_get ws inn N 0 t (by omega))
          rw [if_pos (Nat.zero_le _)] at HG
          have cL := (kL.cell t).trans HG.out
          have HI := Lib.hid (lng_iff ws inn N a t (by omega))
          have hl1 : lng ws inn N t ≤ 1024 := by have := lng_le ws inn N (N - t); unfold lng; omega
          clear HG
          by_cases hge : a ≤ lng ws inn N t
          · obtain ⟨h1, h2⟩ := HI.out.1 hge
            have hv := Hhit.out k (by rw [← Ht.out]; omega) (fun j hj => Hno.out j hj (by
              have : j * b ≤ k * b := Nat.mul_le_mul_right _ (by omega)
              rw [← Ht.out] at this
              omega)) (by rw [← Ht.out]; exact h2)
            have HV := Lib.hid hv
            clear hv h2
            go_wp2_with fail
            go_ret2
            exact ⟨by rw [HV.out, ← Ht.out]; rfl, bnext hB1 hB⟩
          · have hno : t + a ≤ N → okB ws inn a t = false := fun h => by
              rcases hh : okB ws inn a t with _ | _
              · rfl
              · exact absurd (HI.out.2 ⟨h, hh⟩) hge
            have HN := Lib.hid hno
            clear hno
            go_wp2_with fail
            go_roundw
            case rel =>
              refine ⟨k + 1, t + b, Lib.hid (by rw [Ht.out, Nat.succ_mul]), by omega, by go_num, Lib.hid (fun j hj hle => ?_), kL, hB⟩
              rcases Nat.lt_or_ge j k with h | h
              · exact Hno.out j h hle
              · obtain rfl : j = k := by omega
                rw [← Ht.out] at hle ⊢
                exact HN.out hle
            case measure => simp [intOf]; omega
        · go_wp2_with fail
          go_ret2
          have hv := Hnone.out (fun j hj => by
            rcases Nat.lt_or_ge j k with h | h
            · exact Hno.out j h hj
            · have : k * b ≤ j * b := Nat.mul_le_mul_right _ h
              rw [← Ht.out] at this
              omega)
          exact ⟨by rw [hv]; rfl, bnext hB1 hB⟩
end Go.Proofs.YtihbdndigfnhkaaDoor
