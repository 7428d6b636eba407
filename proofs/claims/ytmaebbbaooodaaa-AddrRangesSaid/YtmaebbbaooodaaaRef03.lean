/- What the reference of chapter 3 returns for pieces and covers, and a list in new memory. -/
import Derived.Test.YtmaebbbaooodaaaOwn
import Derived.Test.YtmaebbbaooodaaaCover
import Derived.Test.YtmaebbbaooodaaaAddr2
namespace Go.Proofs.Ytmaebbbaooodaaa
open Go Go.Proofs Go.RowKit

theorem flat2_end (k : IntKind) (l : List (Int × Int)) (x y : Int) : (flat2 k l ++ [Value.int k x, Value.int k y])[l.length * 2 + 1]? = some (Value.int k y) := by
  rw [List.getElem?_append_right (by rw [flat2_len]; omega), flat2_len, show l.length * 2 + 1 - l.length * 2 = 1 by omega]
  rfl
theorem flat2_set2 (k : IntKind) (l : List (Int × Int)) (p : Int) : (flat2 k l ++ [Value.int k p, Value.int k p]).set (l.length * 2 + 1) (.int k p) = flat2 k (l ++ [(p, p)]) := by
  rw [flat2_append, List.set_append_right _ _ (by rw [flat2_len]; omega), flat2_len, show l.length * 2 + 1 - l.length * 2 = 1 by omega]
  rfl
theorem pieces_last (a : Int) (k : Nat) (h0 : 0 ≤ a) (h1 : a + k < 64) : ∃ l' r, piecesF (pgs a (k + 1)) = l' ++ [r] ∧ r.1 / 8 = (a + k) / 8 := by
  induction k with
  | zero => exact ⟨[], (a, a), by rw [pgs_succ, piecesF_snoc, pg_val _ (by omega) (by omega)]; simp [pgs, piecesF, pieceAdd], by simp⟩
  | succ k ih =>
    obtain ⟨l', r, hl, hr⟩ := ih (by omega)
    rw [pgs_succ, piecesF_snoc, hl, pg_val _ (by omega) (by omega)]
    by_cases h : r.1 / 8 = (a + ((k + 1 : Nat) : Int)) / 8
    · exact ⟨l', (r.1, a + ((k + 1 : Nat) : Int)), by rw [pieceAdd_same _ _ _ h], h⟩
    · exact ⟨l' ++ [r], (a + ((k + 1 : Nat) : Int), a + ((k + 1 : Nat) : Int)), by rw [pieceAdd_next _ _ _ h], rfl⟩
theorem pieces_new (a : Int) (k : Nat) (h0 : 0 ≤ a) (h1 : a + k < 64) (h : k = 0 ∨ (a + k) % 8 = 0) : piecesF (pgs a (k + 1)) = piecesF (pgs a k) ++ [(a + k, a + k)] := by
  rw [pgs_succ, piecesF_snoc, pg_val _ (by omega) (by omega)]
  cases k with
  | zero => simp [pgs, piecesF, pieceAdd]
  | succ k =>
    obtain ⟨l', r, hl, hr⟩ := pieces_last a k h0 (by omega)
    rw [hl, pieceAdd_next]
    omega
theorem pieces_on (a : Int) (k : Nat) (h0 : 0 ≤ a) (h1 : a + k < 64) (hk : 0 < k) (h : (a + k) % 8 ≠ 0) : ∃ l' r, piecesF (pgs a k) = l' ++ [r] ∧ piecesF (pgs a (k + 1)) = l' ++ [(r.1, a + k)] := by
  obtain ⟨j, rfl⟩ : ∃ j, k = j + 1 := ⟨k - 1, by omega⟩
  obtain ⟨l', r, hl, hr⟩ := pieces_last a j h0 (by omega)
  refine ⟨l', r, hl, ?_⟩
  rw [pgs_succ, piecesF_snoc, hl, pg_val _ (by omega) (by omega), pieceAdd_same]
  omega

set_option maxRecDepth 100000 in
set_option maxHeartbeats 2000000 in
theorem rPieces_ok (a b : Int) (w : World) (h0 : 0 ≤ a) (h1 : a ≤ b) (h2 : b < 64) :
    Calls Try.prog 22 #[.agg #[.int .i64 a, .int .i64 b]] w fun e w' => ∃ v, e = .returned (.tuple #[v, .int .i64 0]) ∧
      w'.ownsRow w.heap.size 23 2 v (pieces a b).length (flat2 .i64 (pieces a b)) ∧ Below w.heap.size w w' := by
  obtain ⟨i0, hi, hz0, hz1, hz2⟩ := info_parts infoRange
  obtain ⟨N, hN⟩ : ∃ N : Nat, b = a + N - 1 := ⟨(b - a + 1).toNat, by omega⟩
  subst hN
  have hN : (a + N - 1 - a + 1).toNat = N := by omega
  unfold pieces
  rw [hN]
  clear hN
  go_enter Try.func22, Try.ntmps22
  go_wp2_with (go_at_call 24; refine (rCheck_ok _ _ _ h0 h1 h2).mono ?_; rintro e w' ⟨rfl, rfl⟩)
  have hB0 : Below w.heap.size w ((w.alloc (.cells #[.int .i64 a, .int .i64 (a + N - 1)] 23)).alloc (.cells #[.int .i64 a, .int .i64 (a + N - 1)] 23)) := by (repeat' (first | exact Below.refl _ _ | assumption | refine balloc ?_ _ | refine below_drawn ?_ _ | refine below_drew ?_ | refine bnext ?_ hb24 | refine bnext ?_ hb23 | refine bnext ?_ hb22 | refine bnext ?_ hb21 | refine bnext ?_ hb20 | refine bnext ?_ hb19 | refine bnext ?_ hb18 | refine bnext ?_ hb17 | refine bnext ?_ hb16 | refine bnext ?_ hb15 | refine bnext ?_ hb14 | refine bnext ?_ hb13 | refine bnext ?_ hb12 | refine bnext ?_ hb11 | refine bnext ?_ hb10 | refine bnext ?_ hb9 | refine bnext ?_ hb8 | refine bnext ?_ hb7 | refine bnext ?_ hb6 | refine bnext ?_ hb5 | refine bnext ?_ hb4 | refine bnext ?_ hb3 | refine bnext ?_ hb2 | refine bnext ?_ hb1))
  have kR := (Bk.new w #[.int .i64 a, .int .i64 (a + N - 1)] 23).alloc (.cells #[.int .i64 a, .int .i64 (a + N - 1)] 23)
  generalize hW : (w.alloc (.cells #[.int .i64 a, .int .i64 (a + N - 1)] 23)).alloc (.cells #[.int .i64 a, .int .i64 (a + N - 1)] 23) = W0 at *
  clear hW
  have hs0 := hB0.size
  go_loopw [5, 6] (fun v p wr => ∃ k : Nat, k ≤ N ∧ p = .int .i64 (a + k) ∧ wr.ownsRow W0.heap.size 23 2 v (piecesF (pgs a k)).length (flat2 .i64 (piecesF (pgs a k))) ∧ Below W0.heap.size W0 wr) (fun _ p _ => N - (intOf p - a).toNat)
  case atStart => exact ⟨0, by omega, by simp, World.ownsRow_nil _ _ _ _, Below.refl _ _⟩
  case round =>
    obtain ⟨k, hk, rfl, hown, hB⟩ := hrel
    obtain ⟨cR, fR, lR⟩ := (kR.to hB).facts
    by_cases hlt : k < N
    · have hpl := piecesF_len (pgs a k)
      rw [pgs_len] at hpl
      by_cases hk0 : k = 0
      · have Hnew := Lib.hid (pieces_new a k h0 (by omega) (.inl hk0))
        have e1 : (a + (k : Int) == a) = true := by simp; omega
        clear hk0
        go_wp2_with (at_builtin; refine wpList_append_own _ rfl _ _ 36 rfl W0.heap.size 23 i0 (.agg #[.int .i64 0, .int .i64 0]) 2 16 Try.underlying36 hi hz0 hz1 hz2 rfl (by decide) _ _ _ rfl (hown.alloc _) ⟨wr.heap.size, 0, none⟩ 1 1 [.int .i64 (a + k), .int .i64 (a + k)] rfl rfl (cell_two_new _ _ _ _) (by simp [Value.oneCell']) (by simp only [maxLen]; omega) (by omega) (by have := hB.size; simp; omega) ?_; intro v' w2 hown' hgrow _; obtain ⟨g', cap', rfl⟩ := ownsRow_succ hown'; have hcl : w2.cell? ⟨g', (piecesF (pgs a k)).length * 2 + 1, none⟩ = some (.int .i64 (a + k)) := ((hown'.cellAt _ (by omega)).trans (flat2_end _ _ _ _)); have hfl := hown'.frozenAt ((piecesF (pgs a k)).length * 2 + 1); have hB2 : Below W0.heap.size W0 w2 := (hB.alloc hB.size _).grown hgrow (by have := hB.size; simp; omega) (fun q e => (hown.lt q e).1))
        have hst := (hown'.stored ((piecesF (pgs a k)).length * 2 + 1) (.int .i64 (a + k)))
        go_roundw
        case rel =>
          refine ⟨k + 1, by omega, by go_num, ?_, hB2.setCell (p := ⟨g', (piecesF (pgs a k)).length * 2 + 1, none⟩) (hown'.lt g' rfl).1 _⟩
          rw [Hnew.out, List.length_append, ← flat2_set2]
          exact hst.1
        case measure => simp [intOf]; omega
      by_cases hc : (a + (k : Int)) % 8 = 0
      · have Hnew := Lib.hid (pieces_new a k h0 (by omega) (.inr hc))
        have e1 : (a + (k : Int) == a) = false := by simp; omega
        have e2 : ((a + (k : Int)) % 8 == 0) = true := by simp; omega
        clear hk0 hc
        go_wp2_with (at_builtin; refine wpList_append_own _ rfl _ _ 36 rfl W0.heap.size 23 i0 (.agg #[.int .i64 0, .int .i64 0]) 2 16 Try.underlying36 hi hz0 hz1 hz2 rfl (by decide) _ _ _ rfl (hown.alloc _) ⟨wr.heap.size, 0, none⟩ 1 1 [.int .i64 (a + k), .int .i64 (a + k)] rfl rfl (cell_two_new _ _ _ _) (by simp [Value.oneCell']) (by simp only [maxLen]; omega) (by omega) (by have := hB.size; simp; omega) ?_; intro v' w2 hown' hgrow _; obtain ⟨g', cap', rfl⟩ := ownsRow_succ hown'; have hcl : w2.cell? ⟨g', (piecesF (pgs a k)).length * 2 + 1, none⟩ = some (.int .i64 (a + k)) := ((hown'.cellAt _ (by omega)).trans (flat2_end _ _ _ _)); have hfl := hown'.frozenAt ((piecesF (pgs a k)).length * 2 + 1); have hB2 : Below W0.heap.size W0 w2 := (hB.alloc hB.size _).grown hgrow (by have := hB.size; simp; omega) (fun q e => (hown.lt q e).1))
        have hst := (hown'.stored ((piecesF (pgs a k)).length * 2 + 1) (.int .i64 (a + k)))
        go_roundw
        case rel =>
          refine ⟨k + 1, by omega, by go_num, ?_, hB2.setCell (p := ⟨g', (piecesF (pgs a k)).length * 2 + 1, none⟩) (hown'.lt g' rfl).1 _⟩
          rw [Hnew.out, List.length_append, ← flat2_set2]
          exact hst.1
        case measure => simp [intOf]; omega
      · obtain ⟨l', r, hl, hnew⟩ := pieces_on a k h0 (by omega) (by omega) hc
        have e1 : (a + (k : Int) == a) = false := by simp; omega
        have e2 : ((a + (k : Int)) % 8 == 0) = false := by simp; omega
        rw [hl] at hown hpl
        have hnn : (l' ++ [r]).length = l'.length + 1 := by simp
        rw [hnn] at hown hpl
        have Hnew := Lib.hid hnew
        clear hk0 hc hl hnew hnn
        obtain ⟨g, cap, rfl, hgb, hgl⟩ := hown.form (by omega)
        have hcs : wr.cell? ⟨g, l'.length * 2 + 1, none⟩ = some (.int .i64 r.2) := by
          rw [hown.cellAt _ (by omega)]
          have := (flat2_at .i64 (l' ++ [r]) l'.length r (by simp)).2
          rwa [show 2 * l'.length + 1 = l'.length * 2 + 1 by omega] at this
        have hfr := hown.frozenAt (l'.length * 2 + 1)
        go_wp2_with fail
        have hst := (hown.stored (l'.length * 2 + 1) (.int .i64 (a + k)))
        go_roundw
        case rel =>
          refine ⟨k + 1, by omega, by go_num, ?_, hB.setCell (p := ⟨g, l'.length * 2 + 1, none⟩) hgb _⟩
          rw [Hnew.out, ← flat2_set, show (l' ++ [(r.1, a + (k : Int))]).length = l'.length + 1 by simp]
          exact hst.1
        case measure => simp [intOf]; omega
    · obtain rfl : k = N := by omega
      go_wp2_with fail
      go_ret2
      exact ⟨_, rfl, ownsRow_less hown hs0, bnext hB0 hB⟩

set_option maxHeartbeats 400000 in
theorem rPieces_bad (a b : Int) (w : World) (h : a < 0 ∨ b < a ∨ 64 ≤ b) :
    Calls Try.prog 22 #[.agg #[.int .i64 a, .int .i64 b]] w fun e w' => e = .returned (.tuple #[.slice none 0 0, .int .i64 2]) ∧ Below w.heap.size w w' := by
  have H := Lib.hid h
  clear h
  go_enter Try.func22, Try.ntmps22
  go_wp2_with (go_at_call 24; refine (rCheck_bad _ _ _ H.out).mono ?_; rintro e w1 ⟨rfl, rfl⟩)
  go_ret2
  exact ⟨rfl, by (repeat' (first | exact Below.refl _ _ | assumption | refine balloc ?_ _ | refine below_drawn ?_ _ | refine below_drew ?_ | refine bnext ?_ hb24 | refine bnext ?_ hb23 | refine bnext ?_ hb22 | refine bnext ?_ hb21 | refine bnext ?_ hb20 | refine bnext ?_ hb19 | refine bnext ?_ hb18 | refine bnext ?_ hb17 | refine bnext ?_ hb16 | refine bnext ?_ hb15 | refine bnext ?_ hb14 | refine bnext ?_ hb13 | refine bnext ?_ hb12 | refine bnext ?_ hb11 | refine bnext ?_ hb10 | refine bnext ?_ hb9 | refine bnext ?_ hb8 | refine bnext ?_ hb7 | refine bnext ?_ hb6 | refine bnext ?_ hb5 | refine bnext ?_ hb4 | refine bnext ?_ hb3 | refine bnext ?_ hb2 | refine bnext ?_ hb1))⟩

set_option maxRecDepth 100000 in
set_option maxHeartbeats 2000000 in
theorem rCover_some (A : Option Addr) (n c : Nat) (rs : List (Int × Int)) (w : World) (hn : n ≤ 64) (hr : Rd w 2 A n (flat2 .i64 rs)) :
    Calls Try.prog 27 #[.slice A n c] w fun e w' => ∃ v, e = .returned (.tuple #[v, .int .i64 (coverE rs)]) ∧
      w'.ownsRow w.heap.size 3 1 v (coverL rs).length ((coverL rs).map (Value.int .i64)) ∧ Below w.heap.size w w' := by
  obtain ⟨i0, hi, hz0, hz1, hz2⟩ := info_parts infoInt
  have hd64 : decide ((64 : Int) < (n : Int)) = false := by simp; omega
  have hlen : rs.length = n := by have := hr.1; rw [flat2_len] at this; omega
  have hl64 : ¬ 64 < rs.length := by omega
  have Hlen := Lib.hid hlen
  clear hlen
  go_enter Try.func27, Try.ntmps27
  go_wp2_with fail
  go_loopw [4] (fun i wr => ∃ k : Nat, k ≤ n ∧ i = .int .i64 k ∧ (rs.take k).all okR = true ∧ Below w.heap.size w wr) (fun i _ => n - (intOf i).toNat)
  case atStart => exact ⟨0, by omega, rfl, by simp, Below.refl _ _⟩
  case round =>
    obtain ⟨k, hk, rfl, hok, hB⟩ := hrel
    by_cases hlt : k < n
    · obtain ⟨b, off, r, rfl, hbl, hrr, hc1, hc2⟩ := (hr.below hB (Nat.le_refl _)).pair hlt
      have htk : rs.take (k + 1) = rs.take k ++ [r] := by rw [List.take_add_one, hrr]; rfl
      have Htk := Lib.hid htk
      have Hrr := Lib.hid hrr
      clear htk hrr hr
      obtain ⟨r1, r2⟩ := r
      simp only at hc1 hc2
      by_cases hv : 0 ≤ r1 ∧ r1 ≤ r2 ∧ r2 < 64
      · obtain ⟨v0, v1, v2⟩ := hv
        have hE : (rs.take (k + 1)).all okR = true := by rw [Htk.out, List.all_append, hok]; simp [okR, v0, v1, v2]
        clear hok
        go_wp2_with (go_at_call 24; refine (rCheck_ok _ _ _ v0 v1 v2).mono ?_; rintro e w1 ⟨rfl, rfl⟩)
        go_roundw
        case rel => exact ⟨k + 1, by omega, by go_num, hE, by (repeat' (first | exact Below.refl _ _ | assumption | refine balloc ?_ _ | refine below_drawn ?_ _ | refine below_drew ?_ | refine bnext ?_ hb24 | refine bnext ?_ hb23 | refine bnext ?_ hb22 | refine bnext ?_ hb21 | refine bnext ?_ hb20 | refine bnext ?_ hb19 | refine bnext ?_ hb18 | refine bnext ?_ hb17 | refine bnext ?_ hb16 | refine bnext ?_ hb15 | refine bnext ?_ hb14 | refine bnext ?_ hb13 | refine bnext ?_ hb12 | refine bnext ?_ hb11 | refine bnext ?_ hb10 | refine bnext ?_ hb9 | refine bnext ?_ hb8 | refine bnext ?_ hb7 | refine bnext ?_ hb6 | refine bnext ?_ hb5 | refine bnext ?_ hb4 | refine bnext ?_ hb3 | refine bnext ?_ hb2 | refine bnext ?_ hb1))⟩
        case measure => simp [intOf]; omega
      · have hv' : r1 < 0 ∨ r2 < r1 ∨ 64 ≤ r2 := by omega
        have Hv := Lib.hid hv'
        clear hv hv'
        go_wp2_with (go_at_call 24; refine (rCheck_bad _ _ _ Hv.out).mono ?_; rintro e w1 ⟨rfl, rfl⟩)
        have hne : rs.all okR = false := by
          rw [Bool.eq_false_iff]
          intro h
          have := List.all_eq_true.1 h (r1, r2) (List.mem_of_getElem? Hrr.out)
          simp [okR] at this
          have := Hv.out
          omega
        go_ret2
        refine ⟨.slice none 0 0, ?_, ?_, by (repeat' (first | exact Below.refl _ _ | assumption | refine balloc ?_ _ | refine below_drawn ?_ _ | refine below_drew ?_ | refine bnext ?_ hb24 | refine bnext ?_ hb23 | refine bnext ?_ hb22 | refine bnext ?_ hb21 | refine bnext ?_ hb20 | refine bnext ?_ hb19 | refine bnext ?_ hb18 | refine bnext ?_ hb17 | refine bnext ?_ hb16 | refine bnext ?_ hb15 | refine bnext ?_ hb14 | refine bnext ?_ hb13 | refine bnext ?_ hb12 | refine bnext ?_ hb11 | refine bnext ?_ hb10 | refine bnext ?_ hb9 | refine bnext ?_ hb8 | refine bnext ?_ hb7 | refine bnext ?_ hb6 | refine bnext ?_ hb5 | refine bnext ?_ hb4 | refine bnext ?_ hb3 | refine bnext ?_ hb2 | refine bnext ?_ hb1))⟩
        · simp [coverE, hl64, hne]
        · have : coverL rs = [] := by simp [coverL, hne]
          rw [this]; exact World.ownsRow_nil _ _ _ _
    · obtain rfl : k = n := by omega
      have htake : rs.take k = rs := List.take_of_length_le (by rw [Hlen.out]; omega)
      rw [htake] at hok
      clear htake hlt hk
      have hr2 := hr.below hB (Nat.le_refl _)
      clear hr
      go_wp2_with fail
      obtain ⟨wo, rfl⟩ : ∃ wo : World, wo = wr := ⟨_, rfl⟩
      go_loopw [6, 7] (fun v i wx => ∃ j : Nat, j ≤ 8 ∧ i = .int .i64 j ∧ wx.ownsRow wo.heap.size 3 1 v (coverK (marked rs) j).length ((coverK (marked rs) j).map (Value.int .i64)) ∧ Below wo.heap.size wo wx)
        (fun _ i _ => 8 - (intOf i).toNat)
      case atStart => exact ⟨0, by omega, rfl, World.ownsRow_nil _ _ _ _, Below.refl _ _⟩
      case round =>
        obtain ⟨j, hj, rfl, hown, hBx⟩ := hrel
        have hcl := coverK_len (marked rs) j
        by_cases hlt8 : j < 8
        · have hj8 : decide ((j : Int) < 8) = true := by rw [decide_eq_true_eq]; omega
          have hr3 := hr2.below hBx (Nat.le_refl _)
          go_wp2_with fail
          obtain ⟨v0, hv0⟩ : ∃ v0, v0 = u6 := ⟨_, rfl⟩
          subst hv0
          go_loop [6, 8] (fun v i => ∃ q : Nat, q ≤ k ∧ i = .int .i64 q ∧ v = v0 ∧ marked (rs.take q) j = false) (fun _ i => k - (intOf i).toNat)
          case atStart => exact ⟨0, by omega, rfl, rfl, by simp [marked]⟩
          case round =>
            obtain ⟨q, hq, rfl, rfl, hnm⟩ := hrel
            by_cases hlq : q < k
            · obtain ⟨b, off, r, rfl, hbl, hrr, hc1, hc2⟩ := hr3.pair hlq
              have hokr := List.all_eq_true.1 hok r (List.mem_of_getElem? hrr)
              obtain ⟨r1, r2⟩ := r
              simp only at hc1 hc2
              simp only [okR, Bool.and_eq_true, decide_eq_true_eq] at hokr
              obtain ⟨⟨v0, v1⟩, v2⟩ := hokr
              have hmk : marked (rs.take (q + 1)) j = (decide (r1 / 8 ≤ (j : Int)) && decide ((j : Int) ≤ r2 / 8)) := by
                have htk : rs.take (q + 1) = rs.take q ++ [(r1, r2)] := by rw [List.take_add_one, hrr]; rfl
                have hnm' : (rs.take q).any (fun r => decide (r.1 / 8 ≤ (j : Int)) && decide ((j : Int) ≤ r.2 / 8)) = false := hnm
                rw [htk]; unfold marked; rw [List.any_append, hnm']; simp
              have Hrr := Lib.hid hrr
              have Hmk := Lib.hid hmk
              clear hrr hmk hnm hr2 hr3 hok
              by_cases hx : r1 / 8 ≤ (j : Int)
              · by_cases hy : (j : Int) ≤ r2 / 8
                · have d1 : decide (r1 / 8 ≤ (j : Int)) = true := by simpa using hx
                  have d2 : decide ((j : Int) ≤ r2 / 8) = true := by simpa using hy
                  have hyes : marked rs j = true := by
                    unfold marked
                    rw [List.any_eq_true]
                    exact ⟨(r1, r2), List.mem_of_getElem? Hrr.out, by simp [hx, hy]⟩
                  have Hyes := Lib.hid (coverK_yes _ _ hyes)
                  clear hyes
                  go_wp2_with (at_builtin; refine wpList_append_own _ rfl _ _ 39 rfl wo.heap.size 3 i0 (.int .i64 0) 1 8 Try.underlying39 hi hz0 hz1 hz2 rfl (by decide) _ _ _ rfl (hown.alloc _) ⟨wr.heap.size, 0, none⟩ 1 1 [.int .i64 j] rfl rfl (cell_one_new _ _ _) (by simp [Value.oneCell']) (by simp only [maxLen]; omega) (by omega) (by have := hBx.size; simp; omega) ?_; intro v' w2 hown' hgrow _)
                  have hown2 : w2.ownsRow wo.heap.size 3 1 v' (coverK (marked rs) (j + 1)).length ((coverK (marked rs) (j + 1)).map (Value.int .i64)) := by
                    rw [Hyes.out]; simpa using hown'
                  have hBx2 : Below wo.heap.size wo w2 := (hBx.alloc hBx.size _).grown hgrow (by have := hBx.size; simp; omega) (fun q e => (hown.lt q e).1)
                  clear hown' hgrow hown hBx
                  go_wp2_with fail
                  go_roundw
                  case rel => exact ⟨j + 1, by omega, by go_num, hown2, hBx2⟩
                  case measure => simp [intOf]; omega
                · have d1 : decide (r1 / 8 ≤ (j : Int)) = true := by simpa using hx
                  have d2 : decide ((j : Int) ≤ r2 / 8) = false := by simpa using hy
                  have Hno := Lib.hid (show marked (rs.take (q + 1)) j = false by rw [Hmk.out]; simp [d1, d2])
                  go_wp2_with fail
                  go_round
                  case rel => exact ⟨q + 1, by omega, by go_num, rfl, Hno.out⟩
                  case measure => simp [intOf]; omega
              · have d1 : decide (r1 / 8 ≤ (j : Int)) = false := by simpa using hx
                have Hno := Lib.hid (show marked (rs.take (q + 1)) j = false by rw [Hmk.out]; simp [d1])
                go_wp2_with fail
                go_round
                case rel => exact ⟨q + 1, by omega, by go_num, rfl, Hno.out⟩
                case measure => simp [intOf]; omega
            · obtain rfl : q = k := by omega
              have htake : rs.take q = rs := List.take_of_length_le (by rw [Hlen.out]; omega)
              rw [htake] at hnm
              have Hno := Lib.hid (coverK_no _ _ hnm)
              clear htake hnm
              go_wp2_with fail
              go_roundw
              case rel => exact ⟨j + 1, by omega, by go_num, by rw [Hno.out]; exact hown, hBx⟩
              case measure => simp [intOf]; omega
        · obtain rfl : j = 8 := by omega
          go_wp2_with fail
          go_ret2
          refine ⟨u6, ?_, ?_, bnext hB hBx⟩
          · simp [coverE, hl64, hok]
          · have hcv : coverL rs = coverK (marked rs) 8 := by simp [coverL, hl64, hok, cover, coverK]
            rw [hcv]
            exact ownsRow_less hown hB.size

set_option maxHeartbeats 400000 in
theorem rCover_full (A : Option Addr) (n c : Nat) (w : World) (hn : 64 < n) (hn' : n ≤ 1000000) :
    Calls Try.prog 27 #[.slice A n c] w fun e w' => e = .returned (.tuple #[.slice none 0 0, .int .i64 5]) ∧ w = w' := by
  go_enter Try.func27, Try.ntmps27
  go_wp2_with fail
  go_ret2
  exact ⟨rfl, rfl⟩

theorem rCover_any (A : Option Addr) (n c : Nat) (rs : List (Int × Int)) (w : World) (hn : n ≤ 1000000) (hr : Rd w 2 A n (flat2 .i64 rs)) :
    Calls Try.prog 27 #[.slice A n c] w fun e w' => ∃ A' c', e = .returned (.tuple #[.slice A' (coverL rs).length c', .int .i64 (coverE rs)]) ∧
      Rd w' 1 A' (coverL rs).length ((coverL rs).map (Value.int .i64)) ∧ Below w.heap.size w w' := by
  have hlen : rs.length = n := by have := hr.1; rw [flat2_len] at this; omega
  by_cases h : 64 < n
  · refine (rCover_full A n c w h hn).mono ?_
    rintro e w' ⟨rfl, rfl⟩
    have h1 : coverL rs = [] := by simp [coverL, hlen, h]
    have h2 : coverE rs = 5 := by simp [coverE, hlen, h]
    rw [h1, h2]
    exact ⟨none, 0, rfl, Rd.zero _, Below.refl _ _⟩
  · refine (rCover_some A n c rs w (by omega) hr).mono ?_
    rintro e w' ⟨v, rfl, ho, hb⟩
    obtain ⟨A', c', rfl, hrd⟩ := own_slice ho
    exact ⟨A', c', rfl, hrd, hb⟩

/-- The pieces of a range, or none. -/
def piecesV (a b : Int) : List (Int × Int) := if 0 ≤ a ∧ a ≤ b ∧ b < 64 then pieces a b else []
def checkE (a b : Int) : Int := if 0 ≤ a ∧ a ≤ b ∧ b < 64 then 0 else 2
theorem piecesV_len (a b : Int) : (piecesV a b).length ≤ 64 := by
  unfold piecesV
  split
  · have := piecesF_len (pgs a (b - a + 1).toNat)
    rw [pgs_len] at this
    unfold pieces
    omega
  · simp
theorem Pieces_any (a b : Int) (w : World) :
    Calls Try.prog 20 #[.agg #[.int .i64 a, .int .i64 b]] w fun e w' => ∃ A c, e = .returned (.tuple #[.slice A (piecesV a b).length c, .int .i64 (checkE a b)]) ∧
      Rd w' 2 A (piecesV a b).length (flat2 .i64 (piecesV a b)) ∧ Below w.heap.size w w' := by
  unfold piecesV checkE
  by_cases h : 0 ≤ a ∧ a ≤ b ∧ b < 64
  · simp only [if_pos h]; exact Pieces_rd a b w h.1 h.2.1 h.2.2
  · simp only [if_neg h]
    exact (Pieces_bad a b w (by omega)).mono fun _ _ ⟨he, hb⟩ => ⟨none, 0, he, Rd.zero _, hb⟩
theorem rPieces_any (a b : Int) (w : World) :
    Calls Try.prog 22 #[.agg #[.int .i64 a, .int .i64 b]] w fun e w' => ∃ A c, e = .returned (.tuple #[.slice A (piecesV a b).length c, .int .i64 (checkE a b)]) ∧
      Rd w' 2 A (piecesV a b).length (flat2 .i64 (piecesV a b)) ∧ Below w.heap.size w w' := by
  unfold piecesV checkE
  by_cases h : 0 ≤ a ∧ a ≤ b ∧ b < 64
  · simp only [if_pos h]
    refine (rPieces_ok a b w h.1 h.2.1 h.2.2).mono ?_
    rintro e w' ⟨v, he, ho, hb⟩
    obtain ⟨A, c, rfl, hr⟩ := own_slice ho
    exact ⟨A, c, he, hr, hb⟩
  · simp only [if_neg h]
    exact (rPieces_bad a b w (by omega)).mono fun _ _ ⟨he, hb⟩ => ⟨none, 0, he, Rd.zero _, hb⟩
theorem Check_any (a b : Int) (w : World) :
    Calls Try.prog 23 #[.agg #[.int .i64 a, .int .i64 b]] w fun e w' => e = .returned (.int .i64 (checkE a b)) ∧ Below w.heap.size w w' := by
  unfold checkE
  by_cases h : 0 ≤ a ∧ a ≤ b ∧ b < 64
  · simp only [if_pos h]; exact Check_okB a b w h.1 h.2.1 h.2.2
  · simp only [if_neg h]; exact Check_badB a b w (by omega)
theorem rCheck_any (a b : Int) (w : World) :
    Calls Try.prog 24 #[.agg #[.int .i64 a, .int .i64 b]] w fun e w' => e = .returned (.int .i64 (checkE a b)) ∧ Below w.heap.size w w' := by
  unfold checkE
  by_cases h : 0 ≤ a ∧ a ≤ b ∧ b < 64
  · simp only [if_pos h]; exact (rCheck_ok a b w h.1 h.2.1 h.2.2).mono fun _ _ ⟨he, hw⟩ => ⟨he, by rw [← hw]; (repeat' (first | exact Below.refl _ _ | assumption | refine balloc ?_ _ | refine below_drawn ?_ _ | refine below_drew ?_ | refine bnext ?_ hb24 | refine bnext ?_ hb23 | refine bnext ?_ hb22 | refine bnext ?_ hb21 | refine bnext ?_ hb20 | refine bnext ?_ hb19 | refine bnext ?_ hb18 | refine bnext ?_ hb17 | refine bnext ?_ hb16 | refine bnext ?_ hb15 | refine bnext ?_ hb14 | refine bnext ?_ hb13 | refine bnext ?_ hb12 | refine bnext ?_ hb11 | refine bnext ?_ hb10 | refine bnext ?_ hb9 | refine bnext ?_ hb8 | refine bnext ?_ hb7 | refine bnext ?_ hb6 | refine bnext ?_ hb5 | refine bnext ?_ hb4 | refine bnext ?_ hb3 | refine bnext ?_ hb2 | refine bnext ?_ hb1))⟩
  · simp only [if_neg h]; exact (rCheck_bad a b w (by omega)).mono fun _ _ ⟨he, hw⟩ => ⟨he, by rw [← hw]; (repeat' (first | exact Below.refl _ _ | assumption | refine balloc ?_ _ | refine below_drawn ?_ _ | refine below_drew ?_ | refine bnext ?_ hb24 | refine bnext ?_ hb23 | refine bnext ?_ hb22 | refine bnext ?_ hb21 | refine bnext ?_ hb20 | refine bnext ?_ hb19 | refine bnext ?_ hb18 | refine bnext ?_ hb17 | refine bnext ?_ hb16 | refine bnext ?_ hb15 | refine bnext ?_ hb14 | refine bnext ?_ hb13 | refine bnext ?_ hb12 | refine bnext ?_ hb11 | refine bnext ?_ hb10 | refine bnext ?_ hb9 | refine bnext ?_ hb8 | refine bnext ?_ hb7 | refine bnext ?_ hb6 | refine bnext ?_ hb5 | refine bnext ?_ hb4 | refine bnext ?_ hb3 | refine bnext ?_ hb2 | refine bnext ?_ hb1))⟩
/-- What two ranges have in common: from, to, whether there is anything, the error. -/
def over (a b c d : Int) : Int × Int × Bool × Int :=
  if (0 ≤ a ∧ a ≤ b ∧ b < 64) ∧ (0 ≤ c ∧ c ≤ d ∧ d < 64) then (if max a c ≤ min b d then (max a c, min b d, true, 0) else (0, 0, false, 0)) else (0, 0, false, 2)
theorem Overlap_any (a b c d : Int) (w : World) :
    Calls Try.prog 10 #[.agg #[.int .i64 a, .int .i64 b], .agg #[.int .i64 c, .int .i64 d]] w fun e w' => e = .returned (.tuple #[.agg #[.int .i64 (over a b c d).1, .int .i64 (over a b c d).2.1], .bool (over a b c d).2.2.1, .int .i64 (over a b c d).2.2.2]) ∧ Below w.heap.size w w' := by
  unfold over
  by_cases h : (0 ≤ a ∧ a ≤ b ∧ b < 64) ∧ (0 ≤ c ∧ c ≤ d ∧ d < 64)
  · by_cases g : max a c ≤ min b d
    · simp only [if_pos h, if_pos g]; exact Overlap_some a b c d w h.1.1 h.1.2.1 h.1.2.2 h.2.1 h.2.2.1 h.2.2.2 g
    · simp only [if_pos h, if_neg g]; exact Overlap_none a b c d w h.1.1 h.1.2.1 h.1.2.2 h.2.1 h.2.2.1 h.2.2.2 (by omega)
  · simp only [if_neg h]; exact Overlap_bad a b c d w (by omega)
theorem rOverlap_any (a b c d : Int) (w : World) :
    Calls Try.prog 28 #[.agg #[.int .i64 a, .int .i64 b], .agg #[.int .i64 c, .int .i64 d]] w fun e w' => e = .returned (.tuple #[.agg #[.int .i64 (over a b c d).1, .int .i64 (over a b c d).2.1], .bool (over a b c d).2.2.1, .int .i64 (over a b c d).2.2.2]) ∧ Below w.heap.size w w' := by
  unfold over
  by_cases h : (0 ≤ a ∧ a ≤ b ∧ b < 64) ∧ (0 ≤ c ∧ c ≤ d ∧ d < 64)
  · by_cases g : max a c ≤ min b d
    · simp only [if_pos h, if_pos g]; exact rOverlap_some a b c d w h.1.1 h.1.2.1 h.1.2.2 h.2.1 h.2.2.1 h.2.2.2 g
    · simp only [if_pos h, if_neg g]; exact rOverlap_none a b c d w h.1.1 h.1.2.1 h.1.2.2 h.2.1 h.2.2.1 h.2.2.2 (by omega)
  · simp only [if_neg h]; exact rOverlap_bad a b c d w (by omega)

set_option maxHeartbeats 400000 in
theorem OwnRanges_any (A : Option Addr) (n c : Nat) (rs : List (Int × Int)) (w : World) (hn : n ≤ 1000000) (hr : Rd w 2 A n (flat2 .i64 rs)) :
    Calls Try.prog 26 #[.slice A n c] w fun e w' => ∃ A' c', e = .returned (.slice A' n c') ∧ Rd w' 2 A' n (flat2 .i64 rs) ∧ Below w.heap.size w w' := by
  obtain ⟨i0, hi, hz0, hz1, hz2⟩ := info_parts infoRange
  go_enter Try.func26, Try.ntmps26
  go_wp2_with (at_builtin; refine wpList_append_rd _ rfl _ _ 36 rfl w.heap.size 23 i0 (.agg #[.int .i64 0, .int .i64 0]) 2 16 Try.underlying36 hi hz0 hz1 hz2 rfl (by decide) _ _ _ rfl (own_empty w 23 2) A n c (flat2 .i64 rs) rfl (hr.alloc _) (oneCells_flat2 _ _) (by simp only [maxLen]; omega) (by omega) (by simp) ?_; intro v' w1 hown' hgrow)
  go_ret
  have hB1 : Below w.heap.size w w1 := (((Below.refl _ w).alloc (Nat.le_refl _) _).grown hgrow (by simp) (fun k e => by cases e; exact Nat.le_refl _))
  rw [Nat.zero_add, List.nil_append] at hown'
  obtain ⟨A', c', rfl, hrd⟩ := own_slice hown'
  exact ⟨A', c', rfl, hrd, hB1⟩

end Go.Proofs.Ytmaebbbaooodaaa
