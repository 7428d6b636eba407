/- The set of a list of members. -/
import Derived.Test.YtihbdndigfnhkaaDoorBit12
import Derived.Test.YtihbdndigfnhkaaDoorBitQ
import Derived.StillTailTactics
import Derived.IntWalk
namespace Go.Proofs.YtihbdndigfnhkaaDoor
open Go Go.Proofs Go.RowKit
set_option linter.unusedSimpArgs false
set_option linter.unusedVariables false

theorem own_word {w : World} {B g n cap : Nat} {e : TypeId} {ws : List Nat} (h : w.ownsRow B e 1 (.slice (some ⟨g, 0, none⟩) n cap) n (uw ws)) {i : Nat} (hi : i < n) :
    w.cell? ⟨g, i, none⟩ = some (.int .u64 ((ws.getD i 0 : Nat) : Int)) := by
  have hl : ws.length = n := by have := h.1; rw [uw_len] at this; omega
  rw [h.cellAt i (by omega)]
  simp [uw, List.getElem?_map, List.getD_eq_getElem?_getD, hl, hi]
theorem own_put {w : World} {B g n cap : Nat} {e : TypeId} {ws : List Nat} (h : w.ownsRow B e 1 (.slice (some ⟨g, 0, none⟩) n cap) n (uw ws)) (i : Nat) (z : Int) (x : Nat) (hz : z = (x : Int)) :
    (w.setCell ⟨g, i, none⟩ (.int .u64 z)).ownsRow B e 1 (.slice (some ⟨g, 0, none⟩) n cap) n (uw (ws.set i x)) := by
  subst hz
  have := (h.stored i (.int .u64 (x : Int))).1
  rwa [show (uw ws).set i (.int .u64 (x : Int)) = uw (ws.set i x) by simp [uw]] at this
theorem own_boolAt {w : World} {B g n cap : Nat} {e : TypeId} {l : List Bool} (h : w.ownsRow B e 1 (.slice (some ⟨g, 0, none⟩) n cap) n (bw l)) {i : Nat} (hi : i < n) :
    w.cell? ⟨g, i, none⟩ = some (.bool (l.getD i false)) := by
  have hl : l.length = n := by have := h.1; rw [bw_len] at this; omega
  rw [h.cellAt i (by omega)]
  simp [bw, List.getElem?_map, List.getD_eq_getElem?_getD, hl, hi]
theorem own_putB {w : World} {B g n cap : Nat} {e : TypeId} {l : List Bool} (h : w.ownsRow B e 1 (.slice (some ⟨g, 0, none⟩) n cap) n (bw l)) (i : Nat) (x : Bool) :
    (w.setCell ⟨g, i, none⟩ (.bool x)).ownsRow B e 1 (.slice (some ⟨g, 0, none⟩) n cap) n (bw (l.set i x)) := by
  have := (h.stored i (.bool x)).1
  rwa [show (bw l).set i (.bool x) = bw (l.set i x) by simp [bw]] at this
theorem Rd.bool {w : World} {A : Option Addr} {n : Nat} {l : List Bool} (h : Rd w 1 A n (bw l)) {i : Nat} (hi : i < n) :
    ∃ b off, A = some ⟨b, off, none⟩ ∧ b < w.heap.size ∧ w.cell? ⟨b, off + i, none⟩ = some (.bool (l.getD i false)) := by
  obtain ⟨b, off, e, hb, hc⟩ := h.2 (by omega)
  have hl : l.length = n := by have := h.1; rw [bw_len] at this; omega
  exact ⟨b, off, e, hb, hc i _ (by simp [bw, List.getElem?_map, List.getD_eq_getElem?_getD, hl, hi])⟩
theorem own_nat {w : World} {B : Nat} {e : TypeId} {n : Nat} {A : Option Addr} {c : Nat} {xs : List Value} (h : w.ownsRow B e 1 (.slice A n c) n xs) (hn : 0 < n) : ∃ g, A = some ⟨g, 0, none⟩ ∧ B ≤ g ∧ g < w.heap.size := by
  obtain ⟨g, cap, hv, h1, h2⟩ := h.form hn
  injection hv with hv
  exact ⟨g, hv, h1, h2⟩
theorem own_far {w : World} {B : Nat} {e : TypeId} {sz n : Nat} {v : Value} {xs : List Value} {p : Addr} (h : w.ownsRow B e sz v n xs) (hp : p.block < B) (u : Value) : (w.setCell p u).ownsRow B e sz v n xs := by
  refine ⟨h.1, ?_⟩
  rcases h.2 with hn | ⟨g, cap, cur, hv, hbg, hg, rest⟩
  · exact .inl hn
  · exact .inr ⟨g, cap, cur, hv, hbg, (Below.heap_setCell w p u g (by omega)).trans hg, rest⟩
theorem or_shl (x k : Nat) (hx : x < 18446744073709551616) : bits .or .u64 (x : Int) (IntKind.u64.wrap (2 ^ min (k % 64) 64)) = ((x ||| 2 ^ (k % 64) : Nat) : Int) := by
  have h2 : k % 64 < 64 := by omega
  have h3 : 2 ^ (k % 64) < 2 ^ 64 := Nat.pow_lt_pow_right (by omega) h2
  rw [Nat.min_eq_left (by omega), uwrap _ (2 ^ (k % 64)) (by norm_cast) h3]
  exact u64_or_nat _ _ hx h3
set_option maxRecDepth 100000 in
theorem rmade_any (A : Option Addr) (n c : Nat) (l : List Bool) (w : World) (hr : Rd w 1 A n (bw l)) (hn : n ≤ 1024) :
    Calls Tryd.prog 47 #[.slice A n c] w fun e w' => ∃ A', e = .returned (.agg #[.int .i64 n, .slice A' ((n + 63) / 64) ((n + 63) / 64)]) ∧ w'.ownsRow w.heap.size 61 1 (.slice A' ((n + 63) / 64) ((n + 63) / 64)) ((n + 63) / 64) (uw (wordsOf ((n + 63) / 64) (listF l n))) ∧ Below w.heap.size w w' := by
  obtain ⟨m, hm⟩ : ∃ m, (n + 63) / 64 = m := ⟨_, rfl⟩
  have HR := Lib.hid (fun w => rNew_any n w hn)
  rw [hm] at HR ⊢
  have hm1 : n ≤ 64 * m := by omega
  have hm2 : m ≤ 100 := by omega
  clear hm
  go_enter Tryd.func47, Tryd.ntmps47
  go_wp2_with (go_at_call 20; refine (HR.out _).mono ?_; rintro e w1 ⟨A', rfl, hown, hb1⟩)
  have kR := ((Bk.new w #[.int .i64 0, .slice none 0 0] 24).to hb1).alloc (.cells #[.int .i64 n, .slice A' m m] 24)
  have kB := Bk.new w1 #[.int .i64 n, .slice A' m m] 24
  have hB0 : Below w.heap.size w w1 := by (repeat' (first | exact Below.refl _ _ | assumption | refine balloc ?_ _ | refine below_drawn ?_ _ | refine below_drew ?_ | refine bnext ?_ hb24 | refine bnext ?_ hb23 | refine bnext ?_ hb22 | refine bnext ?_ hb21 | refine bnext ?_ hb20 | refine bnext ?_ hb19 | refine bnext ?_ hb18 | refine bnext ?_ hb17 | refine bnext ?_ hb16 | refine bnext ?_ hb15 | refine bnext ?_ hb14 | refine bnext ?_ hb13 | refine bnext ?_ hb12 | refine bnext ?_ hb11 | refine bnext ?_ hb10 | refine bnext ?_ hb9 | refine bnext ?_ hb8 | refine bnext ?_ hb7 | refine bnext ?_ hb6 | refine bnext ?_ hb5 | refine bnext ?_ hb4 | refine bnext ?_ hb3 | refine bnext ?_ hb2 | refine bnext ?_ hb1))
  have hB1 : Below w.heap.size w (w1.alloc (.cells #[.int .i64 n, .slice A' m m] 24)) := balloc hB0 _
  have hs0 : w.heap.size < w1.heap.size := by have := hb1.size; simp at this; omega
  have hgn : ∀ q, A' = some ⟨q, 0, none⟩ → 0 < m → q ≠ w1.heap.size := by
    intro q hq h0
    obtain ⟨g, h1, _, h3⟩ := own_nat hown h0
    rw [h1] at hq
    injection hq with hq
    injection hq with hq
    omega
  replace hown := own_less (hown.alloc (.cells #[.int .i64 n, .slice A' m m] 24)) (by simp : w.heap.size + 1 ≤ _)
  clear hb1 HR
  generalize w1.alloc (.cells #[.int .i64 n, .slice A' m m] 24) = w2 at *
  rw [← listF_words_zero l m] at hown
  go_loopw [5] (fun i wr => ∃ k : Nat, k ≤ n ∧ i = .int .i64 k ∧ wr.ownsRow (w.heap.size + 1) 61 1 (.slice A' m m) m (uw (wordsOf m (listF l k))) ∧ Bk wr w.heap.size #[.int .i64 0, .slice none 0 0] 24 ∧ Bk wr w1.heap.size #[.int .i64 n, .slice A' m m] 24 ∧ Below w.heap.size w wr) (fun i _ => n - (intOf i).toNat)
  case atStart => exact ⟨0, by omega, rfl, hown, kR, kB, hB1⟩
  case round =>
    clear hown kR kB hB1
    obtain ⟨k, hk, rfl, hown, kR, kB, hB⟩ := hrel
    obtain ⟨cB, fB, lB⟩ := kB.facts
    obtain ⟨cR, fR, lR⟩ := kR.facts
    by_cases hlt : k < n
    · obtain ⟨g, rfl, hg1, hg2⟩ := own_nat hown (by omega)
      obtain ⟨b, off, rfl, hbl, hcl⟩ := (hr.below hB (Nat.le_refl _)).bool hlt
      have hne := hgn g rfl (by omega)
      have hcw := own_word hown (i := k / 64) (by omega)
      have hfw := hown.frozenAt (k / 64)
      by_cases hl : l.getD k false = true
      · have HS := Lib.hid (listF_words_set l m k (by omega) hl)
        rw [hl] at hcl
        clear hl
        have hxs := wsmall_get _ (wordsOf_small m (listF l k)) (k / 64)
        generalize (wordsOf m (listF l k)).getD (k / 64) 0 = x at hcw HS hxs
        have hkm : k / 64 < m := by omega
        have HO := Lib.hid (or_shl x k hxs)
        clear hxs
        have hq2 : (k : Int) / 64 < (m : Int) := by omega
        have hq4 : 0 ≤ (k : Int) / 64 := by omega
        have hq1 : IntKind.i64.wrap ((k : Int) / 64) = (k : Int) / 64 := IntWalk.i64_in _ (by omega)
        have hq3 : ((k : Int) / 64).toNat = k / 64 := by omega
        go_wp2_with fail
        go_still_tail 16, (by kernel_rfl)
        change wpList _ _ _ _ _ wr.drew
        clear hq1 hq3
        go_wp2
        go_roundw
        case rel =>
          refine ⟨k + 1, by omega, by go_num, ?_, ?_, ?_, ?_⟩
          · rw [HS.out]; exact own_put hown (k / 64) _ _ HO.out
          · exact kR.drew.far (by show w.heap.size ≠ g; omega) _
          · exact kB.drew.far (by show w1.heap.size ≠ g; omega) _
          · exact (below_drew hB).setCell (by show w.heap.size ≤ g; omega) _
        case measure => simp [intOf]; omega
      · have hl' : l.getD k false = false := by simpa using hl
        have HS := Lib.hid (listF_words_skip l m k hl')
        rw [hl'] at hcl
        clear hl hl'
        go_wp2
        go_roundw
        case rel => exact ⟨k + 1, by omega, by go_num, by rw [HS.out]; exact hown, kR, kB, hB⟩
        case measure => simp [intOf]; omega
    · obtain rfl : k = n := by omega
      clear cR fR lR
      have kF := (kR.put 0 (.int .i64 k)).put 1 (.slice A' m m)
      have hF := own_far (own_far hown (p := ⟨w.heap.size, 0, none⟩) (Nat.lt_succ_self _) (.int .i64 k)) (p := ⟨w.heap.size, 1, none⟩) (Nat.lt_succ_self _) (.slice A' m m)
      have hBF := (hB.setCell (p := ⟨w.heap.size, 0, none⟩) (Nat.le_refl _) (.int .i64 k)).setCell (p := ⟨w.heap.size, 1, none⟩) (Nat.le_refl _) (.slice A' m m)
      obtain ⟨cR, fR, lR⟩ := kR.facts
      go_wp2
      generalize (wr.setCell ⟨w.heap.size, 0, none⟩ (.int .i64 k)).setCell ⟨w.heap.size, 1, none⟩ (.slice A' m m) = wF at *
      obtain ⟨cF, fF, lF⟩ := kF.facts
      exact bodyPost_ret (v := .agg #[.int .i64 k, .slice A' m m]) (by simp [results, Tryd.results47, go_sem, cF]) rfl ⟨_, rfl, own_less hF (Nat.le_succ _), hBF⟩
end Go.Proofs.YtihbdndigfnhkaaDoor
