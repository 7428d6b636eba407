/- Several texts in one. -/
import Derived.Test.YtpkgfkhaiifooaaGreatDoorGB
import Derived.Test.YtpkgfkhaiifooaaGreatDoorGA
import Derived.Test.YtpkgfkhaiifooaaGreatDoorBools
import Derived.Deep.AppendLies
/- Regions: valid lists and their pages, by the reference. -/
namespace Go.Proofs.YtpkgfkhaiifooaaGreatDoor
open Go Go.Proofs Go.RowKit
set_option linter.unusedSimpArgs false
set_option linter.unusedVariables false
set_option maxRecDepth 100000

theorem Rd.prs' {w : World} {A : Option Addr} {n : Nat} {rs : List (Int × Int)} (h : Rd w 2 A n (flat2 .i64 rs)) (h0 : 0 < n) :
    ∃ b off, A = some ⟨b, off, none⟩ ∧ b < w.heap.size ∧ ∀ i, i < n → w.cell? ⟨b, off + i * 2, none⟩ = some (.int .i64 (rs.getD i (0, 0)).1) ∧ w.cell? ⟨b, off + i * 2 + 1, none⟩ = some (.int .i64 (rs.getD i (0, 0)).2) := by
  obtain ⟨b, off, r, e, hb, _⟩ := h.pair h0
  refine ⟨b, off, e, hb, fun i hi => ?_⟩
  obtain ⟨b', off', a, c, e', _, hg, h1, h2⟩ := h.pr hi
  rw [e] at e'
  injection e' with e'
  injection e' with q1 q2
  subst q1 q2
  rw [hg]
  exact ⟨h1, h2⟩
set_option maxHeartbeats 1000000 in
theorem one_any (a b : Int) (w : World) :
    Calls Tryz.prog 58 #[.agg #[.int .i64 a, .int .i64 b]] w fun e w' => e = .returned (.int .i64 (rngE a b)) ∧ Below w.heap.size w w' := by
  unfold rngE
  by_cases h1 : a < 0
  · rw [if_pos (by omega)]
    go_enter Tryz.func58, Tryz.ntmps58
    go_wp2
    go_ret
    exact ⟨rfl, by (repeat' (first | exact Below.refl _ _ | assumption | refine balloc ?_ _ | refine below_drawn ?_ _ | refine below_drew ?_ | refine bnext ?_ hb24 | refine bnext ?_ hb23 | refine bnext ?_ hb22 | refine bnext ?_ hb21 | refine bnext ?_ hb20 | refine bnext ?_ hb19 | refine bnext ?_ hb18 | refine bnext ?_ hb17 | refine bnext ?_ hb16 | refine bnext ?_ hb15 | refine bnext ?_ hb14 | refine bnext ?_ hb13 | refine bnext ?_ hb12 | refine bnext ?_ hb11 | refine bnext ?_ hb10 | refine bnext ?_ hb9 | refine bnext ?_ hb8 | refine bnext ?_ hb7 | refine bnext ?_ hb6 | refine bnext ?_ hb5 | refine bnext ?_ hb4 | refine bnext ?_ hb3 | refine bnext ?_ hb2 | refine bnext ?_ hb1))⟩
  · by_cases h2 : b < a
    · rw [if_pos (by omega)]
      go_enter Tryz.func58, Tryz.ntmps58
      go_wp2
      go_ret
      exact ⟨rfl, by (repeat' (first | exact Below.refl _ _ | assumption | refine balloc ?_ _ | refine below_drawn ?_ _ | refine below_drew ?_ | refine bnext ?_ hb24 | refine bnext ?_ hb23 | refine bnext ?_ hb22 | refine bnext ?_ hb21 | refine bnext ?_ hb20 | refine bnext ?_ hb19 | refine bnext ?_ hb18 | refine bnext ?_ hb17 | refine bnext ?_ hb16 | refine bnext ?_ hb15 | refine bnext ?_ hb14 | refine bnext ?_ hb13 | refine bnext ?_ hb12 | refine bnext ?_ hb11 | refine bnext ?_ hb10 | refine bnext ?_ hb9 | refine bnext ?_ hb8 | refine bnext ?_ hb7 | refine bnext ?_ hb6 | refine bnext ?_ hb5 | refine bnext ?_ hb4 | refine bnext ?_ hb3 | refine bnext ?_ hb2 | refine bnext ?_ hb1))⟩
    · by_cases h3 : 64 ≤ b
      · rw [if_pos (by omega)]
        go_enter Tryz.func58, Tryz.ntmps58
        go_wp2
        go_ret
        exact ⟨rfl, by (repeat' (first | exact Below.refl _ _ | assumption | refine balloc ?_ _ | refine below_drawn ?_ _ | refine below_drew ?_ | refine bnext ?_ hb24 | refine bnext ?_ hb23 | refine bnext ?_ hb22 | refine bnext ?_ hb21 | refine bnext ?_ hb20 | refine bnext ?_ hb19 | refine bnext ?_ hb18 | refine bnext ?_ hb17 | refine bnext ?_ hb16 | refine bnext ?_ hb15 | refine bnext ?_ hb14 | refine bnext ?_ hb13 | refine bnext ?_ hb12 | refine bnext ?_ hb11 | refine bnext ?_ hb10 | refine bnext ?_ hb9 | refine bnext ?_ hb8 | refine bnext ?_ hb7 | refine bnext ?_ hb6 | refine bnext ?_ hb5 | refine bnext ?_ hb4 | refine bnext ?_ hb3 | refine bnext ?_ hb2 | refine bnext ?_ hb1))⟩
      · rw [if_neg (by omega)]
        go_enter Tryz.func58, Tryz.ntmps58
        go_wp2
        go_ret
        exact ⟨rfl, by (repeat' (first | exact Below.refl _ _ | assumption | refine balloc ?_ _ | refine below_drawn ?_ _ | refine below_drew ?_ | refine bnext ?_ hb24 | refine bnext ?_ hb23 | refine bnext ?_ hb22 | refine bnext ?_ hb21 | refine bnext ?_ hb20 | refine bnext ?_ hb19 | refine bnext ?_ hb18 | refine bnext ?_ hb17 | refine bnext ?_ hb16 | refine bnext ?_ hb15 | refine bnext ?_ hb14 | refine bnext ?_ hb13 | refine bnext ?_ hb12 | refine bnext ?_ hb11 | refine bnext ?_ hb10 | refine bnext ?_ hb9 | refine bnext ?_ hb8 | refine bnext ?_ hb7 | refine bnext ?_ hb6 | refine bnext ?_ hb5 | refine bnext ?_ hb4 | refine bnext ?_ hb3 | refine bnext ?_ hb2 | refine bnext ?_ hb1))⟩
theorem rgE_rng (rs : List (Int × Int)) (i : Nat) : rgE rs i = if rngE (rs.getD i (0, 0)).1 (rs.getD i (0, 0)).2 ≠ 0 then 2 else if 0 < i ∧ (rs.getD i (0, 0)).1 < (rs.getD (i - 1) (0, 0)).2 + 2 then 8 else 0 := by
  unfold rgE rngE
  split
  · rw [if_pos (by decide)]
  · rw [if_neg (show ¬ ((0 : Int) ≠ 0) by decide)]
theorem rngE_cases (a b : Int) : (rngE a b = 2) ∨ (rngE a b = 0 ∧ 0 ≤ a ∧ a ≤ b ∧ b ≤ 63) := by
  unfold rngE
  split
  · exact .inl rfl
  · exact .inr ⟨rfl, by omega, by omega, by omega⟩
set_option maxHeartbeats 2000000 in
theorem rCheckR_any (A : Option Addr) (n c : Nat) (rs : List (Int × Int)) (w : World) (hr : Rd w 2 A n (flat2 .i64 rs)) (hn : n ≤ 1000000) :
    Calls Tryz.prog 55 #[.slice A n c] w fun e w' => e = .returned (.tuple #[.int .i64 (regE rs).1, .int .i64 (regE rs).2]) ∧ Below w.heap.size w w' := by
  have hlen : rs.length = n := by have := hr.1; rw [flat2_len] at this; omega
  have Hhit := Lib.hid (regE_hit rs)
  have Hok := Lib.hid (regE_ok rs)
  rw [hlen] at Hhit Hok
  clear hlen
  go_enter Tryz.func55, Tryz.ntmps55
  go_wp2_with fail
  go_loopw [4] (fun i wr => ∃ k : Nat, k ≤ n ∧ i = .int .i64 k ∧ Hid (∀ j, j < k → rgE rs j = 0) ∧ Below w.heap.size w wr) (fun i _ => n - (intOf i).toNat)
  case atStart => exact ⟨0, by omega, rfl, Lib.hid (fun j h => absurd h (Nat.not_lt_zero _)), Below.refl _ _⟩
  case round =>
    obtain ⟨k, hk, rfl, Hz, hB⟩ := hrel
    by_cases hlt : k < n
    · obtain ⟨gb, off, x, y, rfl, hgb, hg, c1, c2⟩ := (hr.below hB (Nat.le_refl _)).pr hlt
      have hE := rgE_rng rs k
      rw [hg] at hE
      simp only at hE
      rcases rngE_cases x y with hR | ⟨hR, hx1, hx2, hx3⟩
      · rw [hR, if_pos (by omega)] at hE
        have HR := Lib.hid (Hhit.out k hlt Hz.out (by rw [hE]; omega))
        rw [hE] at HR
        have HO := Lib.hid (one_any x y wr)
        rw [hR] at HO
        clear hE hR
        go_wp2_with (go_at_call 58; refine HO.out.mono ?_; rintro e w1 ⟨rfl, hb1⟩)
        go_quiet (fail)
        go_wp2_with fail
        go_ret2
        exact ⟨by rw [HR.out]; rfl, below_drawn (bnext hB hb1) _⟩
      · rw [hR, if_neg (by omega)] at hE
        have HO := Lib.hid (one_any x y wr)
        rw [hR] at HO
        rcases k with _ | k
        · rw [if_neg (by omega)] at hE
          have Hz' := Lib.hid hE
          clear hE hR hg
          simp only [Nat.zero_mul, Nat.add_zero] at c1 c2
          go_wp2_with (go_at_call 58; refine HO.out.mono ?_; rintro e w1 ⟨rfl, hb1⟩)
          go_quiet (fail)
          go_wp2_with fail
          go_roundw
          case rel => exact ⟨1, by omega, by go_num, Lib.hid (fun j hj => by rw [show j = 0 by omega]; exact Hz'.out), below_drawn (bnext hB hb1) _⟩
          case measure => simp [intOf]; omega
        · obtain ⟨b', off', x', y', he, hb', hg', c1', c2'⟩ := (hr.below hB (Nat.le_refl _)).pr (i := k) (by omega)
          injection he with he
          injection he with hq1 hq2
          subst hq1 hq2
          have hbd := rgE_one (Hz.out k (by omega))
          rw [Nat.add_sub_cancel, hg'] at hE
          rw [hg'] at hbd
          simp only at hbd hE
          have hy1 : 0 ≤ y' := by omega
          have hy2 : y' ≤ 63 := by omega
          have hw2 : IntKind.i64.wrap (y' + 2) = y' + 2 := by rw [IntKind.wrap_i64]; omega
          clear hbd hR hg hg'
          by_cases hlt2 : x < y' + 2
          · rw [if_pos ⟨by omega, hlt2⟩] at hE
            have HR := Lib.hid (Hhit.out (k + 1) hlt Hz.out (by rw [hE]; omega))
            rw [hE] at HR
            clear hE
            go_wp2_with fail
            refine HO.out.mono ?_
            rintro e w1 ⟨rfl, hb1⟩
            replace c1 := (hb1.cell (p := ⟨gb, off + (k + 1) * 2, none⟩) hgb).trans c1
            replace c2' := (hb1.cell (p := ⟨gb, off + k * 2 + 1, none⟩) hgb).trans c2'
            clear c2 c1'
            go_wp2_with fail
            go_quiet (fail)
            go_wp2_with fail
            go_ret2
            exact ⟨by rw [HR.out, Int.natCast_add]; rfl, below_drawn (bnext hB hb1) _⟩
          · rw [if_neg (by omega)] at hE
            have Hz' := Lib.hid hE
            clear hE
            go_wp2_with fail
            refine HO.out.mono ?_
            rintro e w1 ⟨rfl, hb1⟩
            replace c1 := (hb1.cell (p := ⟨gb, off + (k + 1) * 2, none⟩) hgb).trans c1
            replace c2' := (hb1.cell (p := ⟨gb, off + k * 2 + 1, none⟩) hgb).trans c2'
            clear c2 c1'
            go_wp2_with fail
            go_quiet (fail)
            go_wp2_with fail
            go_roundw
            case rel => exact ⟨k + 2, by omega, by go_num, Lib.hid (fun j hj => by rcases Nat.lt_or_ge j (k + 1) with h | h; exact Hz.out j h; rw [show j = k + 1 by omega]; exact Hz'.out), below_drawn (bnext hB hb1) _⟩
            case measure => simp [intOf]; omega
    · obtain rfl : k = n := by omega
      go_wp2_with fail
      go_ret2
      exact ⟨by rw [Hok.out Hz.out]; rfl, hB⟩
/-- A set of pages as a row. -/
def bl (f : Nat → Bool) : List Bool := (List.range 64).map f
theorem bl_len (f : Nat → Bool) : (bl f).length = 64 := by simp [bl]
theorem bl_get (f : Nat → Bool) (p : Nat) (h : p < 64) : (bl f).getD p false = f p := by simp [bl, List.getD_eq_getElem?_getD, List.getElem?_range h]
theorem bl_congr (f g : Nat → Bool) (h : ∀ p, p < 64 → f p = g p) : bl f = bl g := List.map_congr_left (fun p hp => h p (List.mem_range.1 hp))
theorem bl_set (f : Nat → Bool) (p : Nat) (x : Bool) : (bl f).set p x = bl (fun q => if q = p then x else f q) := by
  apply List.ext_getElem
  · simp [bl]
  · intro i h1 h2
    rw [List.getElem_set]
    simp only [bl, List.getElem_map, List.getElem_range]
    by_cases h : p = i
    · rw [if_pos h, if_pos h.symm]
    · rw [if_neg h, if_neg (fun e => h e.symm)]
theorem bl_zero : List.replicate 64 false = bl (fun _ => false) := by
  unfold bl
  rw [show (fun _ : Nat => false) = Function.const Nat false from rfl, List.map_const, List.length_range]
/-- The pages of the first k ranges, and those of the next one below p. -/
def stF (rs : List (Int × Int)) (k : Nat) (p : Int) (q : Nat) : Bool := hasP (rs.take k) q || (decide ((rs.getD k (0, 0)).1 ≤ (q : Int)) && decide ((q : Int) < p))
theorem stF_start (rs : List (Int × Int)) (k : Nat) : bl (hasP (rs.take k)) = bl (stF rs k (rs.getD k (0, 0)).1) := bl_congr _ _ (fun q _ => by
  unfold stF
  have : (decide ((rs.getD k (0, 0)).1 ≤ (q : Int)) && decide ((q : Int) < (rs.getD k (0, 0)).1)) = false := by rw [Bool.and_eq_false_iff]; simp only [decide_eq_false_iff_not]; omega
  rw [this, Bool.or_false])
theorem stF_step (rs : List (Int × Int)) (k p : Nat) (h : (rs.getD k (0, 0)).1 ≤ (p : Int)) : (bl (stF rs k p)).set p true = bl (stF rs k ((p : Int) + 1)) := by
  rw [bl_set]
  refine bl_congr _ _ (fun q _ => ?_)
  unfold stF
  by_cases hq : q = p
  · subst hq
    rw [if_pos rfl, decide_eq_true h, decide_eq_true (by omega)]
    simp
  · rw [if_neg hq]
    congr 2
    apply decide_eq_decide.2
    omega
theorem stF_end (rs : List (Int × Int)) (k : Nat) (hk : k < rs.length) : bl (stF rs k ((rs.getD k (0, 0)).2 + 1)) = bl (hasP (rs.take (k + 1))) := bl_congr _ _ (fun q _ => by
  unfold stF
  rw [List.take_succ_eq_append_getElem hk, hasP_append, hasP_cons, hasP_nil, Bool.or_false]
  have : rs.getD k (0, 0) = rs[k] := by simp [List.getD_eq_getElem?_getD, hk]
  rw [this]
  congr 2
  apply decide_eq_decide.2
  omega)
set_option maxHeartbeats 2000000 in
theorem rset_any (A : Option Addr) (n c : Nat) (rs : List (Int × Int)) (w : World) (hr : Rd w 2 A n (flat2 .i64 rs)) (hn : n ≤ 1000000) (hv : RgV rs) :
    Calls Tryz.prog 59 #[.slice A n c] w fun e w' => ∃ v, e = .returned v ∧ w'.ownsRow w.heap.size 4 1 v 64 (bw (bl (hasP rs))) ∧ Below w.heap.size w w' := by
  have hlen : rs.length = n := by have := hr.1; rw [flat2_len] at this; omega
  have Hv := Lib.hid hv
  unfold RgV at Hv
  rw [hlen] at Hv
  have Htk : Hid (rs.take n = rs) := Lib.hid (List.take_of_length_le (by omega))
  have hmk := run_make_row' (P := Tryz.prog) 94 4 (.bool false) 1 Tryz.underlying94 infoBool rfl .i64 .i64 64 (by omega) (by omega)
  replace hmk : ∀ w : World, (Instr.makeSlice 94 (.int .i64 64) (.int .i64 64)).run Tryz.prog w = .ok (.slice (some ⟨w.heap.size, 0, none⟩) 64 64) (w.alloc (.cells (madeCells #[.bool false] 64) 4)) := hmk
  go_enter Tryz.func59, Tryz.ntmps59
  go_wp2_with fail
  have hown := own_falses w 4 64 (by omega)
  rw [bl_zero] at hown
  have hB := balloc (Below.refl _ w) (.cells (madeCells #[.bool false] 64) 4)
  generalize w.alloc (.cells (madeCells #[.bool false] 64) 4) = w1 at *
  obtain ⟨g, hg⟩ : ∃ g, g = w.heap.size := ⟨_, rfl⟩
  have hown1 : w1.ownsRow w.heap.size 4 1 (.slice (some ⟨g, 0, none⟩) 64 64) 64 (bw (bl (hasP (rs.take 0)))) := by
    rw [hg]
    exact hown
  rw [← hg]
  have hgw : w.heap.size ≤ g := by omega
  clear hown hmk hg
  go_loopw [4] (fun i wr => ∃ k : Nat, k ≤ n ∧ i = .int .i64 k ∧ wr.ownsRow w.heap.size 4 1 (.slice (some ⟨g, 0, none⟩) 64 64) 64 (bw (bl (hasP (rs.take k)))) ∧ Below w.heap.size w wr) (fun i _ => n - (intOf i).toNat)
  case atStart => exact ⟨0, by omega, rfl, hown1, hB⟩
  case round =>
    clear hown1 hB
    obtain ⟨k, hk, rfl, hown, hB⟩ := hrel
    by_cases hlt : k < n
    · obtain ⟨gb, off, rfl, hgb, hcs⟩ := hr.prs' (by omega)
      obtain ⟨c1, c2⟩ := hcs k hlt
      obtain ⟨b1, b2, b3, _⟩ := rgE_one (Hv.out k hlt)
      have HS := Lib.hid (stF_start rs k)
      have HT := Lib.hid (stF_step rs k)
      have HN := Lib.hid (stF_end rs k (by omega))
      obtain ⟨x, y, hxy⟩ : ∃ x y, rs.getD k (0, 0) = (x, y) := ⟨_, _, rfl⟩
      rw [hxy] at c1 c2 b1 b2 b3 HS HT HN
      simp only at c1 c2 b1 b2 b3 HS HT HN
      rw [HS.out] at hown
      have c1' := (hB.cell (p := ⟨gb, off + k * 2, none⟩) hgb).trans c1
      have hgg : gb ≠ g := by omega
      clear HS
      go_wp2_with fail
      go_loopw [5] (fun i wr => ∃ p : Nat, x ≤ (p : Int) ∧ (p : Int) ≤ y + 1 ∧ i = .int .i64 p ∧ wr.ownsRow w.heap.size 4 1 (.slice (some ⟨g, 0, none⟩) 64 64) 64 (bw (bl (stF rs k p))) ∧ Below w.heap.size w wr) (fun i _ => 65 - (intOf i).toNat)
      case atStart =>
        obtain ⟨p, rfl⟩ : ∃ p : Nat, x = p := ⟨x.toNat, by omega⟩
        exact ⟨p, by omega, by omega, rfl, hown, hB⟩
      case round =>
        clear hown hB c1'
        obtain ⟨p, hp1, hp2, rfl, hown, hB⟩ := hrel
        have c2' := (hB.cell (p := ⟨gb, off + k * 2 + 1, none⟩) hgb).trans c2
        by_cases hpy : (p : Int) ≤ y
        · have hp64 : p < 64 := by omega
          have hp64' : (p : Int) < 64 := by omega
          have hcw := own_boolAt hown (i := p) hp64
          have hfw := hown.frozenAt p
          generalize (bl (stF rs k p)).getD p false = u at hcw
          go_wp2
          go_roundw
          case rel =>
            refine ⟨p + 1, by omega, by omega, by go_num, ?_, ?_⟩
            · have := own_putB hown p true
              rw [HT.out p hp1] at this
              rw [Int.natCast_add]
              exact this
            · exact hB.setCell (by show w.heap.size ≤ g; omega) _
          case measure => simp [intOf]; omega
        · have hpe : (p : Int) = y + 1 := by omega
          have hown2 : wr.ownsRow w.heap.size 4 1 (.slice (some ⟨g, 0, none⟩) 64 64) 64 (bw (bl (hasP (rs.take (k + 1))))) := by
            rw [← HN.out, ← hpe]; exact hown
          clear hown hpe
          go_wp2
          go_roundw
          case rel => exact ⟨k + 1, by omega, by go_num, hown2, hB⟩
          case measure => simp [intOf]; omega
    · obtain rfl : k = n := by omega
      rw [Htk.out] at hown
      go_wp2_with fail
      go_ret
      exact ⟨_, rfl, hown, hB⟩
def mnR (f : Nat → Bool) (k : Nat) : Nat := (List.range k).countP f
theorem mnR_succ (f : Nat → Bool) (k : Nat) : mnR f (k + 1) = mnR f k + if f k = true then 1 else 0 := by
  unfold mnR
  rw [List.range_succ, List.countP_append, List.countP_singleton]
theorem mnR_le (f : Nat → Bool) (k : Nat) : mnR f k ≤ k := by
  have := List.countP_le_length (p := f) (l := List.range k)
  simpa [mnR] using this
set_option maxHeartbeats 1000000 in
theorem many_any (A : Option Addr) (c : Nat) (f : Nat → Bool) (w : World) (hr : Rd w 1 A 64 (bw (bl f))) :
    Calls Tryz.prog 60 #[.slice A 64 c] w fun e w' => e = .returned (.int .i64 (cntP f)) ∧ Below w.heap.size w w' := by
  go_enter Tryz.func60, Tryz.ntmps60
  go_wp2_with fail
  go_loopw [3, 4] (fun s i wr => ∃ k : Nat, k ≤ 64 ∧ i = .int .i64 k ∧ s = .int .i64 (mnR f k) ∧ Below w.heap.size w wr) (fun _ i _ => 64 - (intOf i).toNat)
  case atStart => exact ⟨0, by omega, rfl, rfl, Below.refl _ _⟩
  case round =>
    obtain ⟨k, hk, rfl, rfl, hB⟩ := hrel
    have hle := mnR_le f k
    have HS := Lib.hid (mnR_succ f k)
    have HF : Hid (k = 64 → cntP f = mnR f k) := Lib.hid (fun h => by subst h; rfl)
    generalize mnR f k = m at *
    by_cases hlt : k < 64
    · obtain ⟨b, off, rfl, hb, hc⟩ := (hr.below hB (Nat.le_refl _)).bool hlt
      rw [bl_get f k hlt] at hc
      have hkI : (k : Int) < 64 := by omega
      rcases hfk : f k with _ | _
      · rw [hfk] at hc HS
        clear hfk
        simp only [Bool.false_eq_true, if_false, Nat.add_zero] at HS
        go_wp2
        go_roundw
        case rel => exact ⟨k + 1, by omega, by go_num, by rw [HS.out], hB⟩
        case measure => simp [intOf]; omega
      · rw [hfk] at hc HS
        clear hfk
        simp only [if_true] at HS
        go_wp2
        go_roundw
        case rel => exact ⟨k + 1, by omega, by go_num, by rw [HS.out]; go_num, hB⟩
        case measure => simp [intOf]; omega
    · have hk64 : k = 64 := by omega
      have HF' := Lib.hid (HF.out hk64)
      clear HF HS
      subst hk64
      go_wp2
      go_ret
      exact ⟨by rw [HF'.out]; rfl, hB⟩
end Go.Proofs.YtpkgfkhaiifooaaGreatDoor
/- Regions of a set of pages, and pages that are mapped and unmapped, by the reference. -/
namespace Go.Proofs.YtpkgfkhaiifooaaGreatDoor
open Go Go.Proofs Go.RowKit
set_option linter.unusedSimpArgs false
set_option linter.unusedVariables false
set_option maxRecDepth 100000

theorem infoRgF : (Tryz.prog.info? 72).map (fun i => (i.zero, i.size, i.bytes)) = some (some (.agg #[.int .i64 0, .int .i64 0]), 2, 16) := by kernel_rfl
theorem flat2_setL (k : IntKind) (l : List (Int × Int)) (a b p : Int) : (flat2 k (l ++ [(a, b)])).set (l.length * 2 + 1) (.int k p) = flat2 k (l ++ [(a, p)]) := by
  rw [flat2_append, flat2_append, List.set_append_right _ _ (by rw [flat2_len]; omega), flat2_len, show l.length * 2 + 1 - l.length * 2 = 1 by omega]
  rfl
theorem flat2_lastL (k : IntKind) (l : List (Int × Int)) (a b : Int) : (flat2 k (l ++ [(a, b)]))[l.length * 2 + 1]? = some (.int k b) := by
  have := (flat2_at k (l ++ [(a, b)]) l.length (a, b) (by simp)).2
  rwa [show 2 * l.length + 1 = l.length * 2 + 1 by omega] at this
def RgsR (w : World) (F : Nat → Bool) (v i : Value) (wr : World) : Prop := ∃ k : Nat, k ≤ 64 ∧ i = .int .i64 k ∧ wr.ownsRow w.heap.size 72 2 v (regK F k).length (flat2 .i64 (regK F k)) ∧ Below w.heap.size w wr
set_option maxHeartbeats 2000000 in
theorem rregions_t (A : Option Addr) (c : Nat) (f : Nat → Bool) (w : World) (hr : Rd w 1 A 64 (bw (bl f))) :
    Calls Tryz.prog 61 #[.slice A 64 c, .bool true] w fun e w' => ∃ v, e = .returned v ∧ w'.ownsRow w.heap.size 72 2 v (regs (fun p => f p == true)).length (flat2 .i64 (regs (fun p => f p == true))) ∧ Below w.heap.size w w' := by
  obtain ⟨F, hF⟩ : ∃ F, F = fun p => f p == true := ⟨_, rfl⟩
  rw [← hF]
  have HF : Hid (∀ p, F p = (f p == true)) := Lib.hid (fun p => by rw [hF])
  clear hF
  obtain ⟨i0, hi, hz0, hz1, hz2⟩ := info_parts infoRgF
  go_enter Tryz.func61, Tryz.ntmps61
  go_wp2_with fail
  go_loopw [5, 6] (RgsR w F) (fun _ i _ => 64 - (intOf i).toNat)
  case atStart => exact ⟨0, by omega, rfl, World.ownsRow_nil _ _ _ _, Below.refl _ _⟩
  case round =>
    obtain ⟨k, hk, rfl, hown, hB⟩ := hrel
    have hkl := regK_len F k
    by_cases hlt : k < 64
    · obtain ⟨b, off, rfl, hb, hc⟩ := hr.bool (i := k) hlt
      rw [bl_get f k hlt] at hc
      have hcw := (hB.cell (p := ⟨b, off + k, none⟩) hb).trans hc
      have hkI : (k : Int) < 64 := by omega
      have HFk := HF.out k
      have Hno := Lib.hid (regK_no F k)
      have Hnew := Lib.hid (regK_new F k)
      rcases hF : F k with _ | _
      · rw [hF] at HFk
        have hu : f k = false := by revert HFk; cases f k <;> simp
        rw [hu] at hcw
        have Hr := Lib.hid (Hno.out hF)
        clear HFk Hno Hnew hF hu hc
        go_wp2_with fail
        go_roundw
        case rel => first | exact ⟨k + 1, by omega, by go_num, by rw [Hr.out]; exact hown, hB⟩ | ((repeat apply Exists.intro); exact ⟨⟨k + 1, by omega, by go_num, by rw [Hr.out]; exact hown, hB⟩, rfl⟩)
        case measure => simp [intOf]; omega
      · rw [hF] at HFk
        have hu : f k = true := by revert HFk; cases f k <;> simp
        rw [hu] at hcw
        by_cases hk0 : k = 0
        · have HN := Lib.hid (Hnew.out hF (.inl hk0))
          have Hk0 := Lib.hid hk0
          clear HFk Hno Hnew hF hu hc
          subst hk0
          simp only [Nat.add_zero] at hcw
          rw [show ((0 : Nat) : Int) = 0 from rfl] at HN
          go_wp2_with (at_builtin; refine wpList_append_own _ rfl _ _ 22 rfl w.heap.size 72 i0 (.agg #[.int .i64 0, .int .i64 0]) 2 16 Tryz.underlying22 hi hz0 hz1 hz2 rfl (by decide) _ _ _ rfl (hown.alloc _) ⟨wr.heap.size, 0, none⟩ 1 1 [.int .i64 0, .int .i64 0] rfl rfl (cell_two_new _ _ _ _) (by simp [Value.oneCell']) (by simp only [maxLen]; omega) (by omega) (by have := hB.size; simp; omega) ?_; intro v' w3 hown' hgrow _)
          have hown2 : w3.ownsRow w.heap.size 72 2 v' (regK F (0 + 1)).length (flat2 .i64 (regK F (0 + 1))) := by
            rw [HN.out, flat2_append, List.length_append]; exact hown'
          have hB3 : Below w.heap.size w w3 := (hB.alloc hB.size _).grown hgrow (by have := hB.size; simp; omega) (fun q e => (hown.lt q e).1)
          clear hown' hgrow hown hB
          go_roundw
          case rel => first | exact ⟨0 + 1, by omega, by go_num, hown2, hB3⟩ | ((repeat apply Exists.intro); exact ⟨⟨0 + 1, by omega, by go_num, hown2, hB3⟩, rfl⟩)
          case measure => first | (simp [intOf]; done) | (simp [intOf]; omega)
        · obtain ⟨q, rfl⟩ : ∃ q, k = q + 1 := ⟨k - 1, by omega⟩
          obtain ⟨b', off', he, hb', hc'⟩ := hr.bool (i := q) (by omega)
          injection he with he
          injection he with hq1 hq2
          subst hq1 hq2
          rw [bl_get f q (by omega)] at hc'
          have hcw' := (hB.cell (p := ⟨b, off + q, none⟩) hb).trans hc'
          have HFq := HF.out q
          rw [Nat.add_sub_cancel] at Hnew
          rcases hF' : F q with _ | _
          · rw [hF'] at HFq
            have hu' : f q = false := by revert HFq; cases f q <;> simp
            rw [hu'] at hcw'
            have HN := Lib.hid (Hnew.out hF (.inr hF'))
            rw [show ((q + 1 : Nat) : Int) = (q : Int) + 1 by omega] at HN
            clear HFk Hno Hnew hF hu hc HFq hF' hu' hc'
            go_wp2_with (at_builtin; refine wpList_append_own _ rfl _ _ 22 rfl w.heap.size 72 i0 (.agg #[.int .i64 0, .int .i64 0]) 2 16 Tryz.underlying22 hi hz0 hz1 hz2 rfl (by decide) _ _ _ rfl (hown.alloc _) ⟨wr.heap.size, 0, none⟩ 1 1 [.int .i64 ((q : Int) + 1), .int .i64 ((q : Int) + 1)] rfl rfl (cell_two_new _ _ _ _) (by simp [Value.oneCell']) (by simp only [maxLen]; omega) (by omega) (by have := hB.size; simp; omega) ?_; intro v' w3 hown' hgrow _)
            have hown2 : w3.ownsRow w.heap.size 72 2 v' (regK F (q + 1 + 1)).length (flat2 .i64 (regK F (q + 1 + 1))) := by
              rw [HN.out, flat2_append, List.length_append]; exact hown'
            have hB3 : Below w.heap.size w w3 := (hB.alloc hB.size _).grown hgrow (by have := hB.size; simp; omega) (fun q e => (hown.lt q e).1)
            clear hown' hgrow hown hB
            go_roundw
            case rel => first | exact ⟨q + 1 + 1, by omega, by go_num, hown2, hB3⟩ | ((repeat apply Exists.intro); exact ⟨⟨q + 1 + 1, by omega, by go_num, hown2, hB3⟩, rfl⟩)
            case measure => simp [intOf]; omega
          · rw [hF'] at HFq
            have hu' : f q = true := by revert HFq; cases f q <;> simp
            rw [hu'] at hcw'
            obtain ⟨l, a, hla⟩ := (regK_ok F (q + 1) (by omega)).2.2.2.1 ⟨by omega, by simpa using hF'⟩
            have HN := Lib.hid (regK_on F q l a _ hF hF' hla)
            rw [hla] at hown hkl
            rw [show ((q + 1 : Nat) : Int) = (q : Int) + 1 by omega] at HN
            have hnn : (l ++ [(a, ((q + 1 : Nat) : Int) - 1)]).length = l.length + 1 := by simp
            rw [hnn] at hown hkl
            obtain ⟨g, cap, rfl, hg1, hg2⟩ := hown.form (by omega)
            have hcs : wr.cell? ⟨g, l.length * 2 + 1, none⟩ = some (.int .i64 (((q + 1 : Nat) : Int) - 1)) := by
              rw [hown.cellAt _ (by omega)]; exact flat2_lastL _ _ _ _
            have hfr := hown.frozenAt (l.length * 2 + 1)
            have hst := (hown.stored (l.length * 2 + 1) (.int .i64 ((q : Int) + 1))).1
            rw [flat2_setL] at hst
            generalize (((q + 1 : Nat) : Int) - 1) = z at hcs
            have hgne : ¬ b = g := by omega
            clear HFk Hno Hnew hF hu hc HFq hF' hu' hc' hla hnn
            go_wp2_with fail
            have hst2 : (wr.setCell ⟨g, l.length * 2 + 1, none⟩ (.int .i64 ((q : Int) + 1))).ownsRow w.heap.size 72 2 (.slice (some ⟨g, 0, none⟩) (l.length + 1) cap) (regK F (q + 2)).length (flat2 .i64 (regK F (q + 2))) := by
              rw [HN.out, List.length_append]; exact hst
            have hB3 := hB.setCell (p := ⟨g, l.length * 2 + 1, none⟩) hg1 (.int .i64 ((q : Int) + 1))
            go_roundw
            case rel => first | exact ⟨q + 2, by omega, by go_num, hst2, hB3⟩ | ((repeat apply Exists.intro); exact ⟨⟨q + 2, by omega, by go_num, hst2, hB3⟩, rfl⟩)
            case measure => simp [intOf]; omega
    · obtain rfl : k = 64 := by omega
      go_wp2_with fail
      go_ret
      exact ⟨_, rfl, hown, hB⟩
set_option maxHeartbeats 2000000 in
theorem rregions_f (A : Option Addr) (c : Nat) (f : Nat → Bool) (w : World) (hr : Rd w 1 A 64 (bw (bl f))) :
    Calls Tryz.prog 61 #[.slice A 64 c, .bool false] w fun e w' => ∃ v, e = .returned v ∧ w'.ownsRow w.heap.size 72 2 v (regs (fun p => f p == false)).length (flat2 .i64 (regs (fun p => f p == false))) ∧ Below w.heap.size w w' := by
  obtain ⟨F, hF⟩ : ∃ F, F = fun p => f p == false := ⟨_, rfl⟩
  rw [← hF]
  have HF : Hid (∀ p, F p = (f p == false)) := Lib.hid (fun p => by rw [hF])
  clear hF
  obtain ⟨i0, hi, hz0, hz1, hz2⟩ := info_parts infoRgF
  go_enter Tryz.func61, Tryz.ntmps61
  go_wp2_with fail
  go_loopw [5, 6] (RgsR w F) (fun _ i _ => 64 - (intOf i).toNat)
  case atStart => exact ⟨0, by omega, rfl, World.ownsRow_nil _ _ _ _, Below.refl _ _⟩
  case round =>
    obtain ⟨k, hk, rfl, hown, hB⟩ := hrel
    have hkl := regK_len F k
    by_cases hlt : k < 64
    · obtain ⟨b, off, rfl, hb, hc⟩ := hr.bool (i := k) hlt
      rw [bl_get f k hlt] at hc
      have hcw := (hB.cell (p := ⟨b, off + k, none⟩) hb).trans hc
      have hkI : (k : Int) < 64 := by omega
      have HFk := HF.out k
      have Hno := Lib.hid (regK_no F k)
      have Hnew := Lib.hid (regK_new F k)
      rcases hF : F k with _ | _
      · rw [hF] at HFk
        have hu : f k = true := by revert HFk; cases f k <;> simp
        rw [hu] at hcw
        have Hr := Lib.hid (Hno.out hF)
        clear HFk Hno Hnew hF hu hc
        go_wp2_with fail
        go_roundw
        case rel => first | exact ⟨k + 1, by omega, by go_num, by rw [Hr.out]; exact hown, hB⟩ | ((repeat apply Exists.intro); exact ⟨⟨k + 1, by omega, by go_num, by rw [Hr.out]; exact hown, hB⟩, rfl⟩)
        case measure => simp [intOf]; omega
      · rw [hF] at HFk
        have hu : f k = false := by revert HFk; cases f k <;> simp
        rw [hu] at hcw
        by_cases hk0 : k = 0
        · have HN := Lib.hid (Hnew.out hF (.inl hk0))
          have Hk0 := Lib.hid hk0
          clear HFk Hno Hnew hF hu hc
          subst hk0
          simp only [Nat.add_zero] at hcw
          rw [show ((0 : Nat) : Int) = 0 from rfl] at HN
          go_wp2_with (at_builtin; refine wpList_append_own _ rfl _ _ 22 rfl w.heap.size 72 i0 (.agg #[.int .i64 0, .int .i64 0]) 2 16 Tryz.underlying22 hi hz0 hz1 hz2 rfl (by decide) _ _ _ rfl (hown.alloc _) ⟨wr.heap.size, 0, none⟩ 1 1 [.int .i64 0, .int .i64 0] rfl rfl (cell_two_new _ _ _ _) (by simp [Value.oneCell']) (by simp only [maxLen]; omega) (by omega) (by have := hB.size; simp; omega) ?_; intro v' w3 hown' hgrow _)
          have hown2 : w3.ownsRow w.heap.size 72 2 v' (regK F (0 + 1)).length (flat2 .i64 (regK F (0 + 1))) := by
            rw [HN.out, flat2_append, List.length_append]; exact hown'
          have hB3 : Below w.heap.size w w3 := (hB.alloc hB.size _).grown hgrow (by have := hB.size; simp; omega) (fun q e => (hown.lt q e).1)
          clear hown' hgrow hown hB
          go_roundw
          case rel => first | exact ⟨0 + 1, by omega, by go_num, hown2, hB3⟩ | ((repeat apply Exists.intro); exact ⟨⟨0 + 1, by omega, by go_num, hown2, hB3⟩, rfl⟩)
          case measure => first | (simp [intOf]; done) | (simp [intOf]; omega)
        · obtain ⟨q, rfl⟩ : ∃ q, k = q + 1 := ⟨k - 1, by omega⟩
          obtain ⟨b', off', he, hb', hc'⟩ := hr.bool (i := q) (by omega)
          injection he with he
          injection he with hq1 hq2
          subst hq1 hq2
          rw [bl_get f q (by omega)] at hc'
          have hcw' := (hB.cell (p := ⟨b, off + q, none⟩) hb).trans hc'
          have HFq := HF.out q
          rw [Nat.add_sub_cancel] at Hnew
          rcases hF' : F q with _ | _
          · rw [hF'] at HFq
            have hu' : f q = true := by revert HFq; cases f q <;> simp
            rw [hu'] at hcw'
            have HN := Lib.hid (Hnew.out hF (.inr hF'))
            rw [show ((q + 1 : Nat) : Int) = (q : Int) + 1 by omega] at HN
            clear HFk Hno Hnew hF hu hc HFq hF' hu' hc'
            go_wp2_with (at_builtin; refine wpList_append_own _ rfl _ _ 22 rfl w.heap.size 72 i0 (.agg #[.int .i64 0, .int .i64 0]) 2 16 Tryz.underlying22 hi hz0 hz1 hz2 rfl (by decide) _ _ _ rfl (hown.alloc _) ⟨wr.heap.size, 0, none⟩ 1 1 [.int .i64 ((q : Int) + 1), .int .i64 ((q : Int) + 1)] rfl rfl (cell_two_new _ _ _ _) (by simp [Value.oneCell']) (by simp only [maxLen]; omega) (by omega) (by have := hB.size; simp; omega) ?_; intro v' w3 hown' hgrow _)
            have hown2 : w3.ownsRow w.heap.size 72 2 v' (regK F (q + 1 + 1)).length (flat2 .i64 (regK F (q + 1 + 1))) := by
              rw [HN.out, flat2_append, List.length_append]; exact hown'
            have hB3 : Below w.heap.size w w3 := (hB.alloc hB.size _).grown hgrow (by have := hB.size; simp; omega) (fun q e => (hown.lt q e).1)
            clear hown' hgrow hown hB
            go_roundw
            case rel => first | exact ⟨q + 1 + 1, by omega, by go_num, hown2, hB3⟩ | ((repeat apply Exists.intro); exact ⟨⟨q + 1 + 1, by omega, by go_num, hown2, hB3⟩, rfl⟩)
            case measure => simp [intOf]; omega
          · rw [hF'] at HFq
            have hu' : f q = false := by revert HFq; cases f q <;> simp
            rw [hu'] at hcw'
            obtain ⟨l, a, hla⟩ := (regK_ok F (q + 1) (by omega)).2.2.2.1 ⟨by omega, by simpa using hF'⟩
            have HN := Lib.hid (regK_on F q l a _ hF hF' hla)
            rw [hla] at hown hkl
            rw [show ((q + 1 : Nat) : Int) = (q : Int) + 1 by omega] at HN
            have hnn : (l ++ [(a, ((q + 1 : Nat) : Int) - 1)]).length = l.length + 1 := by simp
            rw [hnn] at hown hkl
            obtain ⟨g, cap, rfl, hg1, hg2⟩ := hown.form (by omega)
            have hcs : wr.cell? ⟨g, l.length * 2 + 1, none⟩ = some (.int .i64 (((q + 1 : Nat) : Int) - 1)) := by
              rw [hown.cellAt _ (by omega)]; exact flat2_lastL _ _ _ _
            have hfr := hown.frozenAt (l.length * 2 + 1)
            have hst := (hown.stored (l.length * 2 + 1) (.int .i64 ((q : Int) + 1))).1
            rw [flat2_setL] at hst
            generalize (((q + 1 : Nat) : Int) - 1) = z at hcs
            have hgne : ¬ b = g := by omega
            clear HFk Hno Hnew hF hu hc HFq hF' hu' hc' hla hnn
            go_wp2_with fail
            have hst2 : (wr.setCell ⟨g, l.length * 2 + 1, none⟩ (.int .i64 ((q : Int) + 1))).ownsRow w.heap.size 72 2 (.slice (some ⟨g, 0, none⟩) (l.length + 1) cap) (regK F (q + 2)).length (flat2 .i64 (regK F (q + 2))) := by
              rw [HN.out, List.length_append]; exact hst
            have hB3 := hB.setCell (p := ⟨g, l.length * 2 + 1, none⟩) hg1 (.int .i64 ((q : Int) + 1))
            go_roundw
            case rel => first | exact ⟨q + 2, by omega, by go_num, hst2, hB3⟩ | ((repeat apply Exists.intro); exact ⟨⟨q + 2, by omega, by go_num, hst2, hB3⟩, rfl⟩)
            case measure => simp [intOf]; omega
    · obtain rfl : k = 64 := by omega
      go_wp2_with fail
      go_ret
      exact ⟨_, rfl, hown, hB⟩
theorem rregions_any (A : Option Addr) (c : Nat) (f : Nat → Bool) (inn : Bool) (w : World) (hr : Rd w 1 A 64 (bw (bl f))) :
    Calls Tryz.prog 61 #[.slice A 64 c, .bool inn] w fun e w' => ∃ v, e = .returned v ∧ w'.ownsRow w.heap.size 72 2 v (regs (fun p => f p == inn)).length (flat2 .i64 (regs (fun p => f p == inn))) ∧ Below w.heap.size w w' := by
  cases inn
  · exact rregions_f A c f w hr
  · exact rregions_t A c f w hr
end Go.Proofs.YtpkgfkhaiifooaaGreatDoor
/- Whether a page is mapped, by the reference. -/
namespace Go.Proofs.YtpkgfkhaiifooaaGreatDoor
open Go Go.Proofs Go.RowKit
set_option linter.unusedSimpArgs false
set_option linter.unusedVariables false
set_option maxRecDepth 100000

set_option maxHeartbeats 1000000 in
theorem rHas_any (A : Option Addr) (n c : Nat) (rs : List (Int × Int)) (page : Int) (w : World) (hr : Rd w 2 A n (flat2 .i64 rs)) (hn : n ≤ 1000000) :
    Calls Tryz.prog 57 #[.slice A n c, .int .i64 page] w fun e w' => e = .returned (.tuple #[.bool (hasRg rs page).1, .int .i64 (hasRg rs page).2]) ∧ Below w.heap.size w w' := by
  have HC := Lib.hid (rCheckR_any A n c rs w hr hn)
  by_cases hE : (regE rs).1 = 0
  · have hv := regE_zero rs hE
    rw [hE] at HC
    by_cases hp : 0 ≤ page ∧ page < 64
    · obtain ⟨p, rfl⟩ : ∃ p : Nat, page = p := ⟨page.toNat, by omega⟩
      rw [hasRg_ok rs p hv (by omega)]
      have HS := Lib.hid (fun w1 h => rset_any A n c rs w1 h hn hv)
      obtain ⟨h0, h1⟩ := hp
      have h2 : p < 64 := by omega
      have HG := Lib.hid (bl_get (hasP rs) p h2)
      clear hE
      go_enter Tryz.func57, Tryz.ntmps57
      go_wp2_with (go_at_call 55; refine HC.out.mono ?_; rintro e w1 ⟨rfl, hb1⟩)
      go_at_call 59
      refine (HS.out _ (hr.below hb1 (Nat.le_refl _))).mono ?_
      rintro e w2 ⟨v, rfl, hown, hb2⟩
      obtain ⟨g, cap, rfl, hg1, hg2⟩ := hown.form (by omega)
      have hc := own_boolAt hown (i := p) h2
      rw [HG.out] at hc
      go_wp2_with fail
      go_ret2
      exact ⟨rfl, bnext hb1 hb2⟩
    · have hx : hasRg rs page = (false, 2) := by unfold hasRg; rw [if_neg (by simp [hE]), if_pos (by omega)]
      rw [hx]
      rcases (show page < 0 ∨ 64 ≤ page by omega) with h | h
      all_goals
        clear hE hp hx hv
        go_enter Tryz.func57, Tryz.ntmps57
        go_wp2_with (go_at_call 55; refine HC.out.mono ?_; rintro e w1 ⟨rfl, hb1⟩)
        go_ret2
        exact ⟨rfl, hb1⟩
  · have hx : hasRg rs page = (false, (regE rs).1) := by unfold hasRg; rw [if_pos hE]
    rw [hx]
    have hE' : ((regE rs).1 == 0) = false := by simpa using hE
    have hE2 : ((regE rs).1 != 0) = true := by simpa using hE
    clear hE hx
    generalize (regE rs).1 = z at *
    generalize (regE rs).2 = z2 at *
    go_enter Tryz.func57, Tryz.ntmps57
    go_wp2_with (go_at_call 55; refine HC.out.mono ?_; rintro e w1 ⟨rfl, hb1⟩)
    go_ret2
    exact ⟨rfl, hb1⟩
end Go.Proofs.YtpkgfkhaiifooaaGreatDoor
