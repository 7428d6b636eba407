/- Several texts in one. -/
import Derived.Test.YtomndlnfidkdcaaDoorQB
/- What the laws of chapter 26 call: contracts on sharings that a call returned; large, p, s, of, decides, drops. -/
namespace Go.Proofs.YtomndlnfidkdcaaDoor
open Go Go.Proofs Go.RowKit Go.Maps
set_option linter.unusedSimpArgs false
set_option linter.unusedVariables false
set_option maxRecDepth 100000

/-- As small as the functions take it. -/
structure FitS (t : Sh) : Prop where
  small : shsmall t
  rows : ∀ l ∈ t, l.length ≤ 70
  few : t.length ≤ 11
theorem ShV.fit {t : Sh} (h : ShV t) : FitS t := ⟨h.small, fun l hl => by have := h.row l hl; omega, by have := h.len; omega⟩
theorem FitS.nil : FitS [] := ⟨fun l hl => by simp at hl, fun l hl => by simp at hl, by simp⟩
theorem InS.fit {w : World} {A : Option Addr} {n : Nat} {t : Sh} (h : InS w A n t) : FitS t := ⟨h.small, h.rows, by rw [h.rr.len]; exact h.few⟩
theorem fit_fork (t : Sh) (table : Int) : FitS (forkR t table).1 := by
  by_cases h : forkE t table = 0
  · exact (fork_valid h).fit
  · unfold forkR; rw [if_pos h]; exact FitS.nil
theorem fit_take (t : Sh) (table page : Int) : FitS (takeR t table page).1 := by
  by_cases h : takeE t table page = 0
  · exact (take_valid h).fit
  · unfold takeR; rw [if_pos h]; exact FitS.nil
theorem fit_brk (t : Sh) (table page frame : Int) : FitS (brkR t table page frame).1 := by
  by_cases h : brkE t table page frame = 0
  · exact (brk_valid h).fit
  · unfold brkR; rw [if_pos h]; exact FitS.nil
theorem fit_drop (t : Sh) (table page : Int) : FitS (dropR t table page).1 := by
  by_cases h : askS t table page = 0
  · exact (drop_valid h).fit
  · unfold dropR; rw [if_pos h]; exact FitS.nil
theorem fit_out (t : Sh) (frame slot : Int) : FitS (outR t frame slot).1 := by
  by_cases h : outE2 t frame slot = 0
  · exact (out_valid h).fit
  · unfold outR; rw [if_pos h]; exact FitS.nil
theorem ShO.ins {w : World} {v : Value} {t : Sh} (h : ShO w v t) (hf : FitS t) : ∃ A c, v = .slice A t.length c ∧ InS w A t.length t ∧ t.length ≤ c := by
  obtain ⟨A, c, e, hr, hc⟩ := h
  exact ⟨A, c, e, ⟨hr, hf.small, hf.rows, hf.few⟩, hc⟩
theorem InS.sho {w : World} {A : Option Addr} {n : Nat} {t : Sh} (h : InS w A n t) {c : Nat} (hc : n ≤ c) : ShO w (.slice A n c) t := by
  have e := h.rr.len
  subst e
  exact ⟨A, c, rfl, h.rr, hc⟩
theorem FitS.small1000 {t : Sh} (h : FitS t) : ∀ l ∈ t, l.length ≤ 1000 := fun l hl => by have := h.rows l hl; omega
theorem oCheck_any (v : Value) (t : Sh) (w : World) (h : ShO w v t) (hf : FitS t) (hL : LayOK w) :
    Calls Tryd.prog 24 #[v] w fun e w' => e = .returned (.tuple #[.int .i64 (shE t).1, .int .i64 (shE t).2]) ∧ Below w.heap.size w w' := by
  obtain ⟨A, c, rfl, hi, _⟩ := h.ins hf
  exact cCheck_any A _ c t  w hi hL
theorem oDecide_any (v : Value) (t : Sh) (table : Int) (page : Int) (w : World) (h : ShO w v t) (hf : FitS t) (hL : LayOK w) :
    Calls Tryd.prog 29 #[v, .int .i64 table, .int .i64 page] w fun e w' => e = .returned (.tuple #[.int .i64 (decR t table page).1, .int .i64 (decR t table page).2]) ∧ Below w.heap.size w w' := by
  obtain ⟨A, c, rfl, hi, _⟩ := h.ins hf
  exact Decide_any A _ c t table page w hi hL
theorem oCounts_any (v : Value) (t : Sh) (w : World) (h : ShO w v t) (hf : FitS t) (hL : LayOK w) :
    Calls Tryd.prog 26 #[v] w fun e w' => CntR t w w' e := by
  obtain ⟨A, c, rfl, hi, _⟩ := h.ins hf
  exact Counts_any A _ c t  w hi hL
theorem oSharers_any (v : Value) (t : Sh) (table : Int) (page : Int) (w : World) (h : ShO w v t) (hf : FitS t) (hL : LayOK w) :
    Calls Tryd.prog 31 #[v, .int .i64 table, .int .i64 page] w fun e w' => ShrR (shR t table page).1 (shR t table page).2 w w' e := by
  obtain ⟨A, c, rfl, hi, _⟩ := h.ins hf
  exact Sharers_any A _ c t table page w hi hL
theorem oFork_any (v : Value) (t : Sh) (table : Int) (w : World) (h : ShO w v t) (hf : FitS t) (hL : LayOK w) :
    Calls Tryd.prog 13 #[v, .int .i64 table] w fun e w' => TkO (forkR t table) w w' e := by
  obtain ⟨A, c, rfl, hi, _⟩ := h.ins hf
  exact Fork_any A _ c t table w hi hL
theorem oTake_any (v : Value) (t : Sh) (table : Int) (page : Int) (w : World) (h : ShO w v t) (hf : FitS t) (hL : LayOK w) :
    Calls Tryd.prog 16 #[v, .int .i64 table, .int .i64 page] w fun e w' => TkO (takeR t table page) w w' e := by
  obtain ⟨A, c, rfl, hi, _⟩ := h.ins hf
  exact Take_any A _ c t table page w hi hL
theorem oBreak_any (v : Value) (t : Sh) (table : Int) (page : Int) (frame : Int) (w : World) (h : ShO w v t) (hf : FitS t) (hL : LayOK w) :
    Calls Tryd.prog 18 #[v, .int .i64 table, .int .i64 page, .int .i64 frame] w fun e w' => BrkO (brkR t table page frame) w w' e := by
  obtain ⟨A, c, rfl, hi, _⟩ := h.ins hf
  exact Break_any A _ c t table page frame w hi hL
theorem oDrop_any (v : Value) (t : Sh) (table : Int) (page : Int) (w : World) (h : ShO w v t) (hf : FitS t) (hL : LayOK w) :
    Calls Tryd.prog 20 #[v, .int .i64 table, .int .i64 page] w fun e w' => DropO (dropR t table page) w w' e := by
  obtain ⟨A, c, rfl, hi, _⟩ := h.ins hf
  exact Drop_any A _ c t table page w hi hL
theorem oOut_any (v : Value) (t : Sh) (frame : Int) (slot : Int) (w : World) (h : ShO w v t) (hf : FitS t) (hL : LayOK w) :
    Calls Tryd.prog 22 #[v, .int .i64 frame, .int .i64 slot] w fun e w' => BrkO (outR t frame slot) w w' e := by
  obtain ⟨A, c, rfl, hi, _⟩ := h.ins hf
  exact Out_any A _ c t frame slot w hi hL
theorem oSame (v1 v2 : Value) (t : Sh) (w : World) (h1 : ShO w v1 t) (h2 : ShO w v2 t) (hf : FitS t) :
    Calls Tryd.prog 15 #[v1, v2] w fun e w' => e = .returned (.bool true) ∧ Below w.heap.size w w' := by
  obtain ⟨A, c, rfl, ha, _⟩ := h1.ins hf
  obtain ⟨B, d, rfl, hb, _⟩ := h2.ins hf
  exact SameShr_eq A B _ c d t w ha.rr hb.rr hf.small hf.small1000 (by have := hf.few; omega)

set_option maxHeartbeats 1000000 in
theorem p_any (n : Int) (b : Bool) (w : World) (h0 : 0 ≤ n) (h1 : n ≤ 255) (hL : LayOK w) :
    Calls Tryd.prog 34 #[.int .i64 n, .bool b] w fun e w' => e = .returned (.int .u64 (pW n b : Nat)) ∧ Below w.heap.size w w' := by
  have hp := (packE_val (1, n, b, !b, false) (chk_own n b (!b) false h0 h1 (by cases b <;> decide))).1
  have HP := Lib.hid hp
  clear hp h0 h1
  go_enter Tryd.func34, Tryd.ntmps34
  go_wp2_with fail
  refine (Pack_any 1 n b (!b) false _ hL).mono ?_
  rintro e w1 ⟨he, hb1⟩
  rw [HP.out] at he
  simp only at he
  subst he
  go_wp2
  go_ret
  exact ⟨rfl, hb1⟩
set_option maxHeartbeats 1000000 in
theorem s_any (n : Int) (w : World) (h0 : 0 ≤ n) (h1 : n ≤ 255) (hL : LayOK w) :
    Calls Tryd.prog 35 #[.int .i64 n] w fun e w' => e = .returned (.int .u64 (sW n : Nat)) ∧ Below w.heap.size w w' := by
  have hp := (packE_val (2, n, false, false, false) (chk_slot n h0 h1)).1
  have HP := Lib.hid hp
  clear hp h0 h1
  go_enter Tryd.func35, Tryd.ntmps35
  go_wp2_with fail
  refine (Pack_any 2 n false false false _ hL).mono ?_
  rintro e w1 ⟨he, hb1⟩
  rw [HP.out] at he
  simp only at he
  subst he
  go_wp2
  go_ret
  exact ⟨rfl, hb1⟩
theorem of_any (v : Value) (w : World) :
    Calls Tryd.prog 33 #[v] w fun e w' => e = .returned v ∧ w = w' := by
  go_enter Tryd.func33, Tryd.ntmps33
  go_wp2
  go_ret
  exact ⟨rfl, rfl⟩
set_option maxHeartbeats 1000000 in
theorem decides_true (v : Value) (t : Sh) (table page want : Int) (w : World) (h : ShO w v t) (hf : FitS t) (hL : LayOK w) (hd : decR t table page = (want, 0)) :
    Calls Tryd.prog 36 #[v, .int .i64 table, .int .i64 page, .int .i64 want] w fun e w' => e = .returned (.bool true) ∧ Below w.heap.size w w' := by
  have hc := oDecide_any v t table page w h hf hL
  rw [hd] at hc
  have HC := Lib.hid hc
  clear hc hd h hf hL
  go_enter Tryd.func36, Tryd.ntmps36
  go_wp2_with fail
  refine HC.out.mono ?_
  rintro e w1 ⟨rfl, hb1⟩
  simp only
  go_wp2
  go_ret
  exact ⟨by simp, hb1⟩
set_option maxHeartbeats 2000000 in
theorem drops_true (v : Value) (t u : Sh) (frame slot : Int) (w : World) (h : ShO w v t) (hf : FitS t) (hL : LayOK w) (hd : dropR t 0 0 = (u, frame, slot, 0)) (hl : u.length = t.length) (hu : u[0]? = some [0]) :
    Calls Tryd.prog 37 #[v, .int .i64 frame, .int .i64 slot] w fun e w' => e = .returned (.bool true) ∧ Below w.heap.size w w' := by
  have hc := oDrop_any v t 0 0 w h hf hL
  rw [hd] at hc
  obtain ⟨A, c, rfl, hi, _⟩ := h.ins hf
  obtain ⟨N, hN⟩ : ∃ N, N = t.length := ⟨_, rfl⟩
  rw [← hN] at hl hc ⊢
  have h0N : 0 < N := by
    rw [← hl]
    exact (List.getElem?_eq_some_iff.1 hu).1
  have HU := Lib.hid hu
  have HLN := Lib.hid hl
  have HC := Lib.hid hc
  clear hc hd h hf hL hi hN hl hu
  go_enter Tryd.func37, Tryd.ntmps37
  go_wp2_with fail
  refine HC.out.mono ?_
  rintro e w1 ⟨⟨v1, rfl, A1, c1, rfl, hR, _⟩, hb1⟩
  simp only at hR ⊢
  obtain ⟨b, off, B, cB, rfl, hbl, hcell, hRl⟩ := hR.row HU.out
  obtain ⟨bR, ofR, hB, hbR, hcc⟩ := hRl.2 (by simp)
  have hc0 := hcc 0 (.int .u64 0) rfl
  subst hB
  simp at hcell hc0
  rw [HLN.out]
  have hN1 : (0 : Int) < (N : Int) := by omega
  clear hR hRl hcc
  go_wp2
  go_ret
  exact ⟨by simp, hb1⟩

/-- What large returns. -/
def LrgR (t : Sh) (w w' : World) (e : Ending) : Prop := ∃ b : Bool, e = .returned (.bool b) ∧ (b = false → (∀ l ∈ t, l.length ≤ 70) ∧ t.length ≤ 10) ∧ w = w'
def LrgV (t : Sh) (n : Nat) (i : Value) : Prop := ∃ k : Nat, k ≤ n ∧ k ≤ 11 ∧ i = .int .i64 k ∧ ∀ j, j < k → (rowAt t j).length ≤ 70
set_option maxHeartbeats 2000000 in
theorem large_any (A : Option Addr) (n c : Nat) (t : Sh) (w : World) (h : RR uw 1 w A n t) (hn : n ≤ maxLen) :
    Calls Tryd.prog 10 #[.slice A n c] w fun e w' => LrgR t w w' e := by
  unfold maxLen at hn
  have HIN := Lib.hid h
  have Hlen := Lib.hid h.len
  clear h
  go_enter Tryd.func10, Tryd.ntmps10
  go_wp2
  go_loop [3] (LrgV t n) (fun i => n - (intOf i).toNat)
  case atStart => exact ⟨0, Nat.zero_le _, by omega, rfl, fun j hj => by omega⟩
  case round =>
    obtain ⟨k, hk, hk11, rfl, hrows⟩ := hrel
    have HROWS := Lib.hid hrows
    clear hrows
    by_cases hlt : k < n
    · by_cases hlt11 : k < 11
      · have hkt : k < t.length := by rw [Hlen.out]; exact hlt
        obtain ⟨b, off, B, cB, rfl, hbl, hcell, hRl⟩ := HIN.out.row (sh_at hkt)
        obtain ⟨m, hm⟩ : ∃ m, m = (rowAt t k).length := ⟨_, rfl⟩
        rw [← hm] at hcell
        have HM := Lib.hid hm
        have hlt2 : (k : Int) < (n : Int) := by omega
        have hlt3 : (k : Int) < 11 := by omega
        clear hRl hm hkt
        by_cases h70 : 70 < m
        · have h70' : (70 : Int) < (m : Int) := by omega
          go_wp2
          go_ret
          exact ⟨true, rfl, fun e => by simp at e, rfl⟩
        · have h70' : ¬ (70 : Int) < (m : Int) := by omega
          go_wp2
          go_round
          case rel => exact ⟨k + 1, by omega, by omega, by go_num, fun j hj => by
            rcases Nat.lt_or_ge j k with h1 | h1
            · exact HROWS.out j h1
            · rw [show j = k by omega, ← HM.out]; omega⟩
          case measure => simp [intOf]; omega
      · have hk1 : k = 11 := by omega
        have hlt2 : (k : Int) < (n : Int) := by omega
        have hlt3 : ¬ (k : Int) < 11 := by omega
        have h10 : (10 : Int) < (n : Int) := by omega
        go_wp2
        go_ret
        exact ⟨true, rfl, fun e => by simp at e, rfl⟩
    · have hlt2 : ¬ (k : Int) < (n : Int) := by omega
      have hkn : k = n := by omega
      by_cases h10 : n ≤ 10
      · have h10' : ¬ (10 : Int) < (n : Int) := by omega
        have hres : (∀ l ∈ t, l.length ≤ 70) ∧ t.length ≤ 10 := ⟨fun l hl => by
          obtain ⟨i, hi, rfl⟩ := mem_rowAt hl
          exact HROWS.out i (by rw [Hlen.out] at hi; omega), by rw [Hlen.out]; exact h10⟩
        have HRES := Lib.hid hres
        clear hkn hres
        go_wp2
        go_ret
        exact ⟨false, rfl, fun _ => HRES.out, rfl⟩
      · have h10' : (10 : Int) < (n : Int) := by omega
        clear hkn
        go_wp2
        go_ret
        exact ⟨true, rfl, fun e => by simp at e, rfl⟩
end Go.Proofs.YtomndlnfidkdcaaDoor
/- headgatelaw26.awake returns true. -/
namespace Go.Proofs.YtomndlnfidkdcaaDoor
open Go Go.Proofs Go.RowKit Go.Maps
set_option linter.unusedSimpArgs false
set_option linter.unusedVariables false
set_option maxRecDepth 100000

theorem rd_row (w : World) (G : Nat) (l : List Nat) (cs : Array Value) (h : cs.toList = uw l) (hG : G = w.heap.size) : Rd (w.alloc (.cells cs 52)) 1 (some ⟨G, 0, none⟩) l.length (uw l) := by
  subst hG
  have h1 := Rd.new (w := w) (sz := 1) (n := l.length) cs 52 (by have h2 := congrArg List.length h; rw [uw_len] at h2; simpa using h2)
  rwa [h] at h1
theorem sho_one (w : World) (G : Nat) {B : Option Addr} {k : Nat} {l : List Nat} (h : Rd w 1 B k (uw l)) (hG : G = w.heap.size) : ShO (w.alloc (.cells #[.slice B k k] 54)) (.slice (some ⟨G, 0, none⟩) 1 1) [l] := by
  subst hG
  have hk : k = l.length := by have h2 := h.1; rw [uw_len] at h2; omega
  subst hk
  refine ⟨_, _, rfl, ⟨rfl, [.slice B l.length l.length], Rd.new (w := w) (sz := 1) (n := 1) #[.slice B l.length l.length] _ rfl, fun i m hm => ?_⟩, Nat.le_refl _⟩
  match i, hm with
  | 0, hm => simp at hm; subst hm; exact ⟨B, _, rfl, h.alloc _⟩
theorem sho_two (w : World) (G : Nat) {B C : Option Addr} {k j : Nat} {l m : List Nat} (h : Rd w 1 B k (uw l)) (h' : Rd w 1 C j (uw m)) (hG : G = w.heap.size) : ShO (w.alloc (.cells #[.slice B k k, .slice C j j] 54)) (.slice (some ⟨G, 0, none⟩) 2 2) [l, m] := by
  subst hG
  have hk : k = l.length := by have h2 := h.1; rw [uw_len] at h2; omega
  have hj : j = m.length := by have h2 := h'.1; rw [uw_len] at h2; omega
  subst hk hj
  refine ⟨_, _, rfl, ⟨rfl, [.slice B l.length l.length, .slice C m.length m.length], Rd.new (w := w) (sz := 1) (n := 2) #[.slice B l.length l.length, .slice C m.length m.length] _ rfl, fun i q hq => ?_⟩, Nat.le_refl _⟩
  match i, hq with
  | 0, hq => simp at hq; subst hq; exact ⟨B, _, rfl, h.alloc _⟩
  | 1, hq => simp at hq; subst hq; exact ⟨C, _, rfl, h'.alloc _⟩
/-- Small enough, by computing. -/
def fitB (t : Sh) : Bool := t.all (fun l => decide (l.length ≤ 70) && l.all fun x => decide (x < 18446744073709551616)) && decide (t.length ≤ 11)
theorem fit_of {t : Sh} (h : fitB t = true) : FitS t := by
  unfold fitB at h
  simp only [Bool.and_eq_true, List.all_eq_true, decide_eq_true_eq] at h
  exact ⟨fun l hl x hx => (h.1 l hl).2 x hx, fun l hl => (h.1 l hl).1, h.2⟩
set_option maxHeartbeats 8000000 in
theorem awake_true (w : World) (hL : LayOK w) : Calls Tryd.prog 11 #[] w fun e w' => e = .returned (.bool true) ∧ Below w.heap.size w w' := by
  have hB0 := Below.refl w.heap.size w
  have FA : Hid (fitB [[pW 1 true, 0, sW 3]] = true) := Lib.hid (by decide +kernel)
  have FA1 : Hid (fitB [[pW 1 false, 0, sW 3], [pW 1 false, 0, sW 3]] = true) := Lib.hid (by decide +kernel)
  have FB : Hid (fitB [[pW 1 false], [pW 1 false]] = true) := Lib.hid (by decide +kernel)
  have FB1 : Hid (fitB [[pW 1 false], [pW 7 true]] = true) := Lib.hid (by decide +kernel)
  have FC : Hid (fitB [[pW 1 false], [pW 1 false, pW 2 true]] = true) := Lib.hid (by decide +kernel)
  have FC1 : Hid (fitB [[sW 5], [sW 5, pW 2 true]] = true) := Lib.hid (by decide +kernel)
  have FD : Hid (fitB [[0, pW 1 true, pW 2 false, sW 3], [pW 2 false]] = true) := Lib.hid (by decide +kernel)
  have HA : Hid (forkR [[pW 1 true, 0, sW 3]] 0 = ([[pW 1 false, 0, sW 3], [pW 1 false, 0, sW 3]], 0)) := Lib.hid (by decide +kernel)
  have HBk : Hid (brkR [[pW 1 false], [pW 1 false]] 1 0 7 = ([[pW 1 false], [pW 7 true]], 1, 0)) := Lib.hid (by decide +kernel)
  have HCo : Hid (outR [[pW 1 false], [pW 1 false, pW 2 true]] 1 5 = ([[sW 5], [sW 5, pW 2 true]], 2, 0)) := Lib.hid (by decide +kernel)
  have HD : Hid (decR [[0, pW 1 true, pW 2 false, sW 3], [pW 2 false]] 0 2 = (4, 0)) := Lib.hid (by decide +kernel)
  go_enter Tryd.func11, Tryd.ntmps11
  go_wp2_with fail
  refine (p_any 1 true _ (by decide) (by decide) hL).mono ?_
  rintro e w1 ⟨rfl, hb1⟩
  replace hL := hL.below hb1
  replace hB0 := bnext hB0 hb1
  clear hb1
  go_wp2_with fail
  refine (s_any 3 _ (by decide) (by decide) hL).mono ?_
  rintro e w2 ⟨rfl, hb2⟩
  replace hL := hL.below hb2
  replace hB0 := bnext hB0 hb2
  clear hb2
  -- row
  go_wp2_with fail
  have hR1 : Rd (w2.alloc (.cells #[.int .u64 (pW 1 true : Nat), .int .u64 0, .int .u64 (sW 3 : Nat)] 52)) 1 (some ⟨w2.heap.size, 0, none⟩) 3 (uw [pW 1 true, 0, sW 3]) := rd_row w2 w2.heap.size [pW 1 true, 0, sW 3] #[.int .u64 (pW 1 true : Nat), .int .u64 0, .int .u64 (sW 3 : Nat)] rfl (by simp)
  replace hL := hL.alloc (.cells #[.int .u64 (pW 1 true : Nat), .int .u64 0, .int .u64 (sW 3 : Nat)] 52)
  replace hB0 := balloc hB0 (.cells #[.int .u64 (pW 1 true : Nat), .int .u64 0, .int .u64 (sW 3 : Nat)] 52)
  have hS2 : ShO ((w2.alloc (.cells #[.int .u64 (pW 1 true : Nat), .int .u64 0, .int .u64 (sW 3 : Nat)] 52)).alloc (.cells #[.slice (some ⟨w2.heap.size, 0, none⟩) 3 3] 54)) (.slice (some ⟨(w2.heap.size + 1), 0, none⟩) 1 1) [[pW 1 true, 0, sW 3]] := sho_one (w2.alloc (.cells #[.int .u64 (pW 1 true : Nat), .int .u64 0, .int .u64 (sW 3 : Nat)] 52)) (w2.heap.size + 1) hR1 (by simp)
  replace hR1 := hR1.alloc (.cells #[.slice (some ⟨w2.heap.size, 0, none⟩) 3 3] 54)
  replace hL := hL.alloc (.cells #[.slice (some ⟨w2.heap.size, 0, none⟩) 3 3] 54)
  replace hB0 := balloc hB0 (.cells #[.slice (some ⟨w2.heap.size, 0, none⟩) 3 3] 54)
  generalize ((w2.alloc (.cells #[.int .u64 (pW 1 true : Nat), .int .u64 0, .int .u64 (sW 3 : Nat)] 52)).alloc (.cells #[.slice (some ⟨w2.heap.size, 0, none⟩) 3 3] 54)) = w3 at *
  refine (of_any _ _).mono ?_
  rintro e w' ⟨rfl, rfl⟩
  clear hR1
  go_wp2_with fail
  have hcall := oFork_any _ _ 0 _ hS2 (fit_of FA.out) hL
  rw [HA.out] at hcall
  refine hcall.mono ?_
  clear hcall
  rintro e w4 ⟨⟨vVA, rfl, hVA⟩, hb4⟩
  simp only at hVA ⊢
  clear hS2
  replace hL := hL.below hb4
  replace hB0 := bnext hB0 hb4
  clear hb4
  go_wp2_with fail
  refine (p_any 1 false _ (by decide) (by decide) hL).mono ?_
  rintro e w5 ⟨rfl, hb5⟩
  replace hVA := hVA.to hb5
  replace hL := hL.below hb5
  replace hB0 := bnext hB0 hb5
  clear hb5
  -- row
  go_wp2_with fail
  have hR3 : Rd (w5.alloc (.cells #[.int .u64 (pW 1 false : Nat)] 52)) 1 (some ⟨w5.heap.size, 0, none⟩) 1 (uw [pW 1 false]) := rd_row w5 w5.heap.size [pW 1 false] #[.int .u64 (pW 1 false : Nat)] rfl (by simp)
  replace hVA := hVA.to (balloc (Below.refl _ _) (.cells #[.int .u64 (pW 1 false : Nat)] 52))
  replace hL := hL.alloc (.cells #[.int .u64 (pW 1 false : Nat)] 52)
  replace hB0 := balloc hB0 (.cells #[.int .u64 (pW 1 false : Nat)] 52)
  generalize (w5.alloc (.cells #[.int .u64 (pW 1 false : Nat)] 52)) = w6 at *
  refine (p_any 1 false _ (by decide) (by decide) hL).mono ?_
  rintro e w7 ⟨rfl, hb7⟩
  replace hR3 := hR3.below hb7 (Nat.le_refl _)
  replace hVA := hVA.to hb7
  replace hL := hL.below hb7
  replace hB0 := bnext hB0 hb7
  clear hb7
  -- row
  go_wp2_with fail
  have hR4 : Rd (w7.alloc (.cells #[.int .u64 (pW 1 false : Nat)] 52)) 1 (some ⟨w7.heap.size, 0, none⟩) 1 (uw [pW 1 false]) := rd_row w7 w7.heap.size [pW 1 false] #[.int .u64 (pW 1 false : Nat)] rfl (by simp)
  replace hR3 := hR3.alloc (.cells #[.int .u64 (pW 1 false : Nat)] 52)
  replace hVA := hVA.to (balloc (Below.refl _ _) (.cells #[.int .u64 (pW 1 false : Nat)] 52))
  replace hL := hL.alloc (.cells #[.int .u64 (pW 1 false : Nat)] 52)
  replace hB0 := balloc hB0 (.cells #[.int .u64 (pW 1 false : Nat)] 52)
  have hS5 : ShO ((w7.alloc (.cells #[.int .u64 (pW 1 false : Nat)] 52)).alloc (.cells #[.slice (some ⟨w5.heap.size, 0, none⟩) 1 1, .slice (some ⟨w7.heap.size, 0, none⟩) 1 1] 54)) (.slice (some ⟨(w7.heap.size + 1), 0, none⟩) 2 2) [[pW 1 false], [pW 1 false]] := sho_two (w7.alloc (.cells #[.int .u64 (pW 1 false : Nat)] 52)) (w7.heap.size + 1) hR3 hR4 (by simp)
  replace hR3 := hR3.alloc (.cells #[.slice (some ⟨w5.heap.size, 0, none⟩) 1 1, .slice (some ⟨w7.heap.size, 0, none⟩) 1 1] 54)
  replace hR4 := hR4.alloc (.cells #[.slice (some ⟨w5.heap.size, 0, none⟩) 1 1, .slice (some ⟨w7.heap.size, 0, none⟩) 1 1] 54)
  replace hVA := hVA.to (balloc (Below.refl _ _) (.cells #[.slice (some ⟨w5.heap.size, 0, none⟩) 1 1, .slice (some ⟨w7.heap.size, 0, none⟩) 1 1] 54))
  replace hL := hL.alloc (.cells #[.slice (some ⟨w5.heap.size, 0, none⟩) 1 1, .slice (some ⟨w7.heap.size, 0, none⟩) 1 1] 54)
  replace hB0 := balloc hB0 (.cells #[.slice (some ⟨w5.heap.size, 0, none⟩) 1 1, .slice (some ⟨w7.heap.size, 0, none⟩) 1 1] 54)
  generalize ((w7.alloc (.cells #[.int .u64 (pW 1 false : Nat)] 52)).alloc (.cells #[.slice (some ⟨w5.heap.size, 0, none⟩) 1 1, .slice (some ⟨w7.heap.size, 0, none⟩) 1 1] 54)) = w8 at *
  refine (of_any _ _).mono ?_
  rintro e w' ⟨rfl, rfl⟩
  clear hR3 hR4
  go_wp2_with fail
  have hcall := oBreak_any _ _ 1 0 7 _ hS5 (fit_of FB.out) hL
  rw [HBk.out] at hcall
  refine hcall.mono ?_
  clear hcall
  rintro e w9 ⟨⟨vVB, rfl, hVB⟩, hb9⟩
  simp only at hVB ⊢
  clear hS5
  replace hVA := hVA.to hb9
  replace hL := hL.below hb9
  replace hB0 := bnext hB0 hb9
  clear hb9
  go_wp2_with fail
  refine (p_any 1 false _ (by decide) (by decide) hL).mono ?_
  rintro e w10 ⟨rfl, hb10⟩
  replace hVA := hVA.to hb10
  replace hVB := hVB.to hb10
  replace hL := hL.below hb10
  replace hB0 := bnext hB0 hb10
  clear hb10
  -- row
  go_wp2_with fail
  have hR6 : Rd (w10.alloc (.cells #[.int .u64 (pW 1 false : Nat)] 52)) 1 (some ⟨w10.heap.size, 0, none⟩) 1 (uw [pW 1 false]) := rd_row w10 w10.heap.size [pW 1 false] #[.int .u64 (pW 1 false : Nat)] rfl (by simp)
  replace hVA := hVA.to (balloc (Below.refl _ _) (.cells #[.int .u64 (pW 1 false : Nat)] 52))
  replace hVB := hVB.to (balloc (Below.refl _ _) (.cells #[.int .u64 (pW 1 false : Nat)] 52))
  replace hL := hL.alloc (.cells #[.int .u64 (pW 1 false : Nat)] 52)
  replace hB0 := balloc hB0 (.cells #[.int .u64 (pW 1 false : Nat)] 52)
  generalize (w10.alloc (.cells #[.int .u64 (pW 1 false : Nat)] 52)) = w11 at *
  refine (p_any 1 false _ (by decide) (by decide) hL).mono ?_
  rintro e w12 ⟨rfl, hb12⟩
  replace hR6 := hR6.below hb12 (Nat.le_refl _)
  replace hVA := hVA.to hb12
  replace hVB := hVB.to hb12
  replace hL := hL.below hb12
  replace hB0 := bnext hB0 hb12
  clear hb12
  go_wp2_with fail
  refine (p_any 2 true _ (by decide) (by decide) hL).mono ?_
  rintro e w13 ⟨rfl, hb13⟩
  replace hR6 := hR6.below hb13 (Nat.le_refl _)
  replace hVA := hVA.to hb13
  replace hVB := hVB.to hb13
  replace hL := hL.below hb13
  replace hB0 := bnext hB0 hb13
  clear hb13
  -- row
  go_wp2_with fail
  have hR7 : Rd (w13.alloc (.cells #[.int .u64 (pW 1 false : Nat), .int .u64 (pW 2 true : Nat)] 52)) 1 (some ⟨w13.heap.size, 0, none⟩) 2 (uw [pW 1 false, pW 2 true]) := rd_row w13 w13.heap.size [pW 1 false, pW 2 true] #[.int .u64 (pW 1 false : Nat), .int .u64 (pW 2 true : Nat)] rfl (by simp)
  replace hR6 := hR6.alloc (.cells #[.int .u64 (pW 1 false : Nat), .int .u64 (pW 2 true : Nat)] 52)
  replace hVA := hVA.to (balloc (Below.refl _ _) (.cells #[.int .u64 (pW 1 false : Nat), .int .u64 (pW 2 true : Nat)] 52))
  replace hVB := hVB.to (balloc (Below.refl _ _) (.cells #[.int .u64 (pW 1 false : Nat), .int .u64 (pW 2 true : Nat)] 52))
  replace hL := hL.alloc (.cells #[.int .u64 (pW 1 false : Nat), .int .u64 (pW 2 true : Nat)] 52)
  replace hB0 := balloc hB0 (.cells #[.int .u64 (pW 1 false : Nat), .int .u64 (pW 2 true : Nat)] 52)
  have hS8 : ShO ((w13.alloc (.cells #[.int .u64 (pW 1 false : Nat), .int .u64 (pW 2 true : Nat)] 52)).alloc (.cells #[.slice (some ⟨w10.heap.size, 0, none⟩) 1 1, .slice (some ⟨w13.heap.size, 0, none⟩) 2 2] 54)) (.slice (some ⟨(w13.heap.size + 1), 0, none⟩) 2 2) [[pW 1 false], [pW 1 false, pW 2 true]] := sho_two (w13.alloc (.cells #[.int .u64 (pW 1 false : Nat), .int .u64 (pW 2 true : Nat)] 52)) (w13.heap.size + 1) hR6 hR7 (by simp)
  replace hR6 := hR6.alloc (.cells #[.slice (some ⟨w10.heap.size, 0, none⟩) 1 1, .slice (some ⟨w13.heap.size, 0, none⟩) 2 2] 54)
  replace hR7 := hR7.alloc (.cells #[.slice (some ⟨w10.heap.size, 0, none⟩) 1 1, .slice (some ⟨w13.heap.size, 0, none⟩) 2 2] 54)
  replace hVA := hVA.to (balloc (Below.refl _ _) (.cells #[.slice (some ⟨w10.heap.size, 0, none⟩) 1 1, .slice (some ⟨w13.heap.size, 0, none⟩) 2 2] 54))
  replace hVB := hVB.to (balloc (Below.refl _ _) (.cells #[.slice (some ⟨w10.heap.size, 0, none⟩) 1 1, .slice (some ⟨w13.heap.size, 0, none⟩) 2 2] 54))
  replace hL := hL.alloc (.cells #[.slice (some ⟨w10.heap.size, 0, none⟩) 1 1, .slice (some ⟨w13.heap.size, 0, none⟩) 2 2] 54)
  replace hB0 := balloc hB0 (.cells #[.slice (some ⟨w10.heap.size, 0, none⟩) 1 1, .slice (some ⟨w13.heap.size, 0, none⟩) 2 2] 54)
  generalize ((w13.alloc (.cells #[.int .u64 (pW 1 false : Nat), .int .u64 (pW 2 true : Nat)] 52)).alloc (.cells #[.slice (some ⟨w10.heap.size, 0, none⟩) 1 1, .slice (some ⟨w13.heap.size, 0, none⟩) 2 2] 54)) = w14 at *
  refine (of_any _ _).mono ?_
  rintro e w' ⟨rfl, rfl⟩
  clear hR6 hR7
  go_wp2_with fail
  have hcall := oOut_any _ _ 1 5 _ hS8 (fit_of FC.out) hL
  rw [HCo.out] at hcall
  refine hcall.mono ?_
  clear hcall
  rintro e w15 ⟨⟨vVC, rfl, hVC⟩, hb15⟩
  simp only at hVC ⊢
  clear hS8
  replace hVA := hVA.to hb15
  replace hVB := hVB.to hb15
  replace hL := hL.below hb15
  replace hB0 := bnext hB0 hb15
  clear hb15
  go_wp2_with fail
  refine (p_any 1 false _ (by decide) (by decide) hL).mono ?_
  rintro e w16 ⟨rfl, hb16⟩
  replace hVA := hVA.to hb16
  replace hVB := hVB.to hb16
  replace hVC := hVC.to hb16
  replace hL := hL.below hb16
  replace hB0 := bnext hB0 hb16
  clear hb16
  go_wp2_with fail
  refine (s_any 3 _ (by decide) (by decide) hL).mono ?_
  rintro e w17 ⟨rfl, hb17⟩
  replace hVA := hVA.to hb17
  replace hVB := hVB.to hb17
  replace hVC := hVC.to hb17
  replace hL := hL.below hb17
  replace hB0 := bnext hB0 hb17
  clear hb17
  go_wp2_with fail
  have hR9 : Rd (w17.alloc (.cells #[.int .u64 (pW 1 false : Nat), .int .u64 0, .int .u64 (sW 3 : Nat)] 52)) 1 (some ⟨w17.heap.size, 0, none⟩) 3 (uw [pW 1 false, 0, sW 3]) := rd_row w17 w17.heap.size [pW 1 false, 0, sW 3] #[.int .u64 (pW 1 false : Nat), .int .u64 0, .int .u64 (sW 3 : Nat)] rfl (by simp)
  replace hVA := hVA.to (balloc (Below.refl _ _) (.cells #[.int .u64 (pW 1 false : Nat), .int .u64 0, .int .u64 (sW 3 : Nat)] 52))
  replace hVB := hVB.to (balloc (Below.refl _ _) (.cells #[.int .u64 (pW 1 false : Nat), .int .u64 0, .int .u64 (sW 3 : Nat)] 52))
  replace hVC := hVC.to (balloc (Below.refl _ _) (.cells #[.int .u64 (pW 1 false : Nat), .int .u64 0, .int .u64 (sW 3 : Nat)] 52))
  replace hL := hL.alloc (.cells #[.int .u64 (pW 1 false : Nat), .int .u64 0, .int .u64 (sW 3 : Nat)] 52)
  replace hB0 := balloc hB0 (.cells #[.int .u64 (pW 1 false : Nat), .int .u64 0, .int .u64 (sW 3 : Nat)] 52)
  generalize (w17.alloc (.cells #[.int .u64 (pW 1 false : Nat), .int .u64 0, .int .u64 (sW 3 : Nat)] 52)) = w18 at *
  refine (p_any 1 true _ (by decide) (by decide) hL).mono ?_
  rintro e w19 ⟨rfl, hb19⟩
  replace hR9 := hR9.below hb19 (Nat.le_refl _)
  replace hVA := hVA.to hb19
  replace hVB := hVB.to hb19
  replace hVC := hVC.to hb19
  replace hL := hL.below hb19
  replace hB0 := bnext hB0 hb19
  clear hb19
  go_wp2_with fail
  refine (p_any 2 false _ (by decide) (by decide) hL).mono ?_
  rintro e w20 ⟨rfl, hb20⟩
  replace hR9 := hR9.below hb20 (Nat.le_refl _)
  replace hVA := hVA.to hb20
  replace hVB := hVB.to hb20
  replace hVC := hVC.to hb20
  replace hL := hL.below hb20
  replace hB0 := bnext hB0 hb20
  clear hb20
  go_wp2_with fail
  refine (s_any 3 _ (by decide) (by decide) hL).mono ?_
  rintro e w21 ⟨rfl, hb21⟩
  replace hR9 := hR9.below hb21 (Nat.le_refl _)
  replace hVA := hVA.to hb21
  replace hVB := hVB.to hb21
  replace hVC := hVC.to hb21
  replace hL := hL.below hb21
  replace hB0 := bnext hB0 hb21
  clear hb21
  -- row
  go_wp2_with fail
  have hR10 : Rd (w21.alloc (.cells #[.int .u64 0, .int .u64 (pW 1 true : Nat), .int .u64 (pW 2 false : Nat), .int .u64 (sW 3 : Nat)] 52)) 1 (some ⟨w21.heap.size, 0, none⟩) 4 (uw [0, pW 1 true, pW 2 false, sW 3]) := rd_row w21 w21.heap.size [0, pW 1 true, pW 2 false, sW 3] #[.int .u64 0, .int .u64 (pW 1 true : Nat), .int .u64 (pW 2 false : Nat), .int .u64 (sW 3 : Nat)] rfl (by simp)
  replace hR9 := hR9.alloc (.cells #[.int .u64 0, .int .u64 (pW 1 true : Nat), .int .u64 (pW 2 false : Nat), .int .u64 (sW 3 : Nat)] 52)
  replace hVA := hVA.to (balloc (Below.refl _ _) (.cells #[.int .u64 0, .int .u64 (pW 1 true : Nat), .int .u64 (pW 2 false : Nat), .int .u64 (sW 3 : Nat)] 52))
  replace hVB := hVB.to (balloc (Below.refl _ _) (.cells #[.int .u64 0, .int .u64 (pW 1 true : Nat), .int .u64 (pW 2 false : Nat), .int .u64 (sW 3 : Nat)] 52))
  replace hVC := hVC.to (balloc (Below.refl _ _) (.cells #[.int .u64 0, .int .u64 (pW 1 true : Nat), .int .u64 (pW 2 false : Nat), .int .u64 (sW 3 : Nat)] 52))
  replace hL := hL.alloc (.cells #[.int .u64 0, .int .u64 (pW 1 true : Nat), .int .u64 (pW 2 false : Nat), .int .u64 (sW 3 : Nat)] 52)
  replace hB0 := balloc hB0 (.cells #[.int .u64 0, .int .u64 (pW 1 true : Nat), .int .u64 (pW 2 false : Nat), .int .u64 (sW 3 : Nat)] 52)
  generalize (w21.alloc (.cells #[.int .u64 0, .int .u64 (pW 1 true : Nat), .int .u64 (pW 2 false : Nat), .int .u64 (sW 3 : Nat)] 52)) = w22 at *
  refine (p_any 2 false _ (by decide) (by decide) hL).mono ?_
  rintro e w23 ⟨rfl, hb23⟩
  replace hR9 := hR9.below hb23 (Nat.le_refl _)
  replace hR10 := hR10.below hb23 (Nat.le_refl _)
  replace hVA := hVA.to hb23
  replace hVB := hVB.to hb23
  replace hVC := hVC.to hb23
  replace hL := hL.below hb23
  replace hB0 := bnext hB0 hb23
  clear hb23
  -- row
  go_wp2_with fail
  have hR11 : Rd (w23.alloc (.cells #[.int .u64 (pW 2 false : Nat)] 52)) 1 (some ⟨w23.heap.size, 0, none⟩) 1 (uw [pW 2 false]) := rd_row w23 w23.heap.size [pW 2 false] #[.int .u64 (pW 2 false : Nat)] rfl (by simp)
  replace hR9 := hR9.alloc (.cells #[.int .u64 (pW 2 false : Nat)] 52)
  replace hR10 := hR10.alloc (.cells #[.int .u64 (pW 2 false : Nat)] 52)
  replace hVA := hVA.to (balloc (Below.refl _ _) (.cells #[.int .u64 (pW 2 false : Nat)] 52))
  replace hVB := hVB.to (balloc (Below.refl _ _) (.cells #[.int .u64 (pW 2 false : Nat)] 52))
  replace hVC := hVC.to (balloc (Below.refl _ _) (.cells #[.int .u64 (pW 2 false : Nat)] 52))
  replace hL := hL.alloc (.cells #[.int .u64 (pW 2 false : Nat)] 52)
  replace hB0 := balloc hB0 (.cells #[.int .u64 (pW 2 false : Nat)] 52)
  have hS12 : ShO ((w23.alloc (.cells #[.int .u64 (pW 2 false : Nat)] 52)).alloc (.cells #[.slice (some ⟨w21.heap.size, 0, none⟩) 4 4, .slice (some ⟨w23.heap.size, 0, none⟩) 1 1] 54)) (.slice (some ⟨(w23.heap.size + 1), 0, none⟩) 2 2) [[0, pW 1 true, pW 2 false, sW 3], [pW 2 false]] := sho_two (w23.alloc (.cells #[.int .u64 (pW 2 false : Nat)] 52)) (w23.heap.size + 1) hR10 hR11 (by simp)
  replace hR9 := hR9.alloc (.cells #[.slice (some ⟨w21.heap.size, 0, none⟩) 4 4, .slice (some ⟨w23.heap.size, 0, none⟩) 1 1] 54)
  replace hR10 := hR10.alloc (.cells #[.slice (some ⟨w21.heap.size, 0, none⟩) 4 4, .slice (some ⟨w23.heap.size, 0, none⟩) 1 1] 54)
  replace hR11 := hR11.alloc (.cells #[.slice (some ⟨w21.heap.size, 0, none⟩) 4 4, .slice (some ⟨w23.heap.size, 0, none⟩) 1 1] 54)
  replace hVA := hVA.to (balloc (Below.refl _ _) (.cells #[.slice (some ⟨w21.heap.size, 0, none⟩) 4 4, .slice (some ⟨w23.heap.size, 0, none⟩) 1 1] 54))
  replace hVB := hVB.to (balloc (Below.refl _ _) (.cells #[.slice (some ⟨w21.heap.size, 0, none⟩) 4 4, .slice (some ⟨w23.heap.size, 0, none⟩) 1 1] 54))
  replace hVC := hVC.to (balloc (Below.refl _ _) (.cells #[.slice (some ⟨w21.heap.size, 0, none⟩) 4 4, .slice (some ⟨w23.heap.size, 0, none⟩) 1 1] 54))
  replace hL := hL.alloc (.cells #[.slice (some ⟨w21.heap.size, 0, none⟩) 4 4, .slice (some ⟨w23.heap.size, 0, none⟩) 1 1] 54)
  replace hB0 := balloc hB0 (.cells #[.slice (some ⟨w21.heap.size, 0, none⟩) 4 4, .slice (some ⟨w23.heap.size, 0, none⟩) 1 1] 54)
  generalize ((w23.alloc (.cells #[.int .u64 (pW 2 false : Nat)] 52)).alloc (.cells #[.slice (some ⟨w21.heap.size, 0, none⟩) 4 4, .slice (some ⟨w23.heap.size, 0, none⟩) 1 1] 54)) = w24 at *
  refine (of_any _ _).mono ?_
  rintro e w' ⟨rfl, rfl⟩
  clear hR10 hR11
  go_wp2_with fail
  refine (decides_true _ _ 0 2 4 _ hS12 (fit_of FD.out) hL HD.out).mono ?_
  rintro e w25 ⟨rfl, hb25⟩
  replace hR9 := hR9.below hb25 (Nat.le_refl _)
  replace hVA := hVA.to hb25
  replace hVB := hVB.to hb25
  replace hVC := hVC.to hb25
  replace hS12 := hS12.to hb25
  replace hL := hL.below hb25
  replace hB0 := bnext hB0 hb25
  clear hb25
  clear hS12
  go_wp2_with fail
  have hS13 : ShO (w25.alloc (.cells #[.slice (some ⟨w17.heap.size, 0, none⟩) 3 3, .slice (some ⟨w17.heap.size, 0, none⟩) 3 3] 54)) (.slice (some ⟨w25.heap.size, 0, none⟩) 2 2) [[pW 1 false, 0, sW 3], [pW 1 false, 0, sW 3]] := sho_two w25 w25.heap.size hR9 hR9 (by simp)
  replace hR9 := hR9.alloc (.cells #[.slice (some ⟨w17.heap.size, 0, none⟩) 3 3, .slice (some ⟨w17.heap.size, 0, none⟩) 3 3] 54)
  replace hVA := hVA.to (balloc (Below.refl _ _) (.cells #[.slice (some ⟨w17.heap.size, 0, none⟩) 3 3, .slice (some ⟨w17.heap.size, 0, none⟩) 3 3] 54))
  replace hVB := hVB.to (balloc (Below.refl _ _) (.cells #[.slice (some ⟨w17.heap.size, 0, none⟩) 3 3, .slice (some ⟨w17.heap.size, 0, none⟩) 3 3] 54))
  replace hVC := hVC.to (balloc (Below.refl _ _) (.cells #[.slice (some ⟨w17.heap.size, 0, none⟩) 3 3, .slice (some ⟨w17.heap.size, 0, none⟩) 3 3] 54))
  replace hL := hL.alloc (.cells #[.slice (some ⟨w17.heap.size, 0, none⟩) 3 3, .slice (some ⟨w17.heap.size, 0, none⟩) 3 3] 54)
  replace hB0 := balloc hB0 (.cells #[.slice (some ⟨w17.heap.size, 0, none⟩) 3 3, .slice (some ⟨w17.heap.size, 0, none⟩) 3 3] 54)
  generalize (w25.alloc (.cells #[.slice (some ⟨w17.heap.size, 0, none⟩) 3 3, .slice (some ⟨w17.heap.size, 0, none⟩) 3 3] 54)) = w26 at *
  refine (of_any _ _).mono ?_
  rintro e w' ⟨rfl, rfl⟩
  go_wp2_with fail
  refine (oSame _ _ _ _ hVA hS13 (fit_of FA1.out)).mono ?_
  rintro e w27 ⟨rfl, hb27⟩
  replace hR9 := hR9.below hb27 (Nat.le_refl _)
  replace hVA := hVA.to hb27
  replace hVB := hVB.to hb27
  replace hVC := hVC.to hb27
  replace hS13 := hS13.to hb27
  replace hL := hL.below hb27
  replace hB0 := bnext hB0 hb27
  clear hb27
  clear hS13 hVA
  go_wp2_with fail
  refine (p_any 1 false _ (by decide) (by decide) hL).mono ?_
  rintro e w28 ⟨rfl, hb28⟩
  replace hR9 := hR9.below hb28 (Nat.le_refl _)
  replace hVB := hVB.to hb28
  replace hVC := hVC.to hb28
  replace hL := hL.below hb28
  replace hB0 := bnext hB0 hb28
  clear hb28
  -- row
  go_wp2_with fail
  have hR14 : Rd (w28.alloc (.cells #[.int .u64 (pW 1 false : Nat)] 52)) 1 (some ⟨w28.heap.size, 0, none⟩) 1 (uw [pW 1 false]) := rd_row w28 w28.heap.size [pW 1 false] #[.int .u64 (pW 1 false : Nat)] rfl (by simp)
  replace hR9 := hR9.alloc (.cells #[.int .u64 (pW 1 false : Nat)] 52)
  replace hVB := hVB.to (balloc (Below.refl _ _) (.cells #[.int .u64 (pW 1 false : Nat)] 52))
  replace hVC := hVC.to (balloc (Below.refl _ _) (.cells #[.int .u64 (pW 1 false : Nat)] 52))
  replace hL := hL.alloc (.cells #[.int .u64 (pW 1 false : Nat)] 52)
  replace hB0 := balloc hB0 (.cells #[.int .u64 (pW 1 false : Nat)] 52)
  generalize (w28.alloc (.cells #[.int .u64 (pW 1 false : Nat)] 52)) = w29 at *
  refine (p_any 7 true _ (by decide) (by decide) hL).mono ?_
  rintro e w30 ⟨rfl, hb30⟩
  replace hR9 := hR9.below hb30 (Nat.le_refl _)
  replace hR14 := hR14.below hb30 (Nat.le_refl _)
  replace hVB := hVB.to hb30
  replace hVC := hVC.to hb30
  replace hL := hL.below hb30
  replace hB0 := bnext hB0 hb30
  clear hb30
  -- row
  go_wp2_with fail
  have hR15 : Rd (w30.alloc (.cells #[.int .u64 (pW 7 true : Nat)] 52)) 1 (some ⟨w30.heap.size, 0, none⟩) 1 (uw [pW 7 true]) := rd_row w30 w30.heap.size [pW 7 true] #[.int .u64 (pW 7 true : Nat)] rfl (by simp)
  replace hR9 := hR9.alloc (.cells #[.int .u64 (pW 7 true : Nat)] 52)
  replace hR14 := hR14.alloc (.cells #[.int .u64 (pW 7 true : Nat)] 52)
  replace hVB := hVB.to (balloc (Below.refl _ _) (.cells #[.int .u64 (pW 7 true : Nat)] 52))
  replace hVC := hVC.to (balloc (Below.refl _ _) (.cells #[.int .u64 (pW 7 true : Nat)] 52))
  replace hL := hL.alloc (.cells #[.int .u64 (pW 7 true : Nat)] 52)
  replace hB0 := balloc hB0 (.cells #[.int .u64 (pW 7 true : Nat)] 52)
  have hS16 : ShO ((w30.alloc (.cells #[.int .u64 (pW 7 true : Nat)] 52)).alloc (.cells #[.slice (some ⟨w28.heap.size, 0, none⟩) 1 1, .slice (some ⟨w30.heap.size, 0, none⟩) 1 1] 54)) (.slice (some ⟨(w30.heap.size + 1), 0, none⟩) 2 2) [[pW 1 false], [pW 7 true]] := sho_two (w30.alloc (.cells #[.int .u64 (pW 7 true : Nat)] 52)) (w30.heap.size + 1) hR14 hR15 (by simp)
  replace hR9 := hR9.alloc (.cells #[.slice (some ⟨w28.heap.size, 0, none⟩) 1 1, .slice (some ⟨w30.heap.size, 0, none⟩) 1 1] 54)
  replace hR14 := hR14.alloc (.cells #[.slice (some ⟨w28.heap.size, 0, none⟩) 1 1, .slice (some ⟨w30.heap.size, 0, none⟩) 1 1] 54)
  replace hR15 := hR15.alloc (.cells #[.slice (some ⟨w28.heap.size, 0, none⟩) 1 1, .slice (some ⟨w30.heap.size, 0, none⟩) 1 1] 54)
  replace hVB := hVB.to (balloc (Below.refl _ _) (.cells #[.slice (some ⟨w28.heap.size, 0, none⟩) 1 1, .slice (some ⟨w30.heap.size, 0, none⟩) 1 1] 54))
  replace hVC := hVC.to (balloc (Below.refl _ _) (.cells #[.slice (some ⟨w28.heap.size, 0, none⟩) 1 1, .slice (some ⟨w30.heap.size, 0, none⟩) 1 1] 54))
  replace hL := hL.alloc (.cells #[.slice (some ⟨w28.heap.size, 0, none⟩) 1 1, .slice (some ⟨w30.heap.size, 0, none⟩) 1 1] 54)
  replace hB0 := balloc hB0 (.cells #[.slice (some ⟨w28.heap.size, 0, none⟩) 1 1, .slice (some ⟨w30.heap.size, 0, none⟩) 1 1] 54)
  generalize ((w30.alloc (.cells #[.int .u64 (pW 7 true : Nat)] 52)).alloc (.cells #[.slice (some ⟨w28.heap.size, 0, none⟩) 1 1, .slice (some ⟨w30.heap.size, 0, none⟩) 1 1] 54)) = w31 at *
  refine (of_any _ _).mono ?_
  rintro e w' ⟨rfl, rfl⟩
  clear hR14 hR15
  go_wp2_with fail
  refine (oSame _ _ _ _ hVB hS16 (fit_of FB1.out)).mono ?_
  rintro e w32 ⟨rfl, hb32⟩
  replace hR9 := hR9.below hb32 (Nat.le_refl _)
  replace hVB := hVB.to hb32
  replace hVC := hVC.to hb32
  replace hS16 := hS16.to hb32
  replace hL := hL.below hb32
  replace hB0 := bnext hB0 hb32
  clear hb32
  clear hS16 hVB
  go_wp2_with fail
  refine (s_any 5 _ (by decide) (by decide) hL).mono ?_
  rintro e w33 ⟨rfl, hb33⟩
  replace hR9 := hR9.below hb33 (Nat.le_refl _)
  replace hVC := hVC.to hb33
  replace hL := hL.below hb33
  replace hB0 := bnext hB0 hb33
  clear hb33
  -- row
  go_wp2_with fail
  have hR17 : Rd (w33.alloc (.cells #[.int .u64 (sW 5 : Nat)] 52)) 1 (some ⟨w33.heap.size, 0, none⟩) 1 (uw [sW 5]) := rd_row w33 w33.heap.size [sW 5] #[.int .u64 (sW 5 : Nat)] rfl (by simp)
  replace hR9 := hR9.alloc (.cells #[.int .u64 (sW 5 : Nat)] 52)
  replace hVC := hVC.to (balloc (Below.refl _ _) (.cells #[.int .u64 (sW 5 : Nat)] 52))
  replace hL := hL.alloc (.cells #[.int .u64 (sW 5 : Nat)] 52)
  replace hB0 := balloc hB0 (.cells #[.int .u64 (sW 5 : Nat)] 52)
  generalize (w33.alloc (.cells #[.int .u64 (sW 5 : Nat)] 52)) = w34 at *
  refine (s_any 5 _ (by decide) (by decide) hL).mono ?_
  rintro e w35 ⟨rfl, hb35⟩
  replace hR9 := hR9.below hb35 (Nat.le_refl _)
  replace hR17 := hR17.below hb35 (Nat.le_refl _)
  replace hVC := hVC.to hb35
  replace hL := hL.below hb35
  replace hB0 := bnext hB0 hb35
  clear hb35
  go_wp2_with fail
  refine (p_any 2 true _ (by decide) (by decide) hL).mono ?_
  rintro e w36 ⟨rfl, hb36⟩
  replace hR9 := hR9.below hb36 (Nat.le_refl _)
  replace hR17 := hR17.below hb36 (Nat.le_refl _)
  replace hVC := hVC.to hb36
  replace hL := hL.below hb36
  replace hB0 := bnext hB0 hb36
  clear hb36
  -- row
  go_wp2_with fail
  have hR18 : Rd (w36.alloc (.cells #[.int .u64 (sW 5 : Nat), .int .u64 (pW 2 true : Nat)] 52)) 1 (some ⟨w36.heap.size, 0, none⟩) 2 (uw [sW 5, pW 2 true]) := rd_row w36 w36.heap.size [sW 5, pW 2 true] #[.int .u64 (sW 5 : Nat), .int .u64 (pW 2 true : Nat)] rfl (by simp)
  replace hR9 := hR9.alloc (.cells #[.int .u64 (sW 5 : Nat), .int .u64 (pW 2 true : Nat)] 52)
  replace hR17 := hR17.alloc (.cells #[.int .u64 (sW 5 : Nat), .int .u64 (pW 2 true : Nat)] 52)
  replace hVC := hVC.to (balloc (Below.refl _ _) (.cells #[.int .u64 (sW 5 : Nat), .int .u64 (pW 2 true : Nat)] 52))
  replace hL := hL.alloc (.cells #[.int .u64 (sW 5 : Nat), .int .u64 (pW 2 true : Nat)] 52)
  replace hB0 := balloc hB0 (.cells #[.int .u64 (sW 5 : Nat), .int .u64 (pW 2 true : Nat)] 52)
  have hS19 : ShO ((w36.alloc (.cells #[.int .u64 (sW 5 : Nat), .int .u64 (pW 2 true : Nat)] 52)).alloc (.cells #[.slice (some ⟨w33.heap.size, 0, none⟩) 1 1, .slice (some ⟨w36.heap.size, 0, none⟩) 2 2] 54)) (.slice (some ⟨(w36.heap.size + 1), 0, none⟩) 2 2) [[sW 5], [sW 5, pW 2 true]] := sho_two (w36.alloc (.cells #[.int .u64 (sW 5 : Nat), .int .u64 (pW 2 true : Nat)] 52)) (w36.heap.size + 1) hR17 hR18 (by simp)
  replace hR9 := hR9.alloc (.cells #[.slice (some ⟨w33.heap.size, 0, none⟩) 1 1, .slice (some ⟨w36.heap.size, 0, none⟩) 2 2] 54)
  replace hR17 := hR17.alloc (.cells #[.slice (some ⟨w33.heap.size, 0, none⟩) 1 1, .slice (some ⟨w36.heap.size, 0, none⟩) 2 2] 54)
  replace hR18 := hR18.alloc (.cells #[.slice (some ⟨w33.heap.size, 0, none⟩) 1 1, .slice (some ⟨w36.heap.size, 0, none⟩) 2 2] 54)
  replace hVC := hVC.to (balloc (Below.refl _ _) (.cells #[.slice (some ⟨w33.heap.size, 0, none⟩) 1 1, .slice (some ⟨w36.heap.size, 0, none⟩) 2 2] 54))
  replace hL := hL.alloc (.cells #[.slice (some ⟨w33.heap.size, 0, none⟩) 1 1, .slice (some ⟨w36.heap.size, 0, none⟩) 2 2] 54)
  replace hB0 := balloc hB0 (.cells #[.slice (some ⟨w33.heap.size, 0, none⟩) 1 1, .slice (some ⟨w36.heap.size, 0, none⟩) 2 2] 54)
  generalize ((w36.alloc (.cells #[.int .u64 (sW 5 : Nat), .int .u64 (pW 2 true : Nat)] 52)).alloc (.cells #[.slice (some ⟨w33.heap.size, 0, none⟩) 1 1, .slice (some ⟨w36.heap.size, 0, none⟩) 2 2] 54)) = w37 at *
  refine (of_any _ _).mono ?_
  rintro e w' ⟨rfl, rfl⟩
  clear hR17 hR18
  go_wp2_with fail
  refine (oSame _ _ _ _ hVC hS19 (fit_of FC1.out)).mono ?_
  rintro e w38 ⟨rfl, hb38⟩
  replace hR9 := hR9.below hb38 (Nat.le_refl _)
  replace hVC := hVC.to hb38
  replace hS19 := hS19.to hb38
  replace hL := hL.below hb38
  replace hB0 := bnext hB0 hb38
  clear hb38
  clear hS19 hVC
  go_wp2
  go_ret
  exact ⟨rfl, hB0⟩
end Go.Proofs.YtomndlnfidkdcaaDoor
/- CowKnown returns true. -/
namespace Go.Proofs.YtomndlnfidkdcaaDoor
open Go Go.Proofs Go.RowKit Go.Maps
set_option linter.unusedSimpArgs false
set_option linter.unusedVariables false
set_option maxRecDepth 100000

/-- Counts of a valid sharing, with its cells. -/
def CntX (t : Sh) (w w' : World) (e : Ending) : Prop :=
  (∃ b off c b' off' d, e = .returned (.tuple #[.slice (some ⟨b, off, none⟩) 256 c, .slice (some ⟨b', off', none⟩) 256 d, .int .i64 0]) ∧ Rd w' 1 (some ⟨b, off, none⟩) 256 (iw (mapsL t 1)) ∧ Rd w' 1 (some ⟨b', off', none⟩) 256 (iw (mapsL t 2))) ∧ Below w.heap.size w w'
theorem mapsL_len (t : Sh) (k : Int) : (mapsL t k).length = 256 := by simp [mapsL]
theorem oCounts_ok (v : Value) (t : Sh) (w : World) (h : ShO w v t) (hf : FitS t) (hL : LayOK w) (h0 : (shE t).1 = 0) :
    Calls Tryd.prog 26 #[v] w fun e w' => CntX t w w' e := by
  refine (oCounts_any v t w h hf hL).mono ?_
  rintro e w' ⟨A, c, B, d, he, hA, hB, hb⟩
  have hc : cntsR t = (mapsL t 1, mapsL t 2, 0) := by unfold cntsR; rw [if_neg (by simp [h0])]
  rw [hc] at he hA hB
  simp only [mapsL_len] at he hA hB
  obtain ⟨b, off, rfl, _, _⟩ := hA.2 (by decide)
  obtain ⟨b', off', rfl, _, _⟩ := hB.2 (by decide)
  exact ⟨⟨b, off, c, b', off', d, he, hA, hB⟩, hb⟩
theorem rd_iw {w : World} {b off n : Nat} {zs : List Int} (h : Rd w 1 (some ⟨b, off, none⟩) n (iw zs)) (hn : 0 < n) (k : Nat) (z : Int) (hz : zs[k]? = some z) : w.cell? ⟨b, off + k, none⟩ = some (.int .i64 z) ∧ b < w.heap.size := by
  obtain ⟨b', off', e, hb, hc⟩ := h.2 hn
  injection e with e
  injection e with e1 e2
  subst e1 e2
  exact ⟨hc k _ (by unfold iw; rw [List.getElem?_map, hz]; rfl), hb⟩
/-- Sharers, with its places. -/
def ShrX (l : List (Int × Int)) (w w' : World) (e : Ending) : Prop :=
  (∃ b off c, e = .returned (.tuple #[.slice (some ⟨b, off, none⟩) l.length c, .int .i64 0]) ∧ Rd w' 2 (some ⟨b, off, none⟩) l.length (flat2 .i64 l)) ∧ Below w.heap.size w w'
theorem oSharers_ok (v : Value) (t : Sh) (i j : Int) (l : List (Int × Int)) (w : World) (h : ShO w v t) (hf : FitS t) (hL : LayOK w) (h0 : shR t i j = (l, 0)) (hl : 0 < l.length) :
    Calls Tryd.prog 31 #[v, .int .i64 i, .int .i64 j] w fun e w' => ShrX l w w' e := by
  refine (oSharers_any v t i j w h hf hL).mono ?_
  rintro e w' ⟨A, c, he, hA, hb⟩
  rw [h0] at he hA
  simp only at he hA
  obtain ⟨b, off, rfl, _, _⟩ := hA.2 hl
  exact ⟨⟨b, off, c, he, hA⟩, hb⟩
set_option maxHeartbeats 16000000 in
theorem CowKnown_true (w : World) (hL : LayOK w) : Calls Tryd.prog 5 #[] w fun e w' => e = .returned (.bool true) ∧ Below w.heap.size w w' := by
  have hB0 := Below.refl w.heap.size w
  have Ftwo : Hid (fitB [[pW 1 false], [pW 1 false]] = true) := Lib.hid (by decide +kernel)
  have Fone : Hid (fitB [[pW 1 false]] = true) := Lib.hid (by decide +kernel)
  have Fall : Hid (fitB [[0, pW 1 true, pW 2 false, sW 3], [pW 2 false]] = true) := Lib.hid (by decide +kernel)
  have Fcn : Hid (fitB [[pW 2 false, sW 3], [pW 2 false, sW 3]] = true) := Lib.hid (by decide +kernel)
  have Fo15 : Hid (fitB [[pW 1 false, sW 5]] = true) := Lib.hid (by decide +kernel)
  have Fck1 : Hid (fitB [[pW 1 true], [pW 1 false]] = true) := Lib.hid (by decide +kernel)
  have Fck2 : Hid (fitB [[pW 1 true, pW 1 true]] = true) := Lib.hid (by decide +kernel)
  have Fsh : Hid (fitB [[pW 1 false], [pW 1 false, pW 1 false]] = true) := Lib.hid (by decide +kernel)
  have Ftk : Hid (fitB [[pW 2 false], [0]] = true) := Lib.hid (by decide +kernel)
  have Fs3 : Hid (fitB [[sW 3]] = true) := Lib.hid (by decide +kernel)
  have Ftw1 : Hid (fitB [[pW 1 true]] = true) := Lib.hid (by decide +kernel)
  have Hcn : Hid ((shE [[pW 2 false, sW 3], [pW 2 false, sW 3]]).1 = 0) := Lib.hid (by decide +kernel)
  have M2 : Hid ((mapsL [[pW 2 false, sW 3], [pW 2 false, sW 3]] 1)[2]? = some 2) := Lib.hid (by decide +kernel)
  have M3 : Hid ((mapsL [[pW 2 false, sW 3], [pW 2 false, sW 3]] 1)[3]? = some 0) := Lib.hid (by decide +kernel)
  have R3 : Hid ((mapsL [[pW 2 false, sW 3], [pW 2 false, sW 3]] 2)[3]? = some 2) := Lib.hid (by decide +kernel)
  have Hf : Hid (brkR [[pW 1 false], [pW 1 false]] 1 0 1 = ([], 0, 7)) := Lib.hid (by decide +kernel)
  have Hg : Hid (brkR [[pW 1 false]] 0 0 7 = ([], 0, 9)) := Lib.hid (by decide +kernel)
  have Hh : Hid (takeR [[pW 1 false]] 0 0 = ([[pW 1 true]], 0)) := Lib.hid (by decide +kernel)
  have Hi : Hid (takeR [[pW 1 false], [pW 1 false]] 0 0 = ([], 9)) := Lib.hid (by decide +kernel)
  have Hj : Hid (outR [[pW 1 false]] 2 5 = ([], 0, 9)) := Lib.hid (by decide +kernel)
  have Hk : Hid (outR [[pW 1 false, sW 5]] 1 5 = ([], 0, 7)) := Lib.hid (by decide +kernel)
  have Hl : Hid (shE [[pW 1 true], [pW 1 false]] = (9, 0)) := Lib.hid (by decide +kernel)
  have Hm : Hid (shE [[pW 1 true, pW 1 true]] = (9, 0)) := Lib.hid (by decide +kernel)
  have Hx : Hid (shR [[pW 1 false], [pW 1 false, pW 1 false]] 1 0 = ([(0, 0), (1, 1)], 0)) := Lib.hid (by decide +kernel)
  have D0 : Hid (decR [[0, pW 1 true, pW 2 false, sW 3], [pW 2 false]] 0 0 = (1, 0)) := Lib.hid (by decide +kernel)
  have D1 : Hid (decR [[0, pW 1 true, pW 2 false, sW 3], [pW 2 false]] 0 1 = (2, 0)) := Lib.hid (by decide +kernel)
  have D3 : Hid (decR [[0, pW 1 true, pW 2 false, sW 3], [pW 2 false]] 0 3 = (5, 0)) := Lib.hid (by decide +kernel)
  have DT : Hid (decR [[pW 2 false], [0]] 0 0 = (3, 0)) := Lib.hid (by decide +kernel)
  have Q1 : Hid (dropR [[pW 1 false], [pW 1 false]] 0 0 = ([[0], [pW 1 false]], -1, -1, 0)) := Lib.hid (by decide +kernel)
  have Q2 : Hid (dropR [[pW 1 false]] 0 0 = ([[0]], 1, -1, 0)) := Lib.hid (by decide +kernel)
  have Q3 : Hid (dropR [[sW 3]] 0 0 = ([[0]], -1, 3, 0)) := Lib.hid (by decide +kernel)
  go_enter Tryd.func5, Tryd.ntmps5
  go_wp2_with fail
  refine (p_any 1 false _ (by decide) (by decide) hL).mono ?_
  rintro e w1 ⟨rfl, hb1⟩
  replace hL := hL.below hb1
  replace hB0 := bnext hB0 hb1
  clear hb1
  -- row
  go_wp2_with fail
  have hR1 : Rd (w1.alloc (.cells #[.int .u64 (pW 1 false : Nat)] 52)) 1 (some ⟨w1.heap.size, 0, none⟩) 1 (uw [pW 1 false]) := rd_row w1 w1.heap.size [pW 1 false] #[.int .u64 (pW 1 false : Nat)] rfl (by simp)
  replace hL := hL.alloc (.cells #[.int .u64 (pW 1 false : Nat)] 52)
  replace hB0 := balloc hB0 (.cells #[.int .u64 (pW 1 false : Nat)] 52)
  generalize (w1.alloc (.cells #[.int .u64 (pW 1 false : Nat)] 52)) = w2 at *
  refine (p_any 1 false _ (by decide) (by decide) hL).mono ?_
  rintro e w3 ⟨rfl, hb3⟩
  replace hR1 := hR1.below hb3 (Nat.le_refl _)
  replace hL := hL.below hb3
  replace hB0 := bnext hB0 hb3
  clear hb3
  -- row
  go_wp2_with fail
  have hR2 : Rd (w3.alloc (.cells #[.int .u64 (pW 1 false : Nat)] 52)) 1 (some ⟨w3.heap.size, 0, none⟩) 1 (uw [pW 1 false]) := rd_row w3 w3.heap.size [pW 1 false] #[.int .u64 (pW 1 false : Nat)] rfl (by simp)
  replace hR1 := hR1.alloc (.cells #[.int .u64 (pW 1 false : Nat)] 52)
  replace hL := hL.alloc (.cells #[.int .u64 (pW 1 false : Nat)] 52)
  replace hB0 := balloc hB0 (.cells #[.int .u64 (pW 1 false : Nat)] 52)
  have hS3 : ShO ((w3.alloc (.cells #[.int .u64 (pW 1 false : Nat)] 52)).alloc (.cells #[.slice (some ⟨w1.heap.size, 0, none⟩) 1 1, .slice (some ⟨w3.heap.size, 0, none⟩) 1 1] 54)) (.slice (some ⟨(w3.heap.size + 1), 0, none⟩) 2 2) [[pW 1 false], [pW 1 false]] := sho_two (w3.alloc (.cells #[.int .u64 (pW 1 false : Nat)] 52)) (w3.heap.size + 1) hR1 hR2 (by simp)
  replace hR1 := hR1.alloc (.cells #[.slice (some ⟨w1.heap.size, 0, none⟩) 1 1, .slice (some ⟨w3.heap.size, 0, none⟩) 1 1] 54)
  replace hR2 := hR2.alloc (.cells #[.slice (some ⟨w1.heap.size, 0, none⟩) 1 1, .slice (some ⟨w3.heap.size, 0, none⟩) 1 1] 54)
  replace hL := hL.alloc (.cells #[.slice (some ⟨w1.heap.size, 0, none⟩) 1 1, .slice (some ⟨w3.heap.size, 0, none⟩) 1 1] 54)
  replace hB0 := balloc hB0 (.cells #[.slice (some ⟨w1.heap.size, 0, none⟩) 1 1, .slice (some ⟨w3.heap.size, 0, none⟩) 1 1] 54)
  generalize ((w3.alloc (.cells #[.int .u64 (pW 1 false : Nat)] 52)).alloc (.cells #[.slice (some ⟨w1.heap.size, 0, none⟩) 1 1, .slice (some ⟨w3.heap.size, 0, none⟩) 1 1] 54)) = w4 at *
  refine (of_any _ _).mono ?_
  rintro e w' ⟨rfl, rfl⟩
  clear hR1 hR2
  go_wp2_with fail
  refine (p_any 1 false _ (by decide) (by decide) hL).mono ?_
  rintro e w5 ⟨rfl, hb5⟩
  replace hS3 := hS3.to hb5
  replace hL := hL.below hb5
  replace hB0 := bnext hB0 hb5
  clear hb5
  -- row
  go_wp2_with fail
  have hR4 : Rd (w5.alloc (.cells #[.int .u64 (pW 1 false : Nat)] 52)) 1 (some ⟨w5.heap.size, 0, none⟩) 1 (uw [pW 1 false]) := rd_row w5 w5.heap.size [pW 1 false] #[.int .u64 (pW 1 false : Nat)] rfl (by simp)
  replace hS3 := hS3.to (balloc (Below.refl _ _) (.cells #[.int .u64 (pW 1 false : Nat)] 52))
  replace hL := hL.alloc (.cells #[.int .u64 (pW 1 false : Nat)] 52)
  replace hB0 := balloc hB0 (.cells #[.int .u64 (pW 1 false : Nat)] 52)
  have hS5 : ShO ((w5.alloc (.cells #[.int .u64 (pW 1 false : Nat)] 52)).alloc (.cells #[.slice (some ⟨w5.heap.size, 0, none⟩) 1 1] 54)) (.slice (some ⟨(w5.heap.size + 1), 0, none⟩) 1 1) [[pW 1 false]] := sho_one (w5.alloc (.cells #[.int .u64 (pW 1 false : Nat)] 52)) (w5.heap.size + 1) hR4 (by simp)
  replace hR4 := hR4.alloc (.cells #[.slice (some ⟨w5.heap.size, 0, none⟩) 1 1] 54)
  replace hS3 := hS3.to (balloc (Below.refl _ _) (.cells #[.slice (some ⟨w5.heap.size, 0, none⟩) 1 1] 54))
  replace hL := hL.alloc (.cells #[.slice (some ⟨w5.heap.size, 0, none⟩) 1 1] 54)
  replace hB0 := balloc hB0 (.cells #[.slice (some ⟨w5.heap.size, 0, none⟩) 1 1] 54)
  generalize ((w5.alloc (.cells #[.int .u64 (pW 1 false : Nat)] 52)).alloc (.cells #[.slice (some ⟨w5.heap.size, 0, none⟩) 1 1] 54)) = w6 at *
  refine (of_any _ _).mono ?_
  rintro e w' ⟨rfl, rfl⟩
  clear hR4
  go_wp2_with fail
  refine (p_any 1 true _ (by decide) (by decide) hL).mono ?_
  rintro e w7 ⟨rfl, hb7⟩
  replace hS3 := hS3.to hb7
  replace hS5 := hS5.to hb7
  replace hL := hL.below hb7
  replace hB0 := bnext hB0 hb7
  clear hb7
  go_wp2_with fail
  refine (p_any 2 false _ (by decide) (by decide) hL).mono ?_
  rintro e w8 ⟨rfl, hb8⟩
  replace hS3 := hS3.to hb8
  replace hS5 := hS5.to hb8
  replace hL := hL.below hb8
  replace hB0 := bnext hB0 hb8
  clear hb8
  go_wp2_with fail
  refine (s_any 3 _ (by decide) (by decide) hL).mono ?_
  rintro e w9 ⟨rfl, hb9⟩
  replace hS3 := hS3.to hb9
  replace hS5 := hS5.to hb9
  replace hL := hL.below hb9
  replace hB0 := bnext hB0 hb9
  clear hb9
  -- row
  go_wp2_with fail
  have hR6 : Rd (w9.alloc (.cells #[.int .u64 0, .int .u64 (pW 1 true : Nat), .int .u64 (pW 2 false : Nat), .int .u64 (sW 3 : Nat)] 52)) 1 (some ⟨w9.heap.size, 0, none⟩) 4 (uw [0, pW 1 true, pW 2 false, sW 3]) := rd_row w9 w9.heap.size [0, pW 1 true, pW 2 false, sW 3] #[.int .u64 0, .int .u64 (pW 1 true : Nat), .int .u64 (pW 2 false : Nat), .int .u64 (sW 3 : Nat)] rfl (by simp)
  replace hS3 := hS3.to (balloc (Below.refl _ _) (.cells #[.int .u64 0, .int .u64 (pW 1 true : Nat), .int .u64 (pW 2 false : Nat), .int .u64 (sW 3 : Nat)] 52))
  replace hS5 := hS5.to (balloc (Below.refl _ _) (.cells #[.int .u64 0, .int .u64 (pW 1 true : Nat), .int .u64 (pW 2 false : Nat), .int .u64 (sW 3 : Nat)] 52))
  replace hL := hL.alloc (.cells #[.int .u64 0, .int .u64 (pW 1 true : Nat), .int .u64 (pW 2 false : Nat), .int .u64 (sW 3 : Nat)] 52)
  replace hB0 := balloc hB0 (.cells #[.int .u64 0, .int .u64 (pW 1 true : Nat), .int .u64 (pW 2 false : Nat), .int .u64 (sW 3 : Nat)] 52)
  generalize (w9.alloc (.cells #[.int .u64 0, .int .u64 (pW 1 true : Nat), .int .u64 (pW 2 false : Nat), .int .u64 (sW 3 : Nat)] 52)) = w10 at *
  refine (p_any 2 false _ (by decide) (by decide) hL).mono ?_
  rintro e w11 ⟨rfl, hb11⟩
  replace hR6 := hR6.below hb11 (Nat.le_refl _)
  replace hS3 := hS3.to hb11
  replace hS5 := hS5.to hb11
  replace hL := hL.below hb11
  replace hB0 := bnext hB0 hb11
  clear hb11
  -- row
  go_wp2_with fail
  have hR7 : Rd (w11.alloc (.cells #[.int .u64 (pW 2 false : Nat)] 52)) 1 (some ⟨w11.heap.size, 0, none⟩) 1 (uw [pW 2 false]) := rd_row w11 w11.heap.size [pW 2 false] #[.int .u64 (pW 2 false : Nat)] rfl (by simp)
  replace hR6 := hR6.alloc (.cells #[.int .u64 (pW 2 false : Nat)] 52)
  replace hS3 := hS3.to (balloc (Below.refl _ _) (.cells #[.int .u64 (pW 2 false : Nat)] 52))
  replace hS5 := hS5.to (balloc (Below.refl _ _) (.cells #[.int .u64 (pW 2 false : Nat)] 52))
  replace hL := hL.alloc (.cells #[.int .u64 (pW 2 false : Nat)] 52)
  replace hB0 := balloc hB0 (.cells #[.int .u64 (pW 2 false : Nat)] 52)
  have hS8 : ShO ((w11.alloc (.cells #[.int .u64 (pW 2 false : Nat)] 52)).alloc (.cells #[.slice (some ⟨w9.heap.size, 0, none⟩) 4 4, .slice (some ⟨w11.heap.size, 0, none⟩) 1 1] 54)) (.slice (some ⟨(w11.heap.size + 1), 0, none⟩) 2 2) [[0, pW 1 true, pW 2 false, sW 3], [pW 2 false]] := sho_two (w11.alloc (.cells #[.int .u64 (pW 2 false : Nat)] 52)) (w11.heap.size + 1) hR6 hR7 (by simp)
  replace hR6 := hR6.alloc (.cells #[.slice (some ⟨w9.heap.size, 0, none⟩) 4 4, .slice (some ⟨w11.heap.size, 0, none⟩) 1 1] 54)
  replace hR7 := hR7.alloc (.cells #[.slice (some ⟨w9.heap.size, 0, none⟩) 4 4, .slice (some ⟨w11.heap.size, 0, none⟩) 1 1] 54)
  replace hS3 := hS3.to (balloc (Below.refl _ _) (.cells #[.slice (some ⟨w9.heap.size, 0, none⟩) 4 4, .slice (some ⟨w11.heap.size, 0, none⟩) 1 1] 54))
  replace hS5 := hS5.to (balloc (Below.refl _ _) (.cells #[.slice (some ⟨w9.heap.size, 0, none⟩) 4 4, .slice (some ⟨w11.heap.size, 0, none⟩) 1 1] 54))
  replace hL := hL.alloc (.cells #[.slice (some ⟨w9.heap.size, 0, none⟩) 4 4, .slice (some ⟨w11.heap.size, 0, none⟩) 1 1] 54)
  replace hB0 := balloc hB0 (.cells #[.slice (some ⟨w9.heap.size, 0, none⟩) 4 4, .slice (some ⟨w11.heap.size, 0, none⟩) 1 1] 54)
  generalize ((w11.alloc (.cells #[.int .u64 (pW 2 false : Nat)] 52)).alloc (.cells #[.slice (some ⟨w9.heap.size, 0, none⟩) 4 4, .slice (some ⟨w11.heap.size, 0, none⟩) 1 1] 54)) = w12 at *
  refine (of_any _ _).mono ?_
  rintro e w' ⟨rfl, rfl⟩
  clear hR6 hR7
  go_wp2_with fail
  refine (p_any 2 false _ (by decide) (by decide) hL).mono ?_
  rintro e w13 ⟨rfl, hb13⟩
  replace hS3 := hS3.to hb13
  replace hS5 := hS5.to hb13
  replace hS8 := hS8.to hb13
  replace hL := hL.below hb13
  replace hB0 := bnext hB0 hb13
  clear hb13
  go_wp2_with fail
  refine (s_any 3 _ (by decide) (by decide) hL).mono ?_
  rintro e w14 ⟨rfl, hb14⟩
  replace hS3 := hS3.to hb14
  replace hS5 := hS5.to hb14
  replace hS8 := hS8.to hb14
  replace hL := hL.below hb14
  replace hB0 := bnext hB0 hb14
  clear hb14
  -- row
  go_wp2_with fail
  have hR9 : Rd (w14.alloc (.cells #[.int .u64 (pW 2 false : Nat), .int .u64 (sW 3 : Nat)] 52)) 1 (some ⟨w14.heap.size, 0, none⟩) 2 (uw [pW 2 false, sW 3]) := rd_row w14 w14.heap.size [pW 2 false, sW 3] #[.int .u64 (pW 2 false : Nat), .int .u64 (sW 3 : Nat)] rfl (by simp)
  replace hS3 := hS3.to (balloc (Below.refl _ _) (.cells #[.int .u64 (pW 2 false : Nat), .int .u64 (sW 3 : Nat)] 52))
  replace hS5 := hS5.to (balloc (Below.refl _ _) (.cells #[.int .u64 (pW 2 false : Nat), .int .u64 (sW 3 : Nat)] 52))
  replace hS8 := hS8.to (balloc (Below.refl _ _) (.cells #[.int .u64 (pW 2 false : Nat), .int .u64 (sW 3 : Nat)] 52))
  replace hL := hL.alloc (.cells #[.int .u64 (pW 2 false : Nat), .int .u64 (sW 3 : Nat)] 52)
  replace hB0 := balloc hB0 (.cells #[.int .u64 (pW 2 false : Nat), .int .u64 (sW 3 : Nat)] 52)
  generalize (w14.alloc (.cells #[.int .u64 (pW 2 false : Nat), .int .u64 (sW 3 : Nat)] 52)) = w15 at *
  refine (p_any 2 false _ (by decide) (by decide) hL).mono ?_
  rintro e w16 ⟨rfl, hb16⟩
  replace hR9 := hR9.below hb16 (Nat.le_refl _)
  replace hS3 := hS3.to hb16
  replace hS5 := hS5.to hb16
  replace hS8 := hS8.to hb16
  replace hL := hL.below hb16
  replace hB0 := bnext hB0 hb16
  clear hb16
  go_wp2_with fail
  refine (s_any 3 _ (by decide) (by decide) hL).mono ?_
  rintro e w17 ⟨rfl, hb17⟩
  replace hR9 := hR9.below hb17 (Nat.le_refl _)
  replace hS3 := hS3.to hb17
  replace hS5 := hS5.to hb17
  replace hS8 := hS8.to hb17
  replace hL := hL.below hb17
  replace hB0 := bnext hB0 hb17
  clear hb17
  -- row
  go_wp2_with fail
  have hR10 : Rd (w17.alloc (.cells #[.int .u64 (pW 2 false : Nat), .int .u64 (sW 3 : Nat)] 52)) 1 (some ⟨w17.heap.size, 0, none⟩) 2 (uw [pW 2 false, sW 3]) := rd_row w17 w17.heap.size [pW 2 false, sW 3] #[.int .u64 (pW 2 false : Nat), .int .u64 (sW 3 : Nat)] rfl (by simp)
  replace hR9 := hR9.alloc (.cells #[.int .u64 (pW 2 false : Nat), .int .u64 (sW 3 : Nat)] 52)
  replace hS3 := hS3.to (balloc (Below.refl _ _) (.cells #[.int .u64 (pW 2 false : Nat), .int .u64 (sW 3 : Nat)] 52))
  replace hS5 := hS5.to (balloc (Below.refl _ _) (.cells #[.int .u64 (pW 2 false : Nat), .int .u64 (sW 3 : Nat)] 52))
  replace hS8 := hS8.to (balloc (Below.refl _ _) (.cells #[.int .u64 (pW 2 false : Nat), .int .u64 (sW 3 : Nat)] 52))
  replace hL := hL.alloc (.cells #[.int .u64 (pW 2 false : Nat), .int .u64 (sW 3 : Nat)] 52)
  replace hB0 := balloc hB0 (.cells #[.int .u64 (pW 2 false : Nat), .int .u64 (sW 3 : Nat)] 52)
  have hS11 : ShO ((w17.alloc (.cells #[.int .u64 (pW 2 false : Nat), .int .u64 (sW 3 : Nat)] 52)).alloc (.cells #[.slice (some ⟨w14.heap.size, 0, none⟩) 2 2, .slice (some ⟨w17.heap.size, 0, none⟩) 2 2] 54)) (.slice (some ⟨(w17.heap.size + 1), 0, none⟩) 2 2) [[pW 2 false, sW 3], [pW 2 false, sW 3]] := sho_two (w17.alloc (.cells #[.int .u64 (pW 2 false : Nat), .int .u64 (sW 3 : Nat)] 52)) (w17.heap.size + 1) hR9 hR10 (by simp)
  replace hR9 := hR9.alloc (.cells #[.slice (some ⟨w14.heap.size, 0, none⟩) 2 2, .slice (some ⟨w17.heap.size, 0, none⟩) 2 2] 54)
  replace hR10 := hR10.alloc (.cells #[.slice (some ⟨w14.heap.size, 0, none⟩) 2 2, .slice (some ⟨w17.heap.size, 0, none⟩) 2 2] 54)
  replace hS3 := hS3.to (balloc (Below.refl _ _) (.cells #[.slice (some ⟨w14.heap.size, 0, none⟩) 2 2, .slice (some ⟨w17.heap.size, 0, none⟩) 2 2] 54))
  replace hS5 := hS5.to (balloc (Below.refl _ _) (.cells #[.slice (some ⟨w14.heap.size, 0, none⟩) 2 2, .slice (some ⟨w17.heap.size, 0, none⟩) 2 2] 54))
  replace hS8 := hS8.to (balloc (Below.refl _ _) (.cells #[.slice (some ⟨w14.heap.size, 0, none⟩) 2 2, .slice (some ⟨w17.heap.size, 0, none⟩) 2 2] 54))
  replace hL := hL.alloc (.cells #[.slice (some ⟨w14.heap.size, 0, none⟩) 2 2, .slice (some ⟨w17.heap.size, 0, none⟩) 2 2] 54)
  replace hB0 := balloc hB0 (.cells #[.slice (some ⟨w14.heap.size, 0, none⟩) 2 2, .slice (some ⟨w17.heap.size, 0, none⟩) 2 2] 54)
  generalize ((w17.alloc (.cells #[.int .u64 (pW 2 false : Nat), .int .u64 (sW 3 : Nat)] 52)).alloc (.cells #[.slice (some ⟨w14.heap.size, 0, none⟩) 2 2, .slice (some ⟨w17.heap.size, 0, none⟩) 2 2] 54)) = w18 at *
  refine (of_any _ _).mono ?_
  rintro e w' ⟨rfl, rfl⟩
  clear hR9 hR10
  go_wp2_with fail
  refine (oCounts_ok _ _ _ hS11 (fit_of Fcn.out) hL Hcn.out).mono ?_
  rintro e w19 ⟨⟨bm, om, cm, br, or', cr, rfl, hMp, hRf⟩, hb19⟩
  clear hS11
  replace hS3 := hS3.to hb19
  replace hS5 := hS5.to hb19
  replace hS8 := hS8.to hb19
  replace hL := hL.below hb19
  replace hB0 := bnext hB0 hb19
  clear hb19
  go_wp2_with fail
  have hcall := oBreak_any _ _ 1 0 1 _ hS3 (fit_of Ftwo.out) hL
  rw [Hf.out] at hcall
  refine hcall.mono ?_
  clear hcall
  rintro e w20 ⟨⟨vVF, rfl, hVF⟩, hb20⟩
  simp only at hVF ⊢
  replace hMp := hMp.below hb20 (Nat.le_refl _)
  replace hRf := hRf.below hb20 (Nat.le_refl _)
  replace hS3 := hS3.to hb20
  replace hS5 := hS5.to hb20
  replace hS8 := hS8.to hb20
  replace hL := hL.below hb20
  replace hB0 := bnext hB0 hb20
  clear hb20
  clear hVF
  go_wp2_with fail
  have hcall := oBreak_any _ _ 0 0 7 _ hS5 (fit_of Fone.out) hL
  rw [Hg.out] at hcall
  refine hcall.mono ?_
  clear hcall
  rintro e w21 ⟨⟨vVG, rfl, hVG⟩, hb21⟩
  simp only at hVG ⊢
  replace hMp := hMp.below hb21 (Nat.le_refl _)
  replace hRf := hRf.below hb21 (Nat.le_refl _)
  replace hS3 := hS3.to hb21
  replace hS5 := hS5.to hb21
  replace hS8 := hS8.to hb21
  replace hL := hL.below hb21
  replace hB0 := bnext hB0 hb21
  clear hb21
  clear hVG
  go_wp2_with fail
  have hcall := oTake_any _ _ 0 0 _ hS5 (fit_of Fone.out) hL
  rw [Hh.out] at hcall
  refine hcall.mono ?_
  clear hcall
  rintro e w22 ⟨⟨vVH, rfl, hVH⟩, hb22⟩
  simp only at hVH ⊢
  replace hMp := hMp.below hb22 (Nat.le_refl _)
  replace hRf := hRf.below hb22 (Nat.le_refl _)
  replace hS3 := hS3.to hb22
  replace hS5 := hS5.to hb22
  replace hS8 := hS8.to hb22
  replace hL := hL.below hb22
  replace hB0 := bnext hB0 hb22
  clear hb22
  go_wp2_with fail
  have hcall := oTake_any _ _ 0 0 _ hS3 (fit_of Ftwo.out) hL
  rw [Hi.out] at hcall
  refine hcall.mono ?_
  clear hcall
  rintro e w23 ⟨⟨vVI, rfl, hVI⟩, hb23⟩
  simp only at hVI ⊢
  replace hMp := hMp.below hb23 (Nat.le_refl _)
  replace hRf := hRf.below hb23 (Nat.le_refl _)
  replace hS3 := hS3.to hb23
  replace hS5 := hS5.to hb23
  replace hS8 := hS8.to hb23
  replace hVH := hVH.to hb23
  replace hL := hL.below hb23
  replace hB0 := bnext hB0 hb23
  clear hb23
  clear hVI
  go_wp2_with fail
  have hcall := oOut_any _ _ 2 5 _ hS5 (fit_of Fone.out) hL
  rw [Hj.out] at hcall
  refine hcall.mono ?_
  clear hcall
  rintro e w24 ⟨⟨vVJ, rfl, hVJ⟩, hb24⟩
  simp only at hVJ ⊢
  replace hMp := hMp.below hb24 (Nat.le_refl _)
  replace hRf := hRf.below hb24 (Nat.le_refl _)
  replace hS3 := hS3.to hb24
  replace hS5 := hS5.to hb24
  replace hS8 := hS8.to hb24
  replace hVH := hVH.to hb24
  replace hL := hL.below hb24
  replace hB0 := bnext hB0 hb24
  clear hb24
  clear hVJ
  go_wp2_with fail
  refine (p_any 1 false _ (by decide) (by decide) hL).mono ?_
  rintro e w25 ⟨rfl, hb25⟩
  replace hMp := hMp.below hb25 (Nat.le_refl _)
  replace hRf := hRf.below hb25 (Nat.le_refl _)
  replace hS3 := hS3.to hb25
  replace hS5 := hS5.to hb25
  replace hS8 := hS8.to hb25
  replace hVH := hVH.to hb25
  replace hL := hL.below hb25
  replace hB0 := bnext hB0 hb25
  clear hb25
  go_wp2_with fail
  refine (s_any 5 _ (by decide) (by decide) hL).mono ?_
  rintro e w26 ⟨rfl, hb26⟩
  replace hMp := hMp.below hb26 (Nat.le_refl _)
  replace hRf := hRf.below hb26 (Nat.le_refl _)
  replace hS3 := hS3.to hb26
  replace hS5 := hS5.to hb26
  replace hS8 := hS8.to hb26
  replace hVH := hVH.to hb26
  replace hL := hL.below hb26
  replace hB0 := bnext hB0 hb26
  clear hb26
  -- row
  go_wp2_with fail
  have hR12 : Rd (w26.alloc (.cells #[.int .u64 (pW 1 false : Nat), .int .u64 (sW 5 : Nat)] 52)) 1 (some ⟨w26.heap.size, 0, none⟩) 2 (uw [pW 1 false, sW 5]) := rd_row w26 w26.heap.size [pW 1 false, sW 5] #[.int .u64 (pW 1 false : Nat), .int .u64 (sW 5 : Nat)] rfl (by simp)
  replace hMp := hMp.alloc (.cells #[.int .u64 (pW 1 false : Nat), .int .u64 (sW 5 : Nat)] 52)
  replace hRf := hRf.alloc (.cells #[.int .u64 (pW 1 false : Nat), .int .u64 (sW 5 : Nat)] 52)
  replace hS3 := hS3.to (balloc (Below.refl _ _) (.cells #[.int .u64 (pW 1 false : Nat), .int .u64 (sW 5 : Nat)] 52))
  replace hS5 := hS5.to (balloc (Below.refl _ _) (.cells #[.int .u64 (pW 1 false : Nat), .int .u64 (sW 5 : Nat)] 52))
  replace hS8 := hS8.to (balloc (Below.refl _ _) (.cells #[.int .u64 (pW 1 false : Nat), .int .u64 (sW 5 : Nat)] 52))
  replace hVH := hVH.to (balloc (Below.refl _ _) (.cells #[.int .u64 (pW 1 false : Nat), .int .u64 (sW 5 : Nat)] 52))
  replace hL := hL.alloc (.cells #[.int .u64 (pW 1 false : Nat), .int .u64 (sW 5 : Nat)] 52)
  replace hB0 := balloc hB0 (.cells #[.int .u64 (pW 1 false : Nat), .int .u64 (sW 5 : Nat)] 52)
  have hS13 : ShO ((w26.alloc (.cells #[.int .u64 (pW 1 false : Nat), .int .u64 (sW 5 : Nat)] 52)).alloc (.cells #[.slice (some ⟨w26.heap.size, 0, none⟩) 2 2] 54)) (.slice (some ⟨(w26.heap.size + 1), 0, none⟩) 1 1) [[pW 1 false, sW 5]] := sho_one (w26.alloc (.cells #[.int .u64 (pW 1 false : Nat), .int .u64 (sW 5 : Nat)] 52)) (w26.heap.size + 1) hR12 (by simp)
  replace hMp := hMp.alloc (.cells #[.slice (some ⟨w26.heap.size, 0, none⟩) 2 2] 54)
  replace hRf := hRf.alloc (.cells #[.slice (some ⟨w26.heap.size, 0, none⟩) 2 2] 54)
  replace hR12 := hR12.alloc (.cells #[.slice (some ⟨w26.heap.size, 0, none⟩) 2 2] 54)
  replace hS3 := hS3.to (balloc (Below.refl _ _) (.cells #[.slice (some ⟨w26.heap.size, 0, none⟩) 2 2] 54))
  replace hS5 := hS5.to (balloc (Below.refl _ _) (.cells #[.slice (some ⟨w26.heap.size, 0, none⟩) 2 2] 54))
  replace hS8 := hS8.to (balloc (Below.refl _ _) (.cells #[.slice (some ⟨w26.heap.size, 0, none⟩) 2 2] 54))
  replace hVH := hVH.to (balloc (Below.refl _ _) (.cells #[.slice (some ⟨w26.heap.size, 0, none⟩) 2 2] 54))
  replace hL := hL.alloc (.cells #[.slice (some ⟨w26.heap.size, 0, none⟩) 2 2] 54)
  replace hB0 := balloc hB0 (.cells #[.slice (some ⟨w26.heap.size, 0, none⟩) 2 2] 54)
  generalize ((w26.alloc (.cells #[.int .u64 (pW 1 false : Nat), .int .u64 (sW 5 : Nat)] 52)).alloc (.cells #[.slice (some ⟨w26.heap.size, 0, none⟩) 2 2] 54)) = w27 at *
  refine (of_any _ _).mono ?_
  rintro e w' ⟨rfl, rfl⟩
  clear hR12
  go_wp2_with fail
  have hcall := oOut_any _ _ 1 5 _ hS13 (fit_of Fo15.out) hL
  rw [Hk.out] at hcall
  refine hcall.mono ?_
  clear hcall
  rintro e w28 ⟨⟨vVK, rfl, hVK⟩, hb28⟩
  simp only at hVK ⊢
  clear hS13
  replace hMp := hMp.below hb28 (Nat.le_refl _)
  replace hRf := hRf.below hb28 (Nat.le_refl _)
  replace hS3 := hS3.to hb28
  replace hS5 := hS5.to hb28
  replace hS8 := hS8.to hb28
  replace hVH := hVH.to hb28
  replace hL := hL.below hb28
  replace hB0 := bnext hB0 hb28
  clear hb28
  clear hVK
  go_wp2_with fail
  refine (p_any 1 true _ (by decide) (by decide) hL).mono ?_
  rintro e w29 ⟨rfl, hb29⟩
  replace hMp := hMp.below hb29 (Nat.le_refl _)
  replace hRf := hRf.below hb29 (Nat.le_refl _)
  replace hS3 := hS3.to hb29
  replace hS5 := hS5.to hb29
  replace hS8 := hS8.to hb29
  replace hVH := hVH.to hb29
  replace hL := hL.below hb29
  replace hB0 := bnext hB0 hb29
  clear hb29
  -- row
  go_wp2_with fail
  have hR14 : Rd (w29.alloc (.cells #[.int .u64 (pW 1 true : Nat)] 52)) 1 (some ⟨w29.heap.size, 0, none⟩) 1 (uw [pW 1 true]) := rd_row w29 w29.heap.size [pW 1 true] #[.int .u64 (pW 1 true : Nat)] rfl (by simp)
  replace hMp := hMp.alloc (.cells #[.int .u64 (pW 1 true : Nat)] 52)
  replace hRf := hRf.alloc (.cells #[.int .u64 (pW 1 true : Nat)] 52)
  replace hS3 := hS3.to (balloc (Below.refl _ _) (.cells #[.int .u64 (pW 1 true : Nat)] 52))
  replace hS5 := hS5.to (balloc (Below.refl _ _) (.cells #[.int .u64 (pW 1 true : Nat)] 52))
  replace hS8 := hS8.to (balloc (Below.refl _ _) (.cells #[.int .u64 (pW 1 true : Nat)] 52))
  replace hVH := hVH.to (balloc (Below.refl _ _) (.cells #[.int .u64 (pW 1 true : Nat)] 52))
  replace hL := hL.alloc (.cells #[.int .u64 (pW 1 true : Nat)] 52)
  replace hB0 := balloc hB0 (.cells #[.int .u64 (pW 1 true : Nat)] 52)
  generalize (w29.alloc (.cells #[.int .u64 (pW 1 true : Nat)] 52)) = w30 at *
  refine (p_any 1 false _ (by decide) (by decide) hL).mono ?_
  rintro e w31 ⟨rfl, hb31⟩
  replace hMp := hMp.below hb31 (Nat.le_refl _)
  replace hRf := hRf.below hb31 (Nat.le_refl _)
  replace hR14 := hR14.below hb31 (Nat.le_refl _)
  replace hS3 := hS3.to hb31
  replace hS5 := hS5.to hb31
  replace hS8 := hS8.to hb31
  replace hVH := hVH.to hb31
  replace hL := hL.below hb31
  replace hB0 := bnext hB0 hb31
  clear hb31
  -- row
  go_wp2_with fail
  have hR15 : Rd (w31.alloc (.cells #[.int .u64 (pW 1 false : Nat)] 52)) 1 (some ⟨w31.heap.size, 0, none⟩) 1 (uw [pW 1 false]) := rd_row w31 w31.heap.size [pW 1 false] #[.int .u64 (pW 1 false : Nat)] rfl (by simp)
  replace hMp := hMp.alloc (.cells #[.int .u64 (pW 1 false : Nat)] 52)
  replace hRf := hRf.alloc (.cells #[.int .u64 (pW 1 false : Nat)] 52)
  replace hR14 := hR14.alloc (.cells #[.int .u64 (pW 1 false : Nat)] 52)
  replace hS3 := hS3.to (balloc (Below.refl _ _) (.cells #[.int .u64 (pW 1 false : Nat)] 52))
  replace hS5 := hS5.to (balloc (Below.refl _ _) (.cells #[.int .u64 (pW 1 false : Nat)] 52))
  replace hS8 := hS8.to (balloc (Below.refl _ _) (.cells #[.int .u64 (pW 1 false : Nat)] 52))
  replace hVH := hVH.to (balloc (Below.refl _ _) (.cells #[.int .u64 (pW 1 false : Nat)] 52))
  replace hL := hL.alloc (.cells #[.int .u64 (pW 1 false : Nat)] 52)
  replace hB0 := balloc hB0 (.cells #[.int .u64 (pW 1 false : Nat)] 52)
  have hS16 : ShO ((w31.alloc (.cells #[.int .u64 (pW 1 false : Nat)] 52)).alloc (.cells #[.slice (some ⟨w29.heap.size, 0, none⟩) 1 1, .slice (some ⟨w31.heap.size, 0, none⟩) 1 1] 54)) (.slice (some ⟨(w31.heap.size + 1), 0, none⟩) 2 2) [[pW 1 true], [pW 1 false]] := sho_two (w31.alloc (.cells #[.int .u64 (pW 1 false : Nat)] 52)) (w31.heap.size + 1) hR14 hR15 (by simp)
  replace hMp := hMp.alloc (.cells #[.slice (some ⟨w29.heap.size, 0, none⟩) 1 1, .slice (some ⟨w31.heap.size, 0, none⟩) 1 1] 54)
  replace hRf := hRf.alloc (.cells #[.slice (some ⟨w29.heap.size, 0, none⟩) 1 1, .slice (some ⟨w31.heap.size, 0, none⟩) 1 1] 54)
  replace hR14 := hR14.alloc (.cells #[.slice (some ⟨w29.heap.size, 0, none⟩) 1 1, .slice (some ⟨w31.heap.size, 0, none⟩) 1 1] 54)
  replace hR15 := hR15.alloc (.cells #[.slice (some ⟨w29.heap.size, 0, none⟩) 1 1, .slice (some ⟨w31.heap.size, 0, none⟩) 1 1] 54)
  replace hS3 := hS3.to (balloc (Below.refl _ _) (.cells #[.slice (some ⟨w29.heap.size, 0, none⟩) 1 1, .slice (some ⟨w31.heap.size, 0, none⟩) 1 1] 54))
  replace hS5 := hS5.to (balloc (Below.refl _ _) (.cells #[.slice (some ⟨w29.heap.size, 0, none⟩) 1 1, .slice (some ⟨w31.heap.size, 0, none⟩) 1 1] 54))
  replace hS8 := hS8.to (balloc (Below.refl _ _) (.cells #[.slice (some ⟨w29.heap.size, 0, none⟩) 1 1, .slice (some ⟨w31.heap.size, 0, none⟩) 1 1] 54))
  replace hVH := hVH.to (balloc (Below.refl _ _) (.cells #[.slice (some ⟨w29.heap.size, 0, none⟩) 1 1, .slice (some ⟨w31.heap.size, 0, none⟩) 1 1] 54))
  replace hL := hL.alloc (.cells #[.slice (some ⟨w29.heap.size, 0, none⟩) 1 1, .slice (some ⟨w31.heap.size, 0, none⟩) 1 1] 54)
  replace hB0 := balloc hB0 (.cells #[.slice (some ⟨w29.heap.size, 0, none⟩) 1 1, .slice (some ⟨w31.heap.size, 0, none⟩) 1 1] 54)
  generalize ((w31.alloc (.cells #[.int .u64 (pW 1 false : Nat)] 52)).alloc (.cells #[.slice (some ⟨w29.heap.size, 0, none⟩) 1 1, .slice (some ⟨w31.heap.size, 0, none⟩) 1 1] 54)) = w32 at *
  refine (of_any _ _).mono ?_
  rintro e w' ⟨rfl, rfl⟩
  clear hR14 hR15
  go_wp2_with fail
  have hcall := oCheck_any _ _ _ hS16 (fit_of Fck1.out) hL
  rw [Hl.out] at hcall
  refine hcall.mono ?_
  clear hcall
  rintro e w33 ⟨rfl, hb33⟩
  simp only
  clear hS16
  replace hMp := hMp.below hb33 (Nat.le_refl _)
  replace hRf := hRf.below hb33 (Nat.le_refl _)
  replace hS3 := hS3.to hb33
  replace hS5 := hS5.to hb33
  replace hS8 := hS8.to hb33
  replace hVH := hVH.to hb33
  replace hL := hL.below hb33
  replace hB0 := bnext hB0 hb33
  clear hb33
  go_wp2_with fail
  refine (p_any 1 true _ (by decide) (by decide) hL).mono ?_
  rintro e w34 ⟨rfl, hb34⟩
  replace hMp := hMp.below hb34 (Nat.le_refl _)
  replace hRf := hRf.below hb34 (Nat.le_refl _)
  replace hS3 := hS3.to hb34
  replace hS5 := hS5.to hb34
  replace hS8 := hS8.to hb34
  replace hVH := hVH.to hb34
  replace hL := hL.below hb34
  replace hB0 := bnext hB0 hb34
  clear hb34
  go_wp2_with fail
  refine (p_any 1 true _ (by decide) (by decide) hL).mono ?_
  rintro e w35 ⟨rfl, hb35⟩
  replace hMp := hMp.below hb35 (Nat.le_refl _)
  replace hRf := hRf.below hb35 (Nat.le_refl _)
  replace hS3 := hS3.to hb35
  replace hS5 := hS5.to hb35
  replace hS8 := hS8.to hb35
  replace hVH := hVH.to hb35
  replace hL := hL.below hb35
  replace hB0 := bnext hB0 hb35
  clear hb35
  -- row
  go_wp2_with fail
  have hR17 : Rd (w35.alloc (.cells #[.int .u64 (pW 1 true : Nat), .int .u64 (pW 1 true : Nat)] 52)) 1 (some ⟨w35.heap.size, 0, none⟩) 2 (uw [pW 1 true, pW 1 true]) := rd_row w35 w35.heap.size [pW 1 true, pW 1 true] #[.int .u64 (pW 1 true : Nat), .int .u64 (pW 1 true : Nat)] rfl (by simp)
  replace hMp := hMp.alloc (.cells #[.int .u64 (pW 1 true : Nat), .int .u64 (pW 1 true : Nat)] 52)
  replace hRf := hRf.alloc (.cells #[.int .u64 (pW 1 true : Nat), .int .u64 (pW 1 true : Nat)] 52)
  replace hS3 := hS3.to (balloc (Below.refl _ _) (.cells #[.int .u64 (pW 1 true : Nat), .int .u64 (pW 1 true : Nat)] 52))
  replace hS5 := hS5.to (balloc (Below.refl _ _) (.cells #[.int .u64 (pW 1 true : Nat), .int .u64 (pW 1 true : Nat)] 52))
  replace hS8 := hS8.to (balloc (Below.refl _ _) (.cells #[.int .u64 (pW 1 true : Nat), .int .u64 (pW 1 true : Nat)] 52))
  replace hVH := hVH.to (balloc (Below.refl _ _) (.cells #[.int .u64 (pW 1 true : Nat), .int .u64 (pW 1 true : Nat)] 52))
  replace hL := hL.alloc (.cells #[.int .u64 (pW 1 true : Nat), .int .u64 (pW 1 true : Nat)] 52)
  replace hB0 := balloc hB0 (.cells #[.int .u64 (pW 1 true : Nat), .int .u64 (pW 1 true : Nat)] 52)
  have hS18 : ShO ((w35.alloc (.cells #[.int .u64 (pW 1 true : Nat), .int .u64 (pW 1 true : Nat)] 52)).alloc (.cells #[.slice (some ⟨w35.heap.size, 0, none⟩) 2 2] 54)) (.slice (some ⟨(w35.heap.size + 1), 0, none⟩) 1 1) [[pW 1 true, pW 1 true]] := sho_one (w35.alloc (.cells #[.int .u64 (pW 1 true : Nat), .int .u64 (pW 1 true : Nat)] 52)) (w35.heap.size + 1) hR17 (by simp)
  replace hMp := hMp.alloc (.cells #[.slice (some ⟨w35.heap.size, 0, none⟩) 2 2] 54)
  replace hRf := hRf.alloc (.cells #[.slice (some ⟨w35.heap.size, 0, none⟩) 2 2] 54)
  replace hR17 := hR17.alloc (.cells #[.slice (some ⟨w35.heap.size, 0, none⟩) 2 2] 54)
  replace hS3 := hS3.to (balloc (Below.refl _ _) (.cells #[.slice (some ⟨w35.heap.size, 0, none⟩) 2 2] 54))
  replace hS5 := hS5.to (balloc (Below.refl _ _) (.cells #[.slice (some ⟨w35.heap.size, 0, none⟩) 2 2] 54))
  replace hS8 := hS8.to (balloc (Below.refl _ _) (.cells #[.slice (some ⟨w35.heap.size, 0, none⟩) 2 2] 54))
  replace hVH := hVH.to (balloc (Below.refl _ _) (.cells #[.slice (some ⟨w35.heap.size, 0, none⟩) 2 2] 54))
  replace hL := hL.alloc (.cells #[.slice (some ⟨w35.heap.size, 0, none⟩) 2 2] 54)
  replace hB0 := balloc hB0 (.cells #[.slice (some ⟨w35.heap.size, 0, none⟩) 2 2] 54)
  generalize ((w35.alloc (.cells #[.int .u64 (pW 1 true : Nat), .int .u64 (pW 1 true : Nat)] 52)).alloc (.cells #[.slice (some ⟨w35.heap.size, 0, none⟩) 2 2] 54)) = w36 at *
  refine (of_any _ _).mono ?_
  rintro e w' ⟨rfl, rfl⟩
  clear hR17
  go_wp2_with fail
  have hcall := oCheck_any _ _ _ hS18 (fit_of Fck2.out) hL
  rw [Hm.out] at hcall
  refine hcall.mono ?_
  clear hcall
  rintro e w37 ⟨rfl, hb37⟩
  simp only
  clear hS18
  replace hMp := hMp.below hb37 (Nat.le_refl _)
  replace hRf := hRf.below hb37 (Nat.le_refl _)
  replace hS3 := hS3.to hb37
  replace hS5 := hS5.to hb37
  replace hS8 := hS8.to hb37
  replace hVH := hVH.to hb37
  replace hL := hL.below hb37
  replace hB0 := bnext hB0 hb37
  clear hb37
  go_wp2_with fail
  refine (p_any 1 false _ (by decide) (by decide) hL).mono ?_
  rintro e w38 ⟨rfl, hb38⟩
  replace hMp := hMp.below hb38 (Nat.le_refl _)
  replace hRf := hRf.below hb38 (Nat.le_refl _)
  replace hS3 := hS3.to hb38
  replace hS5 := hS5.to hb38
  replace hS8 := hS8.to hb38
  replace hVH := hVH.to hb38
  replace hL := hL.below hb38
  replace hB0 := bnext hB0 hb38
  clear hb38
  -- row
  go_wp2_with fail
  have hR19 : Rd (w38.alloc (.cells #[.int .u64 (pW 1 false : Nat)] 52)) 1 (some ⟨w38.heap.size, 0, none⟩) 1 (uw [pW 1 false]) := rd_row w38 w38.heap.size [pW 1 false] #[.int .u64 (pW 1 false : Nat)] rfl (by simp)
  replace hMp := hMp.alloc (.cells #[.int .u64 (pW 1 false : Nat)] 52)
  replace hRf := hRf.alloc (.cells #[.int .u64 (pW 1 false : Nat)] 52)
  replace hS3 := hS3.to (balloc (Below.refl _ _) (.cells #[.int .u64 (pW 1 false : Nat)] 52))
  replace hS5 := hS5.to (balloc (Below.refl _ _) (.cells #[.int .u64 (pW 1 false : Nat)] 52))
  replace hS8 := hS8.to (balloc (Below.refl _ _) (.cells #[.int .u64 (pW 1 false : Nat)] 52))
  replace hVH := hVH.to (balloc (Below.refl _ _) (.cells #[.int .u64 (pW 1 false : Nat)] 52))
  replace hL := hL.alloc (.cells #[.int .u64 (pW 1 false : Nat)] 52)
  replace hB0 := balloc hB0 (.cells #[.int .u64 (pW 1 false : Nat)] 52)
  generalize (w38.alloc (.cells #[.int .u64 (pW 1 false : Nat)] 52)) = w39 at *
  refine (p_any 1 false _ (by decide) (by decide) hL).mono ?_
  rintro e w40 ⟨rfl, hb40⟩
  replace hMp := hMp.below hb40 (Nat.le_refl _)
  replace hRf := hRf.below hb40 (Nat.le_refl _)
  replace hR19 := hR19.below hb40 (Nat.le_refl _)
  replace hS3 := hS3.to hb40
  replace hS5 := hS5.to hb40
  replace hS8 := hS8.to hb40
  replace hVH := hVH.to hb40
  replace hL := hL.below hb40
  replace hB0 := bnext hB0 hb40
  clear hb40
  go_wp2_with fail
  refine (p_any 1 false _ (by decide) (by decide) hL).mono ?_
  rintro e w41 ⟨rfl, hb41⟩
  replace hMp := hMp.below hb41 (Nat.le_refl _)
  replace hRf := hRf.below hb41 (Nat.le_refl _)
  replace hR19 := hR19.below hb41 (Nat.le_refl _)
  replace hS3 := hS3.to hb41
  replace hS5 := hS5.to hb41
  replace hS8 := hS8.to hb41
  replace hVH := hVH.to hb41
  replace hL := hL.below hb41
  replace hB0 := bnext hB0 hb41
  clear hb41
  -- row
  go_wp2_with fail
  have hR20 : Rd (w41.alloc (.cells #[.int .u64 (pW 1 false : Nat), .int .u64 (pW 1 false : Nat)] 52)) 1 (some ⟨w41.heap.size, 0, none⟩) 2 (uw [pW 1 false, pW 1 false]) := rd_row w41 w41.heap.size [pW 1 false, pW 1 false] #[.int .u64 (pW 1 false : Nat), .int .u64 (pW 1 false : Nat)] rfl (by simp)
  replace hMp := hMp.alloc (.cells #[.int .u64 (pW 1 false : Nat), .int .u64 (pW 1 false : Nat)] 52)
  replace hRf := hRf.alloc (.cells #[.int .u64 (pW 1 false : Nat), .int .u64 (pW 1 false : Nat)] 52)
  replace hR19 := hR19.alloc (.cells #[.int .u64 (pW 1 false : Nat), .int .u64 (pW 1 false : Nat)] 52)
  replace hS3 := hS3.to (balloc (Below.refl _ _) (.cells #[.int .u64 (pW 1 false : Nat), .int .u64 (pW 1 false : Nat)] 52))
  replace hS5 := hS5.to (balloc (Below.refl _ _) (.cells #[.int .u64 (pW 1 false : Nat), .int .u64 (pW 1 false : Nat)] 52))
  replace hS8 := hS8.to (balloc (Below.refl _ _) (.cells #[.int .u64 (pW 1 false : Nat), .int .u64 (pW 1 false : Nat)] 52))
  replace hVH := hVH.to (balloc (Below.refl _ _) (.cells #[.int .u64 (pW 1 false : Nat), .int .u64 (pW 1 false : Nat)] 52))
  replace hL := hL.alloc (.cells #[.int .u64 (pW 1 false : Nat), .int .u64 (pW 1 false : Nat)] 52)
  replace hB0 := balloc hB0 (.cells #[.int .u64 (pW 1 false : Nat), .int .u64 (pW 1 false : Nat)] 52)
  have hS21 : ShO ((w41.alloc (.cells #[.int .u64 (pW 1 false : Nat), .int .u64 (pW 1 false : Nat)] 52)).alloc (.cells #[.slice (some ⟨w38.heap.size, 0, none⟩) 1 1, .slice (some ⟨w41.heap.size, 0, none⟩) 2 2] 54)) (.slice (some ⟨(w41.heap.size + 1), 0, none⟩) 2 2) [[pW 1 false], [pW 1 false, pW 1 false]] := sho_two (w41.alloc (.cells #[.int .u64 (pW 1 false : Nat), .int .u64 (pW 1 false : Nat)] 52)) (w41.heap.size + 1) hR19 hR20 (by simp)
  replace hMp := hMp.alloc (.cells #[.slice (some ⟨w38.heap.size, 0, none⟩) 1 1, .slice (some ⟨w41.heap.size, 0, none⟩) 2 2] 54)
  replace hRf := hRf.alloc (.cells #[.slice (some ⟨w38.heap.size, 0, none⟩) 1 1, .slice (some ⟨w41.heap.size, 0, none⟩) 2 2] 54)
  replace hR19 := hR19.alloc (.cells #[.slice (some ⟨w38.heap.size, 0, none⟩) 1 1, .slice (some ⟨w41.heap.size, 0, none⟩) 2 2] 54)
  replace hR20 := hR20.alloc (.cells #[.slice (some ⟨w38.heap.size, 0, none⟩) 1 1, .slice (some ⟨w41.heap.size, 0, none⟩) 2 2] 54)
  replace hS3 := hS3.to (balloc (Below.refl _ _) (.cells #[.slice (some ⟨w38.heap.size, 0, none⟩) 1 1, .slice (some ⟨w41.heap.size, 0, none⟩) 2 2] 54))
  replace hS5 := hS5.to (balloc (Below.refl _ _) (.cells #[.slice (some ⟨w38.heap.size, 0, none⟩) 1 1, .slice (some ⟨w41.heap.size, 0, none⟩) 2 2] 54))
  replace hS8 := hS8.to (balloc (Below.refl _ _) (.cells #[.slice (some ⟨w38.heap.size, 0, none⟩) 1 1, .slice (some ⟨w41.heap.size, 0, none⟩) 2 2] 54))
  replace hVH := hVH.to (balloc (Below.refl _ _) (.cells #[.slice (some ⟨w38.heap.size, 0, none⟩) 1 1, .slice (some ⟨w41.heap.size, 0, none⟩) 2 2] 54))
  replace hL := hL.alloc (.cells #[.slice (some ⟨w38.heap.size, 0, none⟩) 1 1, .slice (some ⟨w41.heap.size, 0, none⟩) 2 2] 54)
  replace hB0 := balloc hB0 (.cells #[.slice (some ⟨w38.heap.size, 0, none⟩) 1 1, .slice (some ⟨w41.heap.size, 0, none⟩) 2 2] 54)
  generalize ((w41.alloc (.cells #[.int .u64 (pW 1 false : Nat), .int .u64 (pW 1 false : Nat)] 52)).alloc (.cells #[.slice (some ⟨w38.heap.size, 0, none⟩) 1 1, .slice (some ⟨w41.heap.size, 0, none⟩) 2 2] 54)) = w42 at *
  refine (of_any _ _).mono ?_
  rintro e w' ⟨rfl, rfl⟩
  clear hR19 hR20
  go_wp2_with fail
  refine (oSharers_ok _ _ 1 0 _ _ hS21 (fit_of Fsh.out) hL Hx.out (by decide)).mono ?_
  rintro e w43 ⟨⟨bx, ox, cx, rfl, hX⟩, hb43⟩
  clear hS21
  replace hMp := hMp.below hb43 (Nat.le_refl _)
  replace hRf := hRf.below hb43 (Nat.le_refl _)
  replace hS3 := hS3.to hb43
  replace hS5 := hS5.to hb43
  replace hS8 := hS8.to hb43
  replace hVH := hVH.to hb43
  replace hL := hL.below hb43
  replace hB0 := bnext hB0 hb43
  clear hb43
  simp only [List.length_cons, List.length_nil] at hX ⊢
  go_wp2_with fail
  refine (decides_true _ _ 0 0 1 _ hS8 (fit_of Fall.out) hL D0.out).mono ?_
  rintro e w44 ⟨rfl, hb44⟩
  replace hMp := hMp.below hb44 (Nat.le_refl _)
  replace hRf := hRf.below hb44 (Nat.le_refl _)
  replace hX := hX.below hb44 (Nat.le_refl _)
  replace hS3 := hS3.to hb44
  replace hS5 := hS5.to hb44
  replace hS8 := hS8.to hb44
  replace hVH := hVH.to hb44
  replace hL := hL.below hb44
  replace hB0 := bnext hB0 hb44
  clear hb44
  go_wp2_with fail
  refine (decides_true _ _ 0 1 2 _ hS8 (fit_of Fall.out) hL D1.out).mono ?_
  rintro e w45 ⟨rfl, hb45⟩
  replace hMp := hMp.below hb45 (Nat.le_refl _)
  replace hRf := hRf.below hb45 (Nat.le_refl _)
  replace hX := hX.below hb45 (Nat.le_refl _)
  replace hS3 := hS3.to hb45
  replace hS5 := hS5.to hb45
  replace hS8 := hS8.to hb45
  replace hVH := hVH.to hb45
  replace hL := hL.below hb45
  replace hB0 := bnext hB0 hb45
  clear hb45
  go_wp2_with fail
  refine (decides_true _ _ 0 3 5 _ hS8 (fit_of Fall.out) hL D3.out).mono ?_
  rintro e w46 ⟨rfl, hb46⟩
  replace hMp := hMp.below hb46 (Nat.le_refl _)
  replace hRf := hRf.below hb46 (Nat.le_refl _)
  replace hX := hX.below hb46 (Nat.le_refl _)
  replace hS3 := hS3.to hb46
  replace hS5 := hS5.to hb46
  replace hS8 := hS8.to hb46
  replace hVH := hVH.to hb46
  replace hL := hL.below hb46
  replace hB0 := bnext hB0 hb46
  clear hb46
  clear hS8
  go_wp2_with fail
  refine (p_any 2 false _ (by decide) (by decide) hL).mono ?_
  rintro e w47 ⟨rfl, hb47⟩
  replace hMp := hMp.below hb47 (Nat.le_refl _)
  replace hRf := hRf.below hb47 (Nat.le_refl _)
  replace hX := hX.below hb47 (Nat.le_refl _)
  replace hS3 := hS3.to hb47
  replace hS5 := hS5.to hb47
  replace hVH := hVH.to hb47
  replace hL := hL.below hb47
  replace hB0 := bnext hB0 hb47
  clear hb47
  -- row
  -- row
  go_wp2_with fail
  have hR22 : Rd (w47.alloc (.cells #[.int .u64 (pW 2 false : Nat)] 52)) 1 (some ⟨w47.heap.size, 0, none⟩) 1 (uw [pW 2 false]) := rd_row w47 w47.heap.size [pW 2 false] #[.int .u64 (pW 2 false : Nat)] rfl (by simp)
  replace hMp := hMp.alloc (.cells #[.int .u64 (pW 2 false : Nat)] 52)
  replace hRf := hRf.alloc (.cells #[.int .u64 (pW 2 false : Nat)] 52)
  replace hX := hX.alloc (.cells #[.int .u64 (pW 2 false : Nat)] 52)
  replace hS3 := hS3.to (balloc (Below.refl _ _) (.cells #[.int .u64 (pW 2 false : Nat)] 52))
  replace hS5 := hS5.to (balloc (Below.refl _ _) (.cells #[.int .u64 (pW 2 false : Nat)] 52))
  replace hVH := hVH.to (balloc (Below.refl _ _) (.cells #[.int .u64 (pW 2 false : Nat)] 52))
  replace hL := hL.alloc (.cells #[.int .u64 (pW 2 false : Nat)] 52)
  replace hB0 := balloc hB0 (.cells #[.int .u64 (pW 2 false : Nat)] 52)
  have hR23 : Rd ((w47.alloc (.cells #[.int .u64 (pW 2 false : Nat)] 52)).alloc (.cells #[.int .u64 0] 52)) 1 (some ⟨(w47.heap.size + 1), 0, none⟩) 1 (uw [0]) := rd_row (w47.alloc (.cells #[.int .u64 (pW 2 false : Nat)] 52)) (w47.heap.size + 1) [0] #[.int .u64 0] rfl (by simp)
  replace hMp := hMp.alloc (.cells #[.int .u64 0] 52)
  replace hRf := hRf.alloc (.cells #[.int .u64 0] 52)
  replace hX := hX.alloc (.cells #[.int .u64 0] 52)
  replace hR22 := hR22.alloc (.cells #[.int .u64 0] 52)
  replace hS3 := hS3.to (balloc (Below.refl _ _) (.cells #[.int .u64 0] 52))
  replace hS5 := hS5.to (balloc (Below.refl _ _) (.cells #[.int .u64 0] 52))
  replace hVH := hVH.to (balloc (Below.refl _ _) (.cells #[.int .u64 0] 52))
  replace hL := hL.alloc (.cells #[.int .u64 0] 52)
  replace hB0 := balloc hB0 (.cells #[.int .u64 0] 52)
  have hS24 : ShO (((w47.alloc (.cells #[.int .u64 (pW 2 false : Nat)] 52)).alloc (.cells #[.int .u64 0] 52)).alloc (.cells #[.slice (some ⟨w47.heap.size, 0, none⟩) 1 1, .slice (some ⟨(w47.heap.size + 1), 0, none⟩) 1 1] 54)) (.slice (some ⟨(w47.heap.size + 2), 0, none⟩) 2 2) [[pW 2 false], [0]] := sho_two ((w47.alloc (.cells #[.int .u64 (pW 2 false : Nat)] 52)).alloc (.cells #[.int .u64 0] 52)) (w47.heap.size + 2) hR22 hR23 (by simp)
  replace hMp := hMp.alloc (.cells #[.slice (some ⟨w47.heap.size, 0, none⟩) 1 1, .slice (some ⟨(w47.heap.size + 1), 0, none⟩) 1 1] 54)
  replace hRf := hRf.alloc (.cells #[.slice (some ⟨w47.heap.size, 0, none⟩) 1 1, .slice (some ⟨(w47.heap.size + 1), 0, none⟩) 1 1] 54)
  replace hX := hX.alloc (.cells #[.slice (some ⟨w47.heap.size, 0, none⟩) 1 1, .slice (some ⟨(w47.heap.size + 1), 0, none⟩) 1 1] 54)
  replace hR22 := hR22.alloc (.cells #[.slice (some ⟨w47.heap.size, 0, none⟩) 1 1, .slice (some ⟨(w47.heap.size + 1), 0, none⟩) 1 1] 54)
  replace hR23 := hR23.alloc (.cells #[.slice (some ⟨w47.heap.size, 0, none⟩) 1 1, .slice (some ⟨(w47.heap.size + 1), 0, none⟩) 1 1] 54)
  replace hS3 := hS3.to (balloc (Below.refl _ _) (.cells #[.slice (some ⟨w47.heap.size, 0, none⟩) 1 1, .slice (some ⟨(w47.heap.size + 1), 0, none⟩) 1 1] 54))
  replace hS5 := hS5.to (balloc (Below.refl _ _) (.cells #[.slice (some ⟨w47.heap.size, 0, none⟩) 1 1, .slice (some ⟨(w47.heap.size + 1), 0, none⟩) 1 1] 54))
  replace hVH := hVH.to (balloc (Below.refl _ _) (.cells #[.slice (some ⟨w47.heap.size, 0, none⟩) 1 1, .slice (some ⟨(w47.heap.size + 1), 0, none⟩) 1 1] 54))
  replace hL := hL.alloc (.cells #[.slice (some ⟨w47.heap.size, 0, none⟩) 1 1, .slice (some ⟨(w47.heap.size + 1), 0, none⟩) 1 1] 54)
  replace hB0 := balloc hB0 (.cells #[.slice (some ⟨w47.heap.size, 0, none⟩) 1 1, .slice (some ⟨(w47.heap.size + 1), 0, none⟩) 1 1] 54)
  generalize (((w47.alloc (.cells #[.int .u64 (pW 2 false : Nat)] 52)).alloc (.cells #[.int .u64 0] 52)).alloc (.cells #[.slice (some ⟨w47.heap.size, 0, none⟩) 1 1, .slice (some ⟨(w47.heap.size + 1), 0, none⟩) 1 1] 54)) = w48 at *
  refine (of_any _ _).mono ?_
  rintro e w' ⟨rfl, rfl⟩
  clear hR22 hR23
  go_wp2_with fail
  refine (decides_true _ _ 0 0 3 _ hS24 (fit_of Ftk.out) hL DT.out).mono ?_
  rintro e w49 ⟨rfl, hb49⟩
  replace hMp := hMp.below hb49 (Nat.le_refl _)
  replace hRf := hRf.below hb49 (Nat.le_refl _)
  replace hX := hX.below hb49 (Nat.le_refl _)
  replace hS3 := hS3.to hb49
  replace hS5 := hS5.to hb49
  replace hVH := hVH.to hb49
  replace hS24 := hS24.to hb49
  replace hL := hL.below hb49
  replace hB0 := bnext hB0 hb49
  clear hb49
  clear hS24
  obtain ⟨m2, lm⟩ := rd_iw hMp (by decide) 2 _ M2.out
  obtain ⟨m3, _⟩ := rd_iw hMp (by decide) 3 _ M3.out
  obtain ⟨r3, lr⟩ := rd_iw hRf (by decide) 3 _ R3.out
  clear hMp hRf
  go_wp2_with fail
  refine (p_any 1 true _ (by decide) (by decide) hL).mono ?_
  rintro e w50 ⟨rfl, hb50⟩
  replace hX := hX.below hb50 (Nat.le_refl _)
  replace hS3 := hS3.to hb50
  replace hS5 := hS5.to hb50
  replace hVH := hVH.to hb50
  replace hL := hL.below hb50
  replace hB0 := bnext hB0 hb50
  clear hb50
  -- row
  go_wp2_with fail
  have hR25 : Rd (w50.alloc (.cells #[.int .u64 (pW 1 true : Nat)] 52)) 1 (some ⟨w50.heap.size, 0, none⟩) 1 (uw [pW 1 true]) := rd_row w50 w50.heap.size [pW 1 true] #[.int .u64 (pW 1 true : Nat)] rfl (by simp)
  replace hX := hX.alloc (.cells #[.int .u64 (pW 1 true : Nat)] 52)
  replace hS3 := hS3.to (balloc (Below.refl _ _) (.cells #[.int .u64 (pW 1 true : Nat)] 52))
  replace hS5 := hS5.to (balloc (Below.refl _ _) (.cells #[.int .u64 (pW 1 true : Nat)] 52))
  replace hVH := hVH.to (balloc (Below.refl _ _) (.cells #[.int .u64 (pW 1 true : Nat)] 52))
  replace hL := hL.alloc (.cells #[.int .u64 (pW 1 true : Nat)] 52)
  replace hB0 := balloc hB0 (.cells #[.int .u64 (pW 1 true : Nat)] 52)
  have hS26 : ShO ((w50.alloc (.cells #[.int .u64 (pW 1 true : Nat)] 52)).alloc (.cells #[.slice (some ⟨w50.heap.size, 0, none⟩) 1 1] 54)) (.slice (some ⟨(w50.heap.size + 1), 0, none⟩) 1 1) [[pW 1 true]] := sho_one (w50.alloc (.cells #[.int .u64 (pW 1 true : Nat)] 52)) (w50.heap.size + 1) hR25 (by simp)
  replace hX := hX.alloc (.cells #[.slice (some ⟨w50.heap.size, 0, none⟩) 1 1] 54)
  replace hR25 := hR25.alloc (.cells #[.slice (some ⟨w50.heap.size, 0, none⟩) 1 1] 54)
  replace hS3 := hS3.to (balloc (Below.refl _ _) (.cells #[.slice (some ⟨w50.heap.size, 0, none⟩) 1 1] 54))
  replace hS5 := hS5.to (balloc (Below.refl _ _) (.cells #[.slice (some ⟨w50.heap.size, 0, none⟩) 1 1] 54))
  replace hVH := hVH.to (balloc (Below.refl _ _) (.cells #[.slice (some ⟨w50.heap.size, 0, none⟩) 1 1] 54))
  replace hL := hL.alloc (.cells #[.slice (some ⟨w50.heap.size, 0, none⟩) 1 1] 54)
  replace hB0 := balloc hB0 (.cells #[.slice (some ⟨w50.heap.size, 0, none⟩) 1 1] 54)
  generalize ((w50.alloc (.cells #[.int .u64 (pW 1 true : Nat)] 52)).alloc (.cells #[.slice (some ⟨w50.heap.size, 0, none⟩) 1 1] 54)) = w51 at *
  refine (of_any _ _).mono ?_
  rintro e w' ⟨rfl, rfl⟩
  clear hR25
  clear m2 m3 r3 lm lr
  go_wp2_with fail
  refine (oSame _ _ _ _ hVH hS26 (fit_of Ftw1.out)).mono ?_
  rintro e w52 ⟨rfl, hb52⟩
  replace hX := hX.below hb52 (Nat.le_refl _)
  replace hS3 := hS3.to hb52
  replace hS5 := hS5.to hb52
  replace hVH := hVH.to hb52
  replace hS26 := hS26.to hb52
  replace hL := hL.below hb52
  replace hB0 := bnext hB0 hb52
  clear hb52
  clear hS26 hVH
  go_wp2_with fail
  refine (drops_true _ _ _ (-1) (-1) _ hS3 (fit_of Ftwo.out) hL Q1.out rfl rfl).mono ?_
  rintro e w53 ⟨rfl, hb53⟩
  replace hX := hX.below hb53 (Nat.le_refl _)
  replace hS3 := hS3.to hb53
  replace hS5 := hS5.to hb53
  replace hL := hL.below hb53
  replace hB0 := bnext hB0 hb53
  clear hb53
  clear hS3
  go_wp2_with fail
  refine (drops_true _ _ _ 1 (-1) _ hS5 (fit_of Fone.out) hL Q2.out rfl rfl).mono ?_
  rintro e w54 ⟨rfl, hb54⟩
  replace hX := hX.below hb54 (Nat.le_refl _)
  replace hS5 := hS5.to hb54
  replace hL := hL.below hb54
  replace hB0 := bnext hB0 hb54
  clear hb54
  clear hS5
  go_wp2_with fail
  refine (s_any 3 _ (by decide) (by decide) hL).mono ?_
  rintro e w55 ⟨rfl, hb55⟩
  replace hX := hX.below hb55 (Nat.le_refl _)
  replace hL := hL.below hb55
  replace hB0 := bnext hB0 hb55
  clear hb55
  -- row
  go_wp2_with fail
  have hR27 : Rd (w55.alloc (.cells #[.int .u64 (sW 3 : Nat)] 52)) 1 (some ⟨w55.heap.size, 0, none⟩) 1 (uw [sW 3]) := rd_row w55 w55.heap.size [sW 3] #[.int .u64 (sW 3 : Nat)] rfl (by simp)
  replace hX := hX.alloc (.cells #[.int .u64 (sW 3 : Nat)] 52)
  replace hL := hL.alloc (.cells #[.int .u64 (sW 3 : Nat)] 52)
  replace hB0 := balloc hB0 (.cells #[.int .u64 (sW 3 : Nat)] 52)
  have hS28 : ShO ((w55.alloc (.cells #[.int .u64 (sW 3 : Nat)] 52)).alloc (.cells #[.slice (some ⟨w55.heap.size, 0, none⟩) 1 1] 54)) (.slice (some ⟨(w55.heap.size + 1), 0, none⟩) 1 1) [[sW 3]] := sho_one (w55.alloc (.cells #[.int .u64 (sW 3 : Nat)] 52)) (w55.heap.size + 1) hR27 (by simp)
  replace hX := hX.alloc (.cells #[.slice (some ⟨w55.heap.size, 0, none⟩) 1 1] 54)
  replace hR27 := hR27.alloc (.cells #[.slice (some ⟨w55.heap.size, 0, none⟩) 1 1] 54)
  replace hL := hL.alloc (.cells #[.slice (some ⟨w55.heap.size, 0, none⟩) 1 1] 54)
  replace hB0 := balloc hB0 (.cells #[.slice (some ⟨w55.heap.size, 0, none⟩) 1 1] 54)
  generalize ((w55.alloc (.cells #[.int .u64 (sW 3 : Nat)] 52)).alloc (.cells #[.slice (some ⟨w55.heap.size, 0, none⟩) 1 1] 54)) = w56 at *
  refine (of_any _ _).mono ?_
  rintro e w' ⟨rfl, rfl⟩
  clear hR27
  go_wp2_with fail
  refine (drops_true _ _ _ (-1) 3 _ hS28 (fit_of Fs3.out) hL Q3.out rfl rfl).mono ?_
  rintro e w57 ⟨rfl, hb57⟩
  replace hX := hX.below hb57 (Nat.le_refl _)
  replace hS28 := hS28.to hb57
  replace hL := hL.below hb57
  replace hB0 := bnext hB0 hb57
  clear hb57
  clear hS28
  obtain ⟨bx', ox', ex, lx, hcx⟩ := hX.2 (by decide)
  injection ex with ex
  injection ex with ex1 ex2
  subst ex1 ex2
  have x0 := hcx 0 (.int .i64 0) rfl
  have x1 := hcx 1 (.int .i64 0) rfl
  have x2 := hcx 2 (.int .i64 1) rfl
  have x3 := hcx 3 (.int .i64 1) rfl
  simp at x0 x1 x2 x3
  clear hcx
  clear hX
  go_wp2_with fail
  refine (awake_true _ hL).mono ?_
  rintro e w58 ⟨rfl, hb58⟩
  replace hL := hL.below hb58
  replace hB0 := bnext hB0 hb58
  clear hb58
  go_wp2
  go_ret
  exact ⟨rfl, hB0⟩
end Go.Proofs.YtomndlnfidkdcaaDoor
