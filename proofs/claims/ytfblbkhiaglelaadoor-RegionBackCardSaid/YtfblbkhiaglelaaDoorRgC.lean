/- Pages that are mapped, by the program. -/
import Derived.Test.YtfblbkhiaglelaaDoorRgB
import Derived.Test.YtfblbkhiaglelaaDoorRg3
import Derived.Test.YtfblbkhiaglelaaDoorSl4
import Derived.Deep.RegionWith
import Derived.Deep.RegionHeld3
import Derived.Deep.DeepCutAuto
namespace Go.Proofs.YtfblbkhiaglelaaDoor
open Go Go.Proofs Go.RowKit
set_option linter.unusedSimpArgs false
set_option linter.unusedVariables false
set_option maxRecDepth 100000

theorem CloneR_any (A : Option Addr) (n c : Nat) (rs : List (Int × Int)) (w : World) (hr : Rd w 2 A n (flat2 .i64 rs)) (hn : n ≤ 1000000) :
    Calls Tryd.prog 44 #[.slice A n c] w fun e w' => ∃ v', e = .returned v' ∧ w'.ownsRow w.heap.size 65 2 v' n (flat2 .i64 rs) ∧ Below w.heap.size w w' := by
  have hnil := fun (w : World) (A : Option Addr) (n c : Nat) => Lib.run_eql_slice_nil (P := Tryd.prog) w 22 65 A n c 0 0 Tryd.underlying22
  rcases A with _ | ad
  · have hm : n = 0 := by
      rcases Nat.eq_zero_or_pos n with h0 | h0
      · exact h0
      · obtain ⟨b, off, h, _⟩ := hr.2 h0
        cases h
    subst hm
    have hw : flat2 .i64 rs = [] := List.eq_nil_of_length_eq_zero (by simpa using hr.1)
    rw [hw]
    go_enter Tryd.func44, Tryd.ntmps44
    go_wp2_with fail
    go_ret
    exact ⟨_, rfl, World.ownsRow_nil _ _ _ _, by (repeat' (first | exact Below.refl _ _ | assumption | refine balloc ?_ _ | refine below_drawn ?_ _ | refine below_drew ?_ | refine bnext ?_ hb24 | refine bnext ?_ hb23 | refine bnext ?_ hb22 | refine bnext ?_ hb21 | refine bnext ?_ hb20 | refine bnext ?_ hb19 | refine bnext ?_ hb18 | refine bnext ?_ hb17 | refine bnext ?_ hb16 | refine bnext ?_ hb15 | refine bnext ?_ hb14 | refine bnext ?_ hb13 | refine bnext ?_ hb12 | refine bnext ?_ hb11 | refine bnext ?_ hb10 | refine bnext ?_ hb9 | refine bnext ?_ hb8 | refine bnext ?_ hb7 | refine bnext ?_ hb6 | refine bnext ?_ hb5 | refine bnext ?_ hb4 | refine bnext ?_ hb3 | refine bnext ?_ hb2 | refine bnext ?_ hb1))⟩
  · obtain ⟨i0, hi, hz0, hz1, hz2⟩ := info_parts infoRg
    go_enter Tryd.func44, Tryd.ntmps44
    go_wp2_with (at_builtin; refine wpList_append_rd _ rfl _ _ 22 rfl w.heap.size 65 i0 (.agg #[.int .i64 0, .int .i64 0]) 2 16 Tryd.underlying22 hi hz0 hz1 hz2 rfl (by decide) _ _ _ rfl (own_empty w 65 2) _ n c (flat2 .i64 rs) rfl (hr.alloc _) (oneCells_flat2 _ _) (by simp only [maxLen]; omega) (by omega) (by simp) ?_; intro v' w1 hown' hgrow)
    go_ret
    rw [Nat.zero_add, List.nil_append] at hown'
    exact ⟨_, rfl, hown', (((Below.refl _ w).alloc (Nat.le_refl _) _).grown hgrow (by simp) (fun k e => by cases e; exact Nat.le_refl _))⟩

/-- Ranges and an error that a call returned. -/
def RgRes (w w' : World) (l : List (Int × Int)) (er : Int) (e : Ending) : Prop := ∃ v, e = .returned (.tuple #[v, .int .i64 er]) ∧ w'.ownsRow w.heap.size 65 2 v l.length (flat2 .i64 l) ∧ Below w.heap.size w w'
theorem RgRes.nil {w w' : World} {er : Int} {e : Ending} (he : e = .returned (.tuple #[.slice none 0 0, .int .i64 er])) (hb : Below w.heap.size w w') : RgRes w w' [] er e := ⟨_, he, World.ownsRow_nil _ _ _ _, hb⟩

def isP (n : Int) : Bool := decide (0 ≤ n) && decide (n < 64)
theorem rIsP (n : Int) (w : World) : Calls Tryd.prog 29 #[.int .i64 n] w fun e w' => e = .returned (.bool (isP n)) ∧ w' = w := rIsPage n w
theorem isP_t {n : Int} (h0 : 0 ≤ n) (h1 : n < 64) : isP n = true := by unfold isP; rw [decide_eq_true h0, decide_eq_true h1]; rfl
theorem isP_f {n : Int} (h : n < 0 ∨ 64 ≤ n) : isP n = false := by unfold isP; rw [Bool.and_eq_false_iff]; simp only [decide_eq_false_iff_not]; omega
set_option maxHeartbeats 1000000 in
theorem begin_any (A : Option Addr) (n c : Nat) (rs : List (Int × Int)) (a b : Int) (w : World) (hr : Rd w 2 A n (flat2 .i64 rs)) (hn : n ≤ 1000000) :
    Calls Tryd.prog 42 #[.slice A n c, .int .i64 a, .int .i64 b] w fun e w' => e = .returned (.int .i64 (begE rs a b)) ∧ Below w.heap.size w w' := by
  by_cases hE : (regE rs).1 = 0
  · have hb : begE rs a b = rngE a b := by unfold begE; rw [if_neg (by simp [hE])]
    rw [hb]
    have HE := Lib.hid hE
    clear hE hb
    unfold rngE
    by_cases hbad : a < 0 ∨ b < a ∨ 63 < b
    · rw [if_pos hbad]
      have hcs : (a < 0 ∨ 64 ≤ a) ∨ ((0 ≤ a ∧ a < 64) ∧ (b < 0 ∨ 64 ≤ b)) ∨ ((0 ≤ a ∧ a < 64) ∧ (0 ≤ b ∧ b < 64) ∧ b < a) := by omega
      clear hbad
      rcases hcs with h1 | ⟨h1, h2⟩ | ⟨h1, h2, h3⟩
      · have d1 := isP_f h1
        clear h1
        go_enter Tryd.func42, Tryd.ntmps42
        go_wp2_with (first
          | (go_at_call 28; refine (rCheckP_any A n c rs _ hr hn).mono ?_; rw [HE.out]; rintro e w1 ⟨rfl, hb1⟩)
          | (go_at_call 29; refine (rIsP _ _).mono ?_; rintro e w' ⟨rfl, rfl⟩))
        go_ret
        exact ⟨rfl, hb1⟩
      · have d1 := isP_t h1.1 h1.2
        have d2 := isP_f h2
        clear h1 h2
        go_enter Tryd.func42, Tryd.ntmps42
        go_wp2_with (first
          | (go_at_call 28; refine (rCheckP_any A n c rs _ hr hn).mono ?_; rw [HE.out]; rintro e w1 ⟨rfl, hb1⟩)
          | (go_at_call 29; refine (rIsP _ _).mono ?_; rintro e w' ⟨rfl, rfl⟩))
        go_ret
        exact ⟨rfl, hb1⟩
      · have d1 := isP_t h1.1 h1.2
        have d2 := isP_t h2.1 h2.2
        clear h1 h2
        go_enter Tryd.func42, Tryd.ntmps42
        go_wp2_with (first
          | (go_at_call 28; refine (rCheckP_any A n c rs _ hr hn).mono ?_; rw [HE.out]; rintro e w1 ⟨rfl, hb1⟩)
          | (go_at_call 29; refine (rIsP _ _).mono ?_; rintro e w' ⟨rfl, rfl⟩))
        go_ret
        exact ⟨rfl, hb1⟩
    · rw [if_neg hbad]
      have d1 := isP_t (show 0 ≤ a by omega) (show a < 64 by omega)
      have d2 := isP_t (show 0 ≤ b by omega) (show b < 64 by omega)
      have h3 : ¬ b < a := by omega
      clear hbad
      go_enter Tryd.func42, Tryd.ntmps42
      go_wp2_with (first
        | (go_at_call 28; refine (rCheckP_any A n c rs _ hr hn).mono ?_; rw [HE.out]; rintro e w1 ⟨rfl, hb1⟩)
        | (go_at_call 29; refine (rIsP _ _).mono ?_; rintro e w' ⟨rfl, rfl⟩))
      go_ret
      exact ⟨rfl, hb1⟩
  · have hb : begE rs a b = (regE rs).1 := by unfold begE; rw [if_pos hE]
    rw [hb]
    have HC := Lib.hid (rCheckP_any A n c rs w hr hn)
    have hE' : ((regE rs).1 == 0) = false := by simpa using hE
    clear hE hb
    generalize (regE rs).1 = z at *
    generalize (regE rs).2 = z2 at *
    go_enter Tryd.func42, Tryd.ntmps42
    go_wp2_with (go_at_call 28; refine HC.out.mono ?_; rintro e w1 ⟨rfl, hb1⟩)
    go_ret
    exact ⟨rfl, hb1⟩
/-- The ways of Map that fail. -/
theorem Map_bad (A : Option Addr) (n c : Nat) (rs : List (Int × Int)) (a b most : Int) (w : World) (hr : Rd w 2 A n (flat2 .i64 rs)) (hn : n ≤ 1000000) (hE : begE rs a b ≠ 0) :
    Calls Tryd.prog 23 #[.slice A n c, .int .i64 a, .int .i64 b, .int .i64 most] w fun e w' => RgRes w w' [] (begE rs a b) e := by
  have HC := Lib.hid (begin_any A n c rs a b w hr hn)
  have hE' : (begE rs a b == 0) = false := by simpa using hE
  clear hE
  generalize begE rs a b = z at *
  go_enter Tryd.func23, Tryd.ntmps23
  go_wp2_with (go_at_call 42; refine HC.out.mono ?_; rintro e w1 ⟨rfl, hb1⟩)
  go_ret2
  exact RgRes.nil rfl hb1
theorem pop_set (rs : List (Int × Int)) (h : RgV rs) : pop (setN rs rs.length) = cntP (hasP rs) := by
  unfold pop cntP
  exact List.countP_congr (fun p _ => by rw [setN_has rs h])
theorem Map_exists (A : Option Addr) (n c : Nat) (rs : List (Int × Int)) (a b most : Int) (w : World) (hr : Rd w 2 A n (flat2 .i64 rs)) (hn : n ≤ 1000000) (hE : begE rs a b = 0) (hany : anyIn rs a b = true) :
    Calls Tryd.prog 23 #[.slice A n c, .int .i64 a, .int .i64 b, .int .i64 most] w fun e w' => RgRes w w' [] 7 e := by
  obtain ⟨hv, h0, h1, h2⟩ := begE_zero hE
  obtain ⟨x, rfl⟩ : ∃ x : Nat, a = x := ⟨a.toNat, by omega⟩
  obtain ⟨y, rfl⟩ : ∃ y : Nat, b = y := ⟨b.toNat, by omega⟩
  have HE := Lib.hid hE
  have hA := u64_and_nat _ _ (setN_lt rs rs.length) (spanN_lt x y)
  have hne : ((setN rs rs.length &&& spanN x y : Nat) : Int) ≠ 0 := by
    intro h
    have h' : setN rs rs.length &&& spanN x y = 0 := by omega
    have := (setN_and rs hv x y (by omega) (by omega) (by omega)).1 (by simpa using h')
    rw [hany] at this
    cases this
  rw [← hA] at hne
  have hne' : (bits .and .u64 (setN rs rs.length : Int) (spanN x y : Int) == 0) = false := by simpa using hne
  clear hE hA hne
  go_enter Tryd.func23, Tryd.ntmps23
  go_wp2_with (first
    | (go_at_call 42; refine (begin_any A n c rs x y _ hr hn).mono ?_; rw [HE.out]; rintro e w1 ⟨rfl, hb1⟩)
    | (go_at_call 30; refine (pages_any A n c rs _ (hr.below hb1 (Nat.le_refl _)) hn hv).mono ?_; rintro e w2 ⟨rfl, hb2⟩)
    | (go_at_call 38; refine (span_any x y _ (by omega) (by omega)).mono ?_; rintro e w' ⟨rfl, rfl⟩))
  go_ret2
  exact RgRes.nil rfl (bnext hb1 hb2)
/-- What Map knows when nothing stands in the way. -/
theorem map_plain (rs : List (Int × Int)) (x y : Nat) (hv : RgV rs) (h1 : x ≤ y) (h2 : y ≤ 63) (hany : anyIn rs x y = false) :
    bits .and .u64 (setN rs rs.length : Int) (spanN x y : Int) = 0 ∧ (cntP (addF rs x y) : Int) = (pop (setN rs rs.length) : Int) + ((y : Int) - (x : Int) + 1) ∧ pop (setN rs rs.length) ≤ 64 ∧ setN rs rs.length < 18446744073709551616 := by
  have hA := u64_and_nat _ _ (setN_lt rs rs.length) (spanN_lt x y)
  have hz := (setN_and rs hv x y (by omega) (by omega) (by omega)).2 hany
  simp only [Int.toNat_natCast] at hz
  rw [hz] at hA
  have hadd := cntP_add (hasP rs) x y (by omega) (by omega) (by omega) (fun p ⟨h3, h4⟩ => by
    unfold inR at h4
    rw [Bool.and_eq_true, decide_eq_true_eq, decide_eq_true_eq] at h4
    rw [(anyIn_iff rs x y (by omega)).2 ⟨p, h4.1, h4.2, h3⟩] at hany
    cases hany)
  rw [pop_set rs hv]
  exact ⟨hA, hadd, cntP_le _, setN_lt _ _⟩
theorem Map_full (A : Option Addr) (n c : Nat) (rs : List (Int × Int)) (a b most : Int) (w : World) (hr : Rd w 2 A n (flat2 .i64 rs)) (hn : n ≤ 1000000) (hE : begE rs a b = 0) (hany : anyIn rs a b = false) (hfull : most < (cntP (addF rs a b) : Int)) :
    Calls Tryd.prog 23 #[.slice A n c, .int .i64 a, .int .i64 b, .int .i64 most] w fun e w' => RgRes w w' [] 5 e := by
  obtain ⟨hv, h0, h1, h2⟩ := begE_zero hE
  obtain ⟨x, rfl⟩ : ∃ x : Nat, a = x := ⟨a.toNat, by omega⟩
  obtain ⟨y, rfl⟩ : ∃ y : Nat, b = y := ⟨b.toNat, by omega⟩
  have HE := Lib.hid hE
  obtain ⟨hA, hcp, hp64, hlt⟩ := map_plain rs x y hv (by omega) (by omega) hany
  rw [hcp] at hfull
  have HP := Lib.hid (fun w1 h => pages_any A n c rs w1 h hn hv)
  clear hE hcp hany
  generalize setN rs rs.length = S at *
  have HO := Lib.hid (fun w => OnesCount_any S w hlt)
  generalize pop S = pc at *
  have hfull' : most < (pc : Int) + (y : Int) - (x : Int) + 1 := by omega
  clear hfull
  go_enter Tryd.func23, Tryd.ntmps23
  go_wp2_with (first
    | (go_at_call 42; refine (begin_any A n c rs x y _ hr hn).mono ?_; rw [HE.out]; rintro e w1 ⟨rfl, hb1⟩)
    | (go_at_call 30; refine (HP.out _ (hr.below hb1 (Nat.le_refl _))).mono ?_; rintro e w2 ⟨rfl, hb2⟩)
    | (go_at_call 38; refine (span_any x y _ (by omega) (by omega)).mono ?_; rintro e w' ⟨rfl, rfl⟩)
    | (go_at_call 34; refine (HO.out _).mono ?_; rintro e w' ⟨rfl, rfl⟩))
  go_ret2
  exact RgRes.nil rfl (bnext hb1 hb2)
theorem Rd.prs {w : World} {A : Option Addr} {n : Nat} {rs : List (Int × Int)} (h : Rd w 2 A n (flat2 .i64 rs)) (h0 : 0 < n) :
    ∃ b off, A = some ⟨b, off, none⟩ ∧ b < w.heap.size ∧ ∀ i, i < n → w.cell? ⟨b, off + i * 2, none⟩ = some (.int .i64 (rs.getD i (0, 0)).1) ∧ w.cell? ⟨b, off + i * 2 + 1, none⟩ = some (.int .i64 (rs.getD i (0, 0)).2) := by
  obtain ⟨b, off, r, e, hb, _⟩ := h.pair h0
  refine ⟨b, off, e, hb, fun i hi => ?_⟩
  obtain ⟨b', off', a, c, e', _, hg, h1, h2⟩ := h.pr hi
  rw [e] at e'
  injection e' with e'
  injection e' with q1 q2
  subst q1 q2
  rw [hg]
  exact ⟨h1, h2⟩
theorem rcell_later {w w' : World} {a : Addr} {v : Value} (hb : Below w.heap.size w w') (h : w.cell? a = some v) : w'.cell? a = some v := by
  rw [hb.cell (p := a) (by unfold World.cell? at h; split at h; exact (Array.getElem?_eq_some_iff.1 (by assumption)).1; cases h)]; exact h
theorem rcell_alloc {w : World} {a : Addr} {v : Value} (o : Obj) (h : w.cell? a = some v) : (w.alloc o).cell? a = some v := rcell_later (balloc (Below.refl _ _) o) h
theorem rcell_drew {w : World} {a : Addr} {v : Value} (h : w.cell? a = some v) : w.drew.cell? a = some v := h
theorem Rd.drw {w : World} {sz n : Nat} {A : Option Addr} {xs : List Value} (h : Rd w sz A n xs) : Rd w.drew sz A n xs := h
theorem own_one (w : World) (e : TypeId) (u v : Value) : (w.alloc (.cells #[u, v] e)).ownsRow w.heap.size e 2 (.slice (some ⟨w.heap.size, 0, none⟩) 1 1) 1 [u, v] :=
  ⟨rfl, .inr ⟨w.heap.size, 1, #[u, v], rfl, Nat.le_refl _, heap_alloc_new w _, Nat.le_refl _, by simp [maxLen], rfl, rfl⟩⟩
/-- The call of Replace at the end of Map, whichever of its two arguments was laid first. -/
theorem RepTail (wF : World) (n : Nat) (rs : List (Int × Int)) (f l : Nat) (X Y : Int) (v' : Value) (wC : World) {wA W : World} {V : Option Addr}
    (hoC : wC.ownsRow wA.heap.size 65 2 v' n (flat2 .i64 rs)) (hbC : Below wA.heap.size wA wC)
    (h : (wA = wF.drew ∧ V = some ⟨wC.heap.size, 0, none⟩ ∧ W = wC.alloc (.cells #[.int .i64 X, .int .i64 Y] 65)) ∨ (wA = (wF.alloc (.cells #[.int .i64 X, .int .i64 Y] 65)).drew ∧ V = some ⟨wF.heap.size, 0, none⟩ ∧ wC = W))
    (hfl : f ≤ l) (hln : l ≤ n) (hn : n ≤ 1000) :
    Calls Tryd.prog 43 #[v', .int .i64 f, .int .i64 l, .slice V 1 1] W fun e w' => ∃ vD, e = .returned vD ∧ w'.ownsRow wF.heap.size 65 2 vD (f + 1 + (n - l)) (flat2 .i64 (rs.take f ++ [(X, Y)] ++ rs.drop l)) ∧ Below wF.heap.size wF w' := by
  rcases h with ⟨rfl, rfl, rfl⟩ | ⟨rfl, rfl, rfl⟩
  · have hbC' : Below wF.heap.size wF wC := ⟨hbC.os, hbC.tape, hbC.output, hbC.size, hbC.block⟩
    have ho1 : (wC.alloc (.cells #[.int .i64 X, .int .i64 Y] 65)).ownsRow wF.heap.size 65 2 v' n (flat2 .i64 rs) := hoC.alloc (.cells #[.int .i64 X, .int .i64 Y] 65)
    refine (Replace_any v' n f l _ 1 1 wF.heap.size wC.heap.size rs [(X, Y)] _ ho1 (own_one wC _ _ _) ?_ hfl hln (fun _ => by omega) (by omega) hn ?_).mono ?_
    · intro b hb e
      injection hb with hb
      injection hb with hb
      have := (hoC.lt b e).2
      omega
    · have := hbC'.size; simp; omega
    · rintro e w' ⟨vD, he, h1, h2⟩
      exact ⟨vD, he, h1, (balloc hbC' _).trans h2⟩
  · have hsz : (wF.alloc (.cells #[.int .i64 X, .int .i64 Y] 65)).drew.heap.size = wF.heap.size + 1 := by show (wF.alloc _).heap.size = _; simp
    have hbC' : Below wF.heap.size wF wC := bnext (balloc (Below.refl _ wF) (.cells #[.int .i64 X, .int .i64 Y] 65)) ⟨hbC.os, hbC.tape, hbC.output, hbC.size, hbC.block⟩
    have hV : wC.ownsRow wF.heap.size 65 2 (.slice (some ⟨wF.heap.size, 0, none⟩) 1 1) 1 (flat2 .i64 [(X, Y)]) := own_below (own_one wF _ _ _) ⟨hbC.os, hbC.tape, hbC.output, hbC.size, hbC.block⟩
    refine (Replace_any v' n f l _ 1 1 wF.heap.size wF.heap.size rs [(X, Y)] _ (own_less hoC (by rw [hsz]; omega)) hV ?_ hfl hln (fun _ => by omega) (by omega) hn hbC'.size).mono ?_
    · intro b hb e
      injection hb with hb
      injection hb with hb
      have := (hoC.lt b e).1
      omega
    · rintro e w' ⟨vD, he, h1, h2⟩
      exact ⟨vD, he, h1, hbC'.trans h2⟩
def MfR (w : World) (rs : List (Int × Int)) (x bR : Nat) (y : Nat) (i : Value) (wr : World) : Prop := ∃ k : Nat, k ≤ rs.length ∧ i = .int .i64 k ∧ (∀ j, j < k → (rs.getD j (0, 0)).2 < (x : Int)) ∧ Bk wr bR #[.int .i64 x, .int .i64 y] 65 ∧ Below w.heap.size w wr
set_option maxHeartbeats 4000000 in
theorem Map_ok (A : Option Addr) (n c : Nat) (rs : List (Int × Int)) (a b most : Int) (w : World) (hr : Rd w 2 A n (flat2 .i64 rs)) (hn : n ≤ 1000) (hE : begE rs a b = 0) (hany : anyIn rs a b = false) (hfull : ¬ most < (cntP (addF rs a b) : Int)) :
    Calls Tryd.prog 23 #[.slice A n c, .int .i64 a, .int .i64 b, .int .i64 most] w fun e w' => RgRes w w' (regs (addF rs a b)) 0 e := by
  obtain ⟨hv, h0, h1, h2⟩ := begE_zero hE
  obtain ⟨x, rfl⟩ : ∃ x : Nat, a = x := ⟨a.toNat, by omega⟩
  obtain ⟨y, rfl⟩ : ∃ y : Nat, b = y := ⟨b.toNat, by omega⟩
  have hlen : rs.length = n := by have := hr.1; rw [flat2_len] at this; omega
  have HE := Lib.hid hE
  have HL := Lib.hid (fun k => mapL_ok rs k x y hv (by omega) (by omega) (by omega) hany)
  obtain ⟨hA, hcp, hp64, hlt⟩ := map_plain rs x y hv (by omega) (by omega) hany
  rw [hcp] at hfull
  have HP := Lib.hid (fun w1 h => pages_any A n c rs w1 h (by omega) hv)
  have Hv := Lib.hid hv
  unfold RgV at Hv
  rw [hlen] at Hv
  clear hE hcp hany
  generalize setN rs rs.length = S at *
  have HO := Lib.hid (fun w => OnesCount_any S w hlt)
  generalize pop S = pc at *
  have hfull' : ¬ most < (pc : Int) + (y : Int) - (x : Int) + 1 := by omega
  clear hfull
  go_enter Tryd.func23, Tryd.ntmps23
  go_wp2_with (first
    | (go_at_call 42; refine (begin_any A n c rs x y _ hr (by omega)).mono ?_; rw [HE.out]; rintro e w1 ⟨rfl, hb1⟩)
    | (go_at_call 30; refine (HP.out _ (hr.below hb1 (Nat.le_refl _))).mono ?_; rintro e w2 ⟨rfl, hb2⟩)
    | (go_at_call 38; refine (span_any x y _ (by omega) (by omega)).mono ?_; rintro e w' ⟨rfl, rfl⟩)
    | (go_at_call 34; refine (HO.out _).mono ?_; rintro e w' ⟨rfl, rfl⟩))
  -- MAP LOOP
  have kR := Bk.new w' #[.int .i64 x, .int .i64 y] 65
  have hB := balloc (bnext hb1 hb2) (.cells #[.int .i64 x, .int .i64 y] 65)
  have hwl : w.heap.size ≤ w'.heap.size := (bnext hb1 hb2).size
  generalize w'.alloc (.cells #[.int .i64 x, .int .i64 y] 65) = w3 at *
  generalize w'.heap.size = bR at *
  clear hb1 hb2 HP HO hA hlt hp64
  go_loopw [13] (MfR w rs x bR y) (fun i _ => rs.length - (intOf i).toNat)
  case atStart => exact ⟨0, by omega, rfl, fun j h => absurd h (Nat.not_lt_zero _), kR, hB⟩
  case round =>
    clear kR hB
    obtain ⟨k, hk, rfl, hlo, kR, hB⟩ := hrel
    rw [hlen] at hk
    have hrr := hr.below hB (Nat.le_refl _)
    by_cases hgo : k < n ∧ (rs.getD k (0, 0)).2 < (x : Int)
    · obtain ⟨hlt, hx⟩ := hgo
      obtain ⟨gb, off, u, v, rfl, hgb, hg, c1, c2⟩ := hrr.pr hlt
      have hx' : v < (x : Int) := by rw [hg] at hx; exact hx
      have Hlo : Hid (∀ j, j < k + 1 → (rs.getD j (0, 0)).2 < (x : Int)) := Lib.hid (fun j hj => by rcases Nat.lt_or_ge j k with h | h; exact hlo j h; rw [show j = k by omega]; exact hx)
      clear hlo hx hg
      go_wp2_with fail
      go_roundw
      case rel => exact ⟨k + 1, by omega, by go_num, Hlo.out, kR, hB⟩
      case measure => simp [intOf]; omega
    · have hge : k < rs.length → ¬ (rs.getD k (0, 0)).2 < (x : Int) := fun h1 h2 => hgo ⟨by omega, h2⟩
      have HR := Lib.hid (HL.out k (by omega) hlo (fun h => by have := hge h; omega))
      unfold mapL at HR
      rw [hlen] at HR hge
      have Hlo := Lib.hid hlo
      clear hgo HL hlo
      obtain ⟨cR, fR, lR⟩ := kR.facts
      have hleft : (k = 0) ∨ (0 < k ∧ (rs.getD (k - 1) (0, 0)).2 + 1 = (x : Int)) ∨ (0 < k ∧ ¬ (rs.getD (k - 1) (0, 0)).2 + 1 = (x : Int)) := by omega
      have hright : (k = n) ∨ (k < n ∧ (rs.getD k (0, 0)).1 = (y : Int) + 1) ∨ (k < n ∧ ¬ (rs.getD k (0, 0)).1 = (y : Int) + 1) := by omega
      have Hv2 := Lib.hid (fun j (hj : j < n) => rgE_one (Hv.out j hj))
      have hge2 : k < n → ¬ (rs.getD k (0, 0)).2 < (x : Int) := hge
      clear hge
      have hgbR : ∀ gb, gb < w.heap.size → gb ≠ bR := fun gb h => by omega
      by_cases hkn : k < n
      · obtain ⟨gb, off, rfl, hgb, hcs⟩ := hr.prs (by omega)
        obtain ⟨c1, c2⟩ := hcs k hkn
        have hgx := hge2 hkn
        obtain ⟨ru, rv, hgr⟩ : ∃ ru rv, rs.getD k (0, 0) = (ru, rv) := ⟨_, _, rfl⟩
        have hbd2 := Hv2.out k hkn
        rw [hgr] at c1 c2 hgx hright HR hbd2
        simp only at c1 c2 hgx hright HR hbd2
        have hc1 : 0 ≤ ru := by omega
        have hc2 : ru ≤ 63 := by omega
        have c2' := (hB.cell (p := ⟨gb, off + k * 2 + 1, none⟩) hgb).trans c2
        have c1' := (hB.cell (p := ⟨gb, off + k * 2, none⟩) hgb).trans c1
        have hne1 : ¬ gb = bR := hgbR gb hgb
        clear hgbR hbd2
        rcases hright with hr1 | ⟨hr1, hr2⟩ | ⟨hr1, hr2⟩
        · exact absurd hkn (by omega)
        · rcases hleft with hl0 | ⟨hl1, hl2⟩ | ⟨hl1, hl2⟩
          · subst hl0
            simp only [Nat.zero_mul, Nat.add_zero] at c1' c2'
            have hr2' : (ru == (y : Int) + 1) = true := by simpa using hr2
            have HR2 := Lib.hid hr2
            clear hr2
            go_wp2_with fail
            have kF := (kR.put 1 (.int .i64 rv))
            have hBF := (hB.setCell (p := ⟨bR, 1, none⟩) hwl (.int .i64 rv))
            have hrF := hr.below hBF (Nat.le_refl _)
            have Hres := Lib.hid HR.out
            rw [if_neg (by omega), if_neg (by omega), if_pos ⟨by omega, HR2.out⟩, if_pos ⟨by omega, HR2.out⟩] at Hres
            have hrl : (regs (addF rs x y)).length = 0 + 1 + (n - 1) := by rw [← Hres.out]; simp; omega
            have Hrl2 := Lib.hid (show (rs.take 0 ++ [((x : Int), rv)] ++ rs.drop 1).length = 0 + 1 + (n - 1) by rw [Hres.out]; exact hrl)
            clear cR fR lR hrl HR
            try clear c1' c2'
            try clear d1' d2'
            generalize (wr.setCell ⟨bR, 1, none⟩ (.int .i64 rv)) = wF at *
            have cF0 : wF.cell? ⟨bR, 0, none⟩ = some (.int .i64 (x : Int)) := kF.cell 0
            have cF1 : wF.cell? ⟨bR, 1, none⟩ = some (.int .i64 rv) := kF.cell 1
            have hBs : w.heap.size ≤ wF.heap.size := hBF.size
            have hn6 : n ≤ 1000000 := by omega
            go_region_held3 (fun w' => w'.cell? ⟨bR, 0, none⟩ = some (.int .i64 (x : Int)) ∧ w'.cell? ⟨bR, 1, none⟩ = some (.int .i64 rv))
              (refine ⟨?_, ?_⟩ <;> (repeat (with_reducible first | exact cF0 | exact cF1 | refine rcell_later hbD ?_ | refine rcell_alloc _ ?_ | refine rcell_drew ?_ | refine rcell_later hbC ?_)))
              (first
                | (go_at_call 43; refine (RepTail wF n rs 0 1 (x : Int) rv v' wC hoC hbC (by with_reducible first | exact .inl ⟨rfl, rfl, rfl⟩ | exact .inr ⟨rfl, rfl, rfl⟩) (by omega) (by omega) (by omega)).mono ?_; rintro e wD ⟨vD, rfl, hoD, hbD⟩)
                | (go_at_call 44; refine (CloneR_any (some ⟨gb, off, none⟩) n c rs _ (by with_reducible first | exact hrF.drw | exact (hrF.alloc _).drw) hn6).mono ?_; rintro e wC ⟨v', rfl, hoC, hbC⟩))
            all_goals
              go_wp2_with fail
              go_ret2
              exact ⟨_, rfl, by rw [← Hres.out, Hrl2.out]; exact own_less hoD hBs, hBF.trans (hbD.mono hBs)⟩
          · obtain ⟨q, rfl⟩ : ∃ q, k = q + 1 := ⟨k - 1, by omega⟩
            rw [Nat.add_sub_cancel] at hl2 HR
            obtain ⟨lu, lv, hlq⟩ : ∃ lu lv, rs.getD q (0, 0) = (lu, lv) := ⟨_, _, rfl⟩
            obtain ⟨d1, d2⟩ := hcs q (by omega)
            have hbd := Hv2.out q (by omega)
            rw [hlq] at d1 d2 hl2 hbd HR
            simp only at d1 d2 hl2 hbd HR
            have d1' := (hB.cell (p := ⟨gb, off + q * 2, none⟩) hgb).trans d1
            have d2' := (hB.cell (p := ⟨gb, off + q * 2 + 1, none⟩) hgb).trans d2
            have hb1 : 0 ≤ lv := by omega
            have hb2 : lv ≤ 63 := by omega
            have hl2' : (lv + 1 == (x : Int)) = true := by simpa using hl2
            have HL2 := Lib.hid hl2
            clear hbd d1 d2 hl2
            have hr2' : (ru == (y : Int) + 1) = true := by simpa using hr2
            have HR2 := Lib.hid hr2
            clear hr2
            go_wp2_with fail
            have kF := ((kR.put 0 (.int .i64 lu)).put 1 (.int .i64 rv))
            have hBF := ((hB.setCell (p := ⟨bR, 0, none⟩) hwl (.int .i64 lu)).setCell (p := ⟨bR, 1, none⟩) hwl (.int .i64 rv))
            have hrF := hr.below hBF (Nat.le_refl _)
            have Hres := Lib.hid HR.out
            rw [if_pos ⟨by omega, HL2.out⟩, if_pos ⟨by omega, HL2.out⟩, if_pos ⟨by omega, HR2.out⟩, if_pos ⟨by omega, HR2.out⟩] at Hres
            have hrl : (regs (addF rs x y)).length = q + 1 + (n - (q + 2)) := by rw [← Hres.out]; simp; omega
            have Hrl2 := Lib.hid (show (rs.take q ++ [(lu, rv)] ++ rs.drop (q + 2)).length = q + 1 + (n - (q + 2)) by rw [Hres.out]; exact hrl)
            clear cR fR lR hrl HR
            try clear c1' c2'
            try clear d1' d2'
            generalize ((wr.setCell ⟨bR, 0, none⟩ (.int .i64 lu)).setCell ⟨bR, 1, none⟩ (.int .i64 rv)) = wF at *
            have cF0 : wF.cell? ⟨bR, 0, none⟩ = some (.int .i64 lu) := kF.cell 0
            have cF1 : wF.cell? ⟨bR, 1, none⟩ = some (.int .i64 rv) := kF.cell 1
            have hBs : w.heap.size ≤ wF.heap.size := hBF.size
            have hn6 : n ≤ 1000000 := by omega
            go_region_held3 (fun w' => w'.cell? ⟨bR, 0, none⟩ = some (.int .i64 lu) ∧ w'.cell? ⟨bR, 1, none⟩ = some (.int .i64 rv))
              (refine ⟨?_, ?_⟩ <;> (repeat (with_reducible first | exact cF0 | exact cF1 | refine rcell_later hbD ?_ | refine rcell_alloc _ ?_ | refine rcell_drew ?_ | refine rcell_later hbC ?_)))
              (first
                | (go_at_call 43; refine (RepTail wF n rs q (q + 2) lu rv v' wC hoC hbC (by with_reducible first | exact .inl ⟨rfl, rfl, rfl⟩ | exact .inr ⟨rfl, rfl, rfl⟩) (by omega) (by omega) (by omega)).mono ?_; rintro e wD ⟨vD, rfl, hoD, hbD⟩)
                | (go_at_call 44; refine (CloneR_any (some ⟨gb, off, none⟩) n c rs _ (by with_reducible first | exact hrF.drw | exact (hrF.alloc _).drw) hn6).mono ?_; rintro e wC ⟨v', rfl, hoC, hbC⟩))
            all_goals
              go_wp2_with fail
              go_ret2
              exact ⟨_, rfl, by rw [← Hres.out, Hrl2.out]; exact own_less hoD hBs, hBF.trans (hbD.mono hBs)⟩
          · obtain ⟨q, rfl⟩ : ∃ q, k = q + 1 := ⟨k - 1, by omega⟩
            rw [Nat.add_sub_cancel] at hl2 HR
            obtain ⟨lu, lv, hlq⟩ : ∃ lu lv, rs.getD q (0, 0) = (lu, lv) := ⟨_, _, rfl⟩
            obtain ⟨d1, d2⟩ := hcs q (by omega)
            have hbd := Hv2.out q (by omega)
            rw [hlq] at d1 d2 hl2 hbd HR
            simp only at d1 d2 hl2 hbd HR
            have d1' := (hB.cell (p := ⟨gb, off + q * 2, none⟩) hgb).trans d1
            have d2' := (hB.cell (p := ⟨gb, off + q * 2 + 1, none⟩) hgb).trans d2
            have hb1 : 0 ≤ lv := by omega
            have hb2 : lv ≤ 63 := by omega
            have hl2' : (lv + 1 == (x : Int)) = false := by simpa using hl2
            have HL2 := Lib.hid hl2
            clear hbd d1 d2 hl2
            have hr2' : (ru == (y : Int) + 1) = true := by simpa using hr2
            have HR2 := Lib.hid hr2
            clear hr2
            go_wp2_with fail
            have kF := (kR.put 1 (.int .i64 rv))
            have hBF := (hB.setCell (p := ⟨bR, 1, none⟩) hwl (.int .i64 rv))
            have hrF := hr.below hBF (Nat.le_refl _)
            have Hres := Lib.hid HR.out
            rw [if_neg (fun h => HL2.out h.2), if_neg (fun h => HL2.out h.2), if_pos ⟨by omega, HR2.out⟩, if_pos ⟨by omega, HR2.out⟩] at Hres
            have hrl : (regs (addF rs x y)).length = (q + 1) + 1 + (n - (q + 2)) := by rw [← Hres.out]; simp; omega
            have Hrl2 := Lib.hid (show (rs.take (q + 1) ++ [((x : Int), rv)] ++ rs.drop (q + 2)).length = (q + 1) + 1 + (n - (q + 2)) by rw [Hres.out]; exact hrl)
            clear cR fR lR hrl HR
            try clear c1' c2'
            try clear d1' d2'
            generalize (wr.setCell ⟨bR, 1, none⟩ (.int .i64 rv)) = wF at *
            have cF0 : wF.cell? ⟨bR, 0, none⟩ = some (.int .i64 (x : Int)) := kF.cell 0
            have cF1 : wF.cell? ⟨bR, 1, none⟩ = some (.int .i64 rv) := kF.cell 1
            have hBs : w.heap.size ≤ wF.heap.size := hBF.size
            have hn6 : n ≤ 1000000 := by omega
            go_region_held3 (fun w' => w'.cell? ⟨bR, 0, none⟩ = some (.int .i64 (x : Int)) ∧ w'.cell? ⟨bR, 1, none⟩ = some (.int .i64 rv))
              (refine ⟨?_, ?_⟩ <;> (repeat (with_reducible first | exact cF0 | exact cF1 | refine rcell_later hbD ?_ | refine rcell_alloc _ ?_ | refine rcell_drew ?_ | refine rcell_later hbC ?_)))
              (first
                | (go_at_call 43; refine (RepTail wF n rs (q + 1) (q + 2) (x : Int) rv v' wC hoC hbC (by with_reducible first | exact .inl ⟨rfl, rfl, rfl⟩ | exact .inr ⟨rfl, rfl, rfl⟩) (by omega) (by omega) (by omega)).mono ?_; rintro e wD ⟨vD, rfl, hoD, hbD⟩)
                | (go_at_call 44; refine (CloneR_any (some ⟨gb, off, none⟩) n c rs _ (by with_reducible first | exact hrF.drw | exact (hrF.alloc _).drw) hn6).mono ?_; rintro e wC ⟨v', rfl, hoC, hbC⟩))
            all_goals
              go_wp2_with fail
              go_ret2
              exact ⟨_, rfl, by rw [← Hres.out, Hrl2.out]; exact own_less hoD hBs, hBF.trans (hbD.mono hBs)⟩
        · rcases hleft with hl0 | ⟨hl1, hl2⟩ | ⟨hl1, hl2⟩
          · subst hl0
            simp only [Nat.zero_mul, Nat.add_zero] at c1' c2'
            have hr2' : (ru == (y : Int) + 1) = false := by simpa using hr2
            have HR2 := Lib.hid hr2
            clear hr2
            go_wp2_with fail
            have kF := kR
            have hBF := hB
            have hrF := hr.below hBF (Nat.le_refl _)
            have Hres := Lib.hid HR.out
            rw [if_neg (by omega), if_neg (by omega), if_neg (fun h => HR2.out h.2), if_neg (fun h => HR2.out h.2)] at Hres
            have hrl : (regs (addF rs x y)).length = 0 + 1 + (n - 0) := by rw [← Hres.out]; simp; omega
            have Hrl2 := Lib.hid (show (rs.take 0 ++ [((x : Int), (y : Int))] ++ rs.drop 0).length = 0 + 1 + (n - 0) by rw [Hres.out]; exact hrl)
            clear cR fR lR hrl HR
            try clear c1' c2'
            try clear d1' d2'
            generalize wr = wF at *
            have cF0 : wF.cell? ⟨bR, 0, none⟩ = some (.int .i64 (x : Int)) := kF.cell 0
            have cF1 : wF.cell? ⟨bR, 1, none⟩ = some (.int .i64 (y : Int)) := kF.cell 1
            have hBs : w.heap.size ≤ wF.heap.size := hBF.size
            have hn6 : n ≤ 1000000 := by omega
            go_region_held3 (fun w' => w'.cell? ⟨bR, 0, none⟩ = some (.int .i64 (x : Int)) ∧ w'.cell? ⟨bR, 1, none⟩ = some (.int .i64 (y : Int)))
              (refine ⟨?_, ?_⟩ <;> (repeat (with_reducible first | exact cF0 | exact cF1 | refine rcell_later hbD ?_ | refine rcell_alloc _ ?_ | refine rcell_drew ?_ | refine rcell_later hbC ?_)))
              (first
                | (go_at_call 43; refine (RepTail wF n rs 0 0 (x : Int) (y : Int) v' wC hoC hbC (by with_reducible first | exact .inl ⟨rfl, rfl, rfl⟩ | exact .inr ⟨rfl, rfl, rfl⟩) (by omega) (by omega) (by omega)).mono ?_; rintro e wD ⟨vD, rfl, hoD, hbD⟩)
                | (go_at_call 44; refine (CloneR_any (some ⟨gb, off, none⟩) n c rs _ (by with_reducible first | exact hrF.drw | exact (hrF.alloc _).drw) hn6).mono ?_; rintro e wC ⟨v', rfl, hoC, hbC⟩))
            all_goals
              go_wp2_with fail
              go_ret2
              exact ⟨_, rfl, by rw [← Hres.out, Hrl2.out]; exact own_less hoD hBs, hBF.trans (hbD.mono hBs)⟩
          · obtain ⟨q, rfl⟩ : ∃ q, k = q + 1 := ⟨k - 1, by omega⟩
            rw [Nat.add_sub_cancel] at hl2 HR
            obtain ⟨lu, lv, hlq⟩ : ∃ lu lv, rs.getD q (0, 0) = (lu, lv) := ⟨_, _, rfl⟩
            obtain ⟨d1, d2⟩ := hcs q (by omega)
            have hbd := Hv2.out q (by omega)
            rw [hlq] at d1 d2 hl2 hbd HR
            simp only at d1 d2 hl2 hbd HR
            have d1' := (hB.cell (p := ⟨gb, off + q * 2, none⟩) hgb).trans d1
            have d2' := (hB.cell (p := ⟨gb, off + q * 2 + 1, none⟩) hgb).trans d2
            have hb1 : 0 ≤ lv := by omega
            have hb2 : lv ≤ 63 := by omega
            have hl2' : (lv + 1 == (x : Int)) = true := by simpa using hl2
            have HL2 := Lib.hid hl2
            clear hbd d1 d2 hl2
            have hr2' : (ru == (y : Int) + 1) = false := by simpa using hr2
            have HR2 := Lib.hid hr2
            clear hr2
            go_wp2_with fail
            have kF := (kR.put 0 (.int .i64 lu))
            have hBF := (hB.setCell (p := ⟨bR, 0, none⟩) hwl (.int .i64 lu))
            have hrF := hr.below hBF (Nat.le_refl _)
            have Hres := Lib.hid HR.out
            rw [if_pos ⟨by omega, HL2.out⟩, if_pos ⟨by omega, HL2.out⟩, if_neg (fun h => HR2.out h.2), if_neg (fun h => HR2.out h.2)] at Hres
            have hrl : (regs (addF rs x y)).length = q + 1 + (n - (q + 1)) := by rw [← Hres.out]; simp; omega
            have Hrl2 := Lib.hid (show (rs.take q ++ [(lu, (y : Int))] ++ rs.drop (q + 1)).length = q + 1 + (n - (q + 1)) by rw [Hres.out]; exact hrl)
            clear cR fR lR hrl HR
            try clear c1' c2'
            try clear d1' d2'
            generalize (wr.setCell ⟨bR, 0, none⟩ (.int .i64 lu)) = wF at *
            have cF0 : wF.cell? ⟨bR, 0, none⟩ = some (.int .i64 lu) := kF.cell 0
            have cF1 : wF.cell? ⟨bR, 1, none⟩ = some (.int .i64 (y : Int)) := kF.cell 1
            have hBs : w.heap.size ≤ wF.heap.size := hBF.size
            have hn6 : n ≤ 1000000 := by omega
            go_region_held3 (fun w' => w'.cell? ⟨bR, 0, none⟩ = some (.int .i64 lu) ∧ w'.cell? ⟨bR, 1, none⟩ = some (.int .i64 (y : Int)))
              (refine ⟨?_, ?_⟩ <;> (repeat (with_reducible first | exact cF0 | exact cF1 | refine rcell_later hbD ?_ | refine rcell_alloc _ ?_ | refine rcell_drew ?_ | refine rcell_later hbC ?_)))
              (first
                | (go_at_call 43; refine (RepTail wF n rs q (q + 1) lu (y : Int) v' wC hoC hbC (by with_reducible first | exact .inl ⟨rfl, rfl, rfl⟩ | exact .inr ⟨rfl, rfl, rfl⟩) (by omega) (by omega) (by omega)).mono ?_; rintro e wD ⟨vD, rfl, hoD, hbD⟩)
                | (go_at_call 44; refine (CloneR_any (some ⟨gb, off, none⟩) n c rs _ (by with_reducible first | exact hrF.drw | exact (hrF.alloc _).drw) hn6).mono ?_; rintro e wC ⟨v', rfl, hoC, hbC⟩))
            all_goals
              go_wp2_with fail
              go_ret2
              exact ⟨_, rfl, by rw [← Hres.out, Hrl2.out]; exact own_less hoD hBs, hBF.trans (hbD.mono hBs)⟩
          · obtain ⟨q, rfl⟩ : ∃ q, k = q + 1 := ⟨k - 1, by omega⟩
            rw [Nat.add_sub_cancel] at hl2 HR
            obtain ⟨lu, lv, hlq⟩ : ∃ lu lv, rs.getD q (0, 0) = (lu, lv) := ⟨_, _, rfl⟩
            obtain ⟨d1, d2⟩ := hcs q (by omega)
            have hbd := Hv2.out q (by omega)
            rw [hlq] at d1 d2 hl2 hbd HR
            simp only at d1 d2 hl2 hbd HR
            have d1' := (hB.cell (p := ⟨gb, off + q * 2, none⟩) hgb).trans d1
            have d2' := (hB.cell (p := ⟨gb, off + q * 2 + 1, none⟩) hgb).trans d2
            have hb1 : 0 ≤ lv := by omega
            have hb2 : lv ≤ 63 := by omega
            have hl2' : (lv + 1 == (x : Int)) = false := by simpa using hl2
            have HL2 := Lib.hid hl2
            clear hbd d1 d2 hl2
            have hr2' : (ru == (y : Int) + 1) = false := by simpa using hr2
            have HR2 := Lib.hid hr2
            clear hr2
            go_wp2_with fail
            have kF := kR
            have hBF := hB
            have hrF := hr.below hBF (Nat.le_refl _)
            have Hres := Lib.hid HR.out
            rw [if_neg (fun h => HL2.out h.2), if_neg (fun h => HL2.out h.2), if_neg (fun h => HR2.out h.2), if_neg (fun h => HR2.out h.2)] at Hres
            have hrl : (regs (addF rs x y)).length = (q + 1) + 1 + (n - (q + 1)) := by rw [← Hres.out]; simp; omega
            have Hrl2 := Lib.hid (show (rs.take (q + 1) ++ [((x : Int), (y : Int))] ++ rs.drop (q + 1)).length = (q + 1) + 1 + (n - (q + 1)) by rw [Hres.out]; exact hrl)
            clear cR fR lR hrl HR
            try clear c1' c2'
            try clear d1' d2'
            generalize wr = wF at *
            have cF0 : wF.cell? ⟨bR, 0, none⟩ = some (.int .i64 (x : Int)) := kF.cell 0
            have cF1 : wF.cell? ⟨bR, 1, none⟩ = some (.int .i64 (y : Int)) := kF.cell 1
            have hBs : w.heap.size ≤ wF.heap.size := hBF.size
            have hn6 : n ≤ 1000000 := by omega
            go_region_held3 (fun w' => w'.cell? ⟨bR, 0, none⟩ = some (.int .i64 (x : Int)) ∧ w'.cell? ⟨bR, 1, none⟩ = some (.int .i64 (y : Int)))
              (refine ⟨?_, ?_⟩ <;> (repeat (with_reducible first | exact cF0 | exact cF1 | refine rcell_later hbD ?_ | refine rcell_alloc _ ?_ | refine rcell_drew ?_ | refine rcell_later hbC ?_)))
              (first
                | (go_at_call 43; refine (RepTail wF n rs (q + 1) (q + 1) (x : Int) (y : Int) v' wC hoC hbC (by with_reducible first | exact .inl ⟨rfl, rfl, rfl⟩ | exact .inr ⟨rfl, rfl, rfl⟩) (by omega) (by omega) (by omega)).mono ?_; rintro e wD ⟨vD, rfl, hoD, hbD⟩)
                | (go_at_call 44; refine (CloneR_any (some ⟨gb, off, none⟩) n c rs _ (by with_reducible first | exact hrF.drw | exact (hrF.alloc _).drw) hn6).mono ?_; rintro e wC ⟨v', rfl, hoC, hbC⟩))
            all_goals
              go_wp2_with fail
              go_ret2
              exact ⟨_, rfl, by rw [← Hres.out, Hrl2.out]; exact own_less hoD hBs, hBF.trans (hbD.mono hBs)⟩
      · clear hright
        rcases hleft with hl0 | ⟨hl1, hl2⟩ | ⟨hl1, hl2⟩
        · subst hl0
          go_wp2_with fail
          have kF := kR
          have hBF := hB
          have hrF := hr.below hBF (Nat.le_refl _)
          have Hres := Lib.hid HR.out
          rw [if_neg (by omega), if_neg (by omega), if_neg (by omega), if_neg (by omega)] at Hres
          have hrl : (regs (addF rs x y)).length = 0 + 1 + (n - 0) := by rw [← Hres.out]; simp; omega
          have Hrl2 := Lib.hid (show (rs.take 0 ++ [((x : Int), (y : Int))] ++ rs.drop 0).length = 0 + 1 + (n - 0) by rw [Hres.out]; exact hrl)
          clear cR fR lR hrl HR
          try clear c1' c2'
          try clear d1' d2'
          generalize wr = wF at *
          have cF0 : wF.cell? ⟨bR, 0, none⟩ = some (.int .i64 (x : Int)) := kF.cell 0
          have cF1 : wF.cell? ⟨bR, 1, none⟩ = some (.int .i64 (y : Int)) := kF.cell 1
          have hBs : w.heap.size ≤ wF.heap.size := hBF.size
          have hn6 : n ≤ 1000000 := by omega
          go_region_held3 (fun w' => w'.cell? ⟨bR, 0, none⟩ = some (.int .i64 (x : Int)) ∧ w'.cell? ⟨bR, 1, none⟩ = some (.int .i64 (y : Int)))
            (refine ⟨?_, ?_⟩ <;> (repeat (with_reducible first | exact cF0 | exact cF1 | refine rcell_later hbD ?_ | refine rcell_alloc _ ?_ | refine rcell_drew ?_ | refine rcell_later hbC ?_)))
            (first
              | (go_at_call 43; refine (RepTail wF n rs 0 0 (x : Int) (y : Int) v' wC hoC hbC (by with_reducible first | exact .inl ⟨rfl, rfl, rfl⟩ | exact .inr ⟨rfl, rfl, rfl⟩) (by omega) (by omega) (by omega)).mono ?_; rintro e wD ⟨vD, rfl, hoD, hbD⟩)
              | (go_at_call 44; refine (CloneR_any A n c rs _ (by with_reducible first | exact hrF.drw | exact (hrF.alloc _).drw) hn6).mono ?_; rintro e wC ⟨v', rfl, hoC, hbC⟩))
          all_goals
            go_wp2_with fail
            go_ret2
            exact ⟨_, rfl, by rw [← Hres.out, Hrl2.out]; exact own_less hoD hBs, hBF.trans (hbD.mono hBs)⟩
        · obtain ⟨gb, off, rfl, hgb, hcs⟩ := hr.prs (by omega)
          have hne1 : ¬ gb = bR := hgbR gb hgb
          obtain ⟨q, rfl⟩ : ∃ q, k = q + 1 := ⟨k - 1, by omega⟩
          rw [Nat.add_sub_cancel] at hl2 HR
          obtain ⟨lu, lv, hlq⟩ : ∃ lu lv, rs.getD q (0, 0) = (lu, lv) := ⟨_, _, rfl⟩
          obtain ⟨d1, d2⟩ := hcs q (by omega)
          have hbd := Hv2.out q (by omega)
          rw [hlq] at d1 d2 hl2 hbd HR
          simp only at d1 d2 hl2 hbd HR
          have d1' := (hB.cell (p := ⟨gb, off + q * 2, none⟩) hgb).trans d1
          have d2' := (hB.cell (p := ⟨gb, off + q * 2 + 1, none⟩) hgb).trans d2
          have hb1 : 0 ≤ lv := by omega
          have hb2 : lv ≤ 63 := by omega
          have hl2' : (lv + 1 == (x : Int)) = true := by simpa using hl2
          have HL2 := Lib.hid hl2
          clear hbd d1 d2 hl2
          go_wp2_with fail
          have kF := (kR.put 0 (.int .i64 lu))
          have hBF := (hB.setCell (p := ⟨bR, 0, none⟩) hwl (.int .i64 lu))
          have hrF := hr.below hBF (Nat.le_refl _)
          have Hres := Lib.hid HR.out
          rw [if_pos ⟨by omega, HL2.out⟩, if_pos ⟨by omega, HL2.out⟩, if_neg (by omega), if_neg (by omega)] at Hres
          have hrl : (regs (addF rs x y)).length = q + 1 + (n - (q + 1)) := by rw [← Hres.out]; simp; omega
          have Hrl2 := Lib.hid (show (rs.take q ++ [(lu, (y : Int))] ++ rs.drop (q + 1)).length = q + 1 + (n - (q + 1)) by rw [Hres.out]; exact hrl)
          clear cR fR lR hrl HR
          try clear c1' c2'
          try clear d1' d2'
          generalize (wr.setCell ⟨bR, 0, none⟩ (.int .i64 lu)) = wF at *
          have cF0 : wF.cell? ⟨bR, 0, none⟩ = some (.int .i64 lu) := kF.cell 0
          have cF1 : wF.cell? ⟨bR, 1, none⟩ = some (.int .i64 (y : Int)) := kF.cell 1
          have hBs : w.heap.size ≤ wF.heap.size := hBF.size
          have hn6 : n ≤ 1000000 := by omega
          go_region_held3 (fun w' => w'.cell? ⟨bR, 0, none⟩ = some (.int .i64 lu) ∧ w'.cell? ⟨bR, 1, none⟩ = some (.int .i64 (y : Int)))
            (refine ⟨?_, ?_⟩ <;> (repeat (with_reducible first | exact cF0 | exact cF1 | refine rcell_later hbD ?_ | refine rcell_alloc _ ?_ | refine rcell_drew ?_ | refine rcell_later hbC ?_)))
            (first
              | (go_at_call 43; refine (RepTail wF n rs q (q + 1) lu (y : Int) v' wC hoC hbC (by with_reducible first | exact .inl ⟨rfl, rfl, rfl⟩ | exact .inr ⟨rfl, rfl, rfl⟩) (by omega) (by omega) (by omega)).mono ?_; rintro e wD ⟨vD, rfl, hoD, hbD⟩)
              | (go_at_call 44; refine (CloneR_any (some ⟨gb, off, none⟩) n c rs _ (by with_reducible first | exact hrF.drw | exact (hrF.alloc _).drw) hn6).mono ?_; rintro e wC ⟨v', rfl, hoC, hbC⟩))
          all_goals
            go_wp2_with fail
            go_ret2
            exact ⟨_, rfl, by rw [← Hres.out, Hrl2.out]; exact own_less hoD hBs, hBF.trans (hbD.mono hBs)⟩
        · obtain ⟨gb, off, rfl, hgb, hcs⟩ := hr.prs (by omega)
          have hne1 : ¬ gb = bR := hgbR gb hgb
          obtain ⟨q, rfl⟩ : ∃ q, k = q + 1 := ⟨k - 1, by omega⟩
          rw [Nat.add_sub_cancel] at hl2 HR
          obtain ⟨lu, lv, hlq⟩ : ∃ lu lv, rs.getD q (0, 0) = (lu, lv) := ⟨_, _, rfl⟩
          obtain ⟨d1, d2⟩ := hcs q (by omega)
          have hbd := Hv2.out q (by omega)
          rw [hlq] at d1 d2 hl2 hbd HR
          simp only at d1 d2 hl2 hbd HR
          have d1' := (hB.cell (p := ⟨gb, off + q * 2, none⟩) hgb).trans d1
          have d2' := (hB.cell (p := ⟨gb, off + q * 2 + 1, none⟩) hgb).trans d2
          have hb1 : 0 ≤ lv := by omega
          have hb2 : lv ≤ 63 := by omega
          have hl2' : (lv + 1 == (x : Int)) = false := by simpa using hl2
          have HL2 := Lib.hid hl2
          clear hbd d1 d2 hl2
          go_wp2_with fail
          have kF := kR
          have hBF := hB
          have hrF := hr.below hBF (Nat.le_refl _)
          have Hres := Lib.hid HR.out
          rw [if_neg (fun h => HL2.out h.2), if_neg (fun h => HL2.out h.2), if_neg (by omega), if_neg (by omega)] at Hres
          have hrl : (regs (addF rs x y)).length = (q + 1) + 1 + (n - (q + 1)) := by rw [← Hres.out]; simp; omega
          have Hrl2 := Lib.hid (show (rs.take (q + 1) ++ [((x : Int), (y : Int))] ++ rs.drop (q + 1)).length = (q + 1) + 1 + (n - (q + 1)) by rw [Hres.out]; exact hrl)
          clear cR fR lR hrl HR
          try clear c1' c2'
          try clear d1' d2'
          generalize wr = wF at *
          have cF0 : wF.cell? ⟨bR, 0, none⟩ = some (.int .i64 (x : Int)) := kF.cell 0
          have cF1 : wF.cell? ⟨bR, 1, none⟩ = some (.int .i64 (y : Int)) := kF.cell 1
          have hBs : w.heap.size ≤ wF.heap.size := hBF.size
          have hn6 : n ≤ 1000000 := by omega
          go_region_held3 (fun w' => w'.cell? ⟨bR, 0, none⟩ = some (.int .i64 (x : Int)) ∧ w'.cell? ⟨bR, 1, none⟩ = some (.int .i64 (y : Int)))
            (refine ⟨?_, ?_⟩ <;> (repeat (with_reducible first | exact cF0 | exact cF1 | refine rcell_later hbD ?_ | refine rcell_alloc _ ?_ | refine rcell_drew ?_ | refine rcell_later hbC ?_)))
            (first
              | (go_at_call 43; refine (RepTail wF n rs (q + 1) (q + 1) (x : Int) (y : Int) v' wC hoC hbC (by with_reducible first | exact .inl ⟨rfl, rfl, rfl⟩ | exact .inr ⟨rfl, rfl, rfl⟩) (by omega) (by omega) (by omega)).mono ?_; rintro e wD ⟨vD, rfl, hoD, hbD⟩)
              | (go_at_call 44; refine (CloneR_any (some ⟨gb, off, none⟩) n c rs _ (by with_reducible first | exact hrF.drw | exact (hrF.alloc _).drw) hn6).mono ?_; rintro e wC ⟨v', rfl, hoC, hbC⟩))
          all_goals
            go_wp2_with fail
            go_ret2
            exact ⟨_, rfl, by rw [← Hres.out, Hrl2.out]; exact own_less hoD hBs, hBF.trans (hbD.mono hBs)⟩
end Go.Proofs.YtfblbkhiaglelaaDoor
