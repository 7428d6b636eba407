/- The examples of chapter 24 that every law checks. -/
import Derived.Test.YtfblbkhiaglelaaDoorRgG0
import Derived.Test.YtfblbkhiaglelaaDoorRgK
namespace Go.Proofs.YtfblbkhiaglelaaDoor
open Go Go.Proofs Go.RowKit
set_option linter.unusedSimpArgs false
set_option linter.unusedVariables false
set_option maxRecDepth 100000

def prK (l : List Int) (k : Nat) : List (Int × Int) := (List.range k).map fun j => (l.getD (2 * j) 0, l.getD (2 * j + 1) 0)
theorem prK_len (l : List Int) (k : Nat) : (prK l k).length = k := by simp [prK]
theorem prK_succ (l : List Int) (k : Nat) : prK l (k + 1) = prK l k ++ [(l.getD (2 * k) 0, l.getD (2 * k + 1) 0)] := by simp [prK, List.range_succ]
set_option maxHeartbeats 2000000 in
theorem r_any (l : List Int) (m : Nat) (A : Option Addr) (c : Nat) (w : World) (hr : Rd w 1 A (2 * m) (l.map (Value.int .i64))) (hm : m ≤ 1000) :
    Calls Tryd.prog 26 #[.slice A (2 * m) c] w fun e w' => ∃ v, e = .returned v ∧ w'.ownsRow w.heap.size 65 2 v m (flat2 .i64 (prK l m)) ∧ Below w.heap.size w w' := by
  obtain ⟨i0, hi, hz0, hz1, hz2⟩ := info_parts infoRgK
  obtain ⟨N, hN⟩ : ∃ N, 2 * m = N := ⟨_, rfl⟩
  rw [hN] at hr ⊢
  go_enter Tryd.func26, Tryd.ntmps26
  go_wp2_with fail
  go_loopw [3, 4] (fun v i wr => ∃ k K : Nat, k ≤ m ∧ K = 2 * k ∧ i = .int .i64 K ∧ wr.ownsRow w.heap.size 65 2 v k (flat2 .i64 (prK l k)) ∧ Below w.heap.size w wr) (fun _ i _ => N - (intOf i).toNat)
  case atStart => exact ⟨0, 0, by omega, rfl, rfl, World.ownsRow_nil _ _ _ _, Below.refl _ _⟩
  case round =>
    obtain ⟨k, K, hk, hK, rfl, hown, hB⟩ := hrel
    by_cases hlt : k < m
    · obtain ⟨b, off, x, rfl, hb, hx, c1⟩ := (hr.below hB (Nat.le_refl _)).num (i := K) (by omega)
      obtain ⟨b', off', y, he, hb', hy, c2⟩ := (hr.below hB (Nat.le_refl _)).num (i := K + 1) (by omega)
      injection he with he
      injection he with hq1 hq2
      subst hq1 hq2
      have HP := Lib.hid (prK_succ l k)
      rw [show l.getD (2 * k) 0 = x by rw [List.getD_eq_getElem?_getD, ← hK, hx]; rfl, show l.getD (2 * k + 1) 0 = y by rw [List.getD_eq_getElem?_getD, ← hK, hy]; rfl] at HP
      have hw1 : IntKind.i64.wrap ((K : Int) + 1) = (K : Int) + 1 := by rw [IntKind.wrap_i64]; omega
      have h1 : (K : Int) + 1 < (N : Int) := by omega
      have h2 : (K : Int) < (N : Int) := by omega
      have h3 : (0 : Int) ≤ (K : Int) + 1 := by omega
      have h4 : ((K : Int) + 1).toNat = K + 1 := by omega
      have hk1 : k ≤ 1000 := by omega
      have HK := Lib.hid hK
      clear hx hy hK
      go_wp2_with fail
      go_region_law (first | (refine step_append_lies _ rfl _ _ 22 rfl w.heap.size 65 i0 (.agg #[.int .i64 0, .int .i64 0]) 2 16 Tryd.underlying22 hi hz0 hz1 hz2 rfl (by decide) _ k (flat2 .i64 (prK l k)) rfl (show World.ownsRow (World.drew _) _ _ _ _ _ _ from hown.alloc _) ⟨wr.heap.size, 0, none⟩ 1 1 [.int .i64 x, .int .i64 y] rfl rfl (cell_two_new _ _ _ _) (by simp [Value.oneCell']) (by decide) (by simp only [maxLen]; omega) (by omega) (by have := hB.size; show w.heap.size ≤ _; simp; omega) _ rfl ?_; intro g cap w3 hown3 hgr3 hat3 hgl3))
      all_goals
        have hown4 : w3.ownsRow w.heap.size 65 2 (.slice (some ⟨g, 0, none⟩) (k + 1) cap) (k + 1) (flat2 .i64 (prK l (k + 1))) := by
          rw [HP.out, flat2_append]; exact hown3
        have hB3 : Below w.heap.size w w3 := (below_drew (balloc hB _)).grown hgr3 (by have := hB.size; show w.heap.size ≤ (wr.alloc _).heap.size; simp; omega) (fun q e => (hown.lt q e).1)
        clear hown3 hgr3 hat3
        go_wp2_with fail
        go_roundw
        case rel => first | exact ⟨k + 1, K + 2, by omega, by have := HK.out; omega, by go_num, hown4, hB3⟩ | ((repeat apply Exists.intro); exact ⟨⟨k + 1, K + 2, by omega, by have := HK.out; omega, by go_num, hown4, hB3⟩, rfl⟩)
        case measure => simp [intOf]; omega
    · obtain rfl : k = m := by omega
      have h1 : ¬ (K : Int) + 1 < (N : Int) := by omega
      have HK := Lib.hid hK
      have hw1 : IntKind.i64.wrap ((K : Int) + 1) = (K : Int) + 1 := by rw [IntKind.wrap_i64]; omega
      clear hK
      go_wp2_with fail
      go_ret
      exact ⟨_, rfl, hown, hB⟩
theorem mapped_true (A B : Option Addr) (n c m d : Nat) (rs want : List (Int × Int)) (a b most er : Int) (w : World) (hr : Rd w 2 A n (flat2 .i64 rs)) (hn : n ≤ 1000) (hq : Rd w 2 B m (flat2 .i64 want)) (hm : m ≤ 1000) (h : mapR rs a b most = (want, er)) :
    Calls Tryd.prog 25 #[.slice A n c, .int .i64 a, .int .i64 b, .int .i64 most, .slice B m d, .int .i64 er] w fun e w' => e = .returned (.bool true) ∧ Below w.heap.size w w' := by
  have HM := Lib.hid (Map_any A n c rs a b most w hr hn)
  rw [h] at HM
  have hlen : want.length = m := by have := hq.1; rw [flat2_len] at this; omega
  unfold RgRes at HM
  simp only [hlen] at HM
  clear h hlen
  go_enter Tryd.func25, Tryd.ntmps25
  go_wp2_with (first | (go_at_call 23; refine HM.out.mono ?_; rintro e w1 ⟨v, rfl, hown, hb1⟩; obtain ⟨A1, c1, rfl, hr1⟩ := own_slice hown) | (go_at_call 14; refine (SameRanges_eq A1 B m c1 d want _ hr1 (hq.below hb1 (Nat.le_refl _)) (by omega)).mono ?_; rintro e w2 ⟨rfl, hb2⟩))
  go_ret
  exact ⟨rfl, bnext hb1 hb2⟩
theorem unmapped_true (A B : Option Addr) (n c m d : Nat) (rs want : List (Int × Int)) (a b er : Int) (w : World) (hr : Rd w 2 A n (flat2 .i64 rs)) (hn : n ≤ 1000) (hq : Rd w 2 B m (flat2 .i64 want)) (hm : m ≤ 1000) (h : unmR rs a b = (want, er)) :
    Calls Tryd.prog 27 #[.slice A n c, .int .i64 a, .int .i64 b, .slice B m d, .int .i64 er] w fun e w' => e = .returned (.bool true) ∧ Below w.heap.size w w' := by
  have HM := Lib.hid (Unmap_any A n c rs a b w hr hn)
  rw [h] at HM
  have hlen : want.length = m := by have := hq.1; rw [flat2_len] at this; omega
  unfold RgRes at HM
  simp only [hlen] at HM
  clear h hlen
  go_enter Tryd.func27, Tryd.ntmps27
  go_wp2_with (first | (go_at_call 45; refine HM.out.mono ?_; rintro e w1 ⟨v, rfl, hown, hb1⟩; obtain ⟨A1, c1, rfl, hr1⟩ := own_slice hown) | (go_at_call 14; refine (SameRanges_eq A1 B m c1 d want _ hr1 (hq.below hb1 (Nat.le_refl _)) (by omega)).mono ?_; rintro e w2 ⟨rfl, hb2⟩))
  go_ret
  exact ⟨rfl, bnext hb1 hb2⟩
theorem aw1 : mapR [] 3 7 64 = ([(3, 7)], 0) := by decide +kernel
theorem aw2 : mapR [(3, 7)] 8 8 64 = ([(3, 8)], 0) := by decide +kernel
theorem aw3 : unmR [(3, 7)] 5 5 = ([(3, 4), (6, 7)], 0) := by decide +kernel
theorem rl_any (cs : Array Value) (t : TypeId) (l : List Int) (m N : Nat) (rs : List (Int × Int)) (w : World) (hz : cs.size = 2 * m * 1) (hcs : cs.toList = l.map (Value.int .i64)) (hN : N = 2 * m) (hp : prK l m = rs) (hm : m ≤ 1000) :
    Calls Tryd.prog 26 #[.slice (some ⟨w.heap.size, 0, none⟩) N N] (w.alloc (.cells cs t)) fun e w' => ∃ A c, e = .returned (.slice A m c) ∧ Rd w' 2 A m (flat2 .i64 rs) ∧ Below w.heap.size w w' := by
  subst hN hp
  refine (r_any l m _ _ _ (by have h := Rd.new (w := w) (sz := 1) (n := 2 * m) cs t hz; rw [hcs] at h; exact h) hm).mono ?_
  rintro e w' ⟨v, rfl, hown, hb⟩
  obtain ⟨A, c, rfl, hr⟩ := own_slice hown
  exact ⟨A, c, rfl, hr, bnext (balloc (Below.refl _ _) _) hb⟩
set_option maxHeartbeats 2000000 in
theorem awake_true (w : World) :
    Calls Tryd.prog 5 #[] w fun e w' => e = .returned (.bool true) ∧ Below w.heap.size w w' := by
  go_enter Tryd.func5, Tryd.ntmps5
  go_wp2_with fail
  go_at_call 26
  refine (rl_any _ _ [3, 7] 1 2 [(3, 7)] _ rfl rfl rfl rfl (by omega)).mono ?_
  rintro e w1 ⟨A1, c1, rfl, hr1, hb1⟩
  go_wp2_with fail
  go_at_call 25
  refine (mapped_true none A1 0 0 1 c1 [] [(3, 7)] 3 7 64 0 w1 (Rd.zero _) (by omega) hr1 (by omega) aw1).mono ?_
  rintro e w2 ⟨rfl, hb2⟩
  have B2 := bnext hb1 hb2
  go_wp2_with fail
  go_at_call 26
  refine (rl_any _ _ [3, 7] 1 2 [(3, 7)] _ rfl rfl rfl rfl (by omega)).mono ?_
  rintro e w3 ⟨A3, c3, rfl, hr3, hb3⟩
  go_wp2_with fail
  go_at_call 26
  refine (rl_any _ _ [3, 8] 1 2 [(3, 8)] _ rfl rfl rfl rfl (by omega)).mono ?_
  rintro e w4 ⟨A4, c4, rfl, hr4, hb4⟩
  go_wp2_with fail
  go_at_call 25
  refine (mapped_true A3 A4 1 c3 1 c4 [(3, 7)] [(3, 8)] 8 8 64 0 w4 (hr3.below hb4 (Nat.le_refl _)) (by omega) hr4 (by omega) aw2).mono ?_
  rintro e w5 ⟨rfl, hb5⟩
  have B5 := bnext (bnext (bnext B2 hb3) hb4) hb5
  go_wp2_with fail
  go_at_call 26
  refine (rl_any _ _ [3, 7] 1 2 [(3, 7)] _ rfl rfl rfl rfl (by omega)).mono ?_
  rintro e w6 ⟨A6, c6, rfl, hr6, hb6⟩
  go_wp2_with fail
  go_at_call 26
  refine (rl_any _ _ [3, 4, 6, 7] 2 4 [(3, 4), (6, 7)] _ rfl rfl rfl rfl (by omega)).mono ?_
  rintro e w7 ⟨A7, c7, rfl, hr7, hb7⟩
  go_wp2_with fail
  go_at_call 27
  refine (unmapped_true A6 A7 1 c6 2 c7 [(3, 7)] [(3, 4), (6, 7)] 5 5 0 w7 (hr6.below hb7 (Nat.le_refl _)) (by omega) hr7 (by omega) aw3).mono ?_
  rintro e w8 ⟨rfl, hb8⟩
  go_wp2_with fail
  go_ret
  exact ⟨rfl, bnext (bnext (bnext B5 hb6) hb7) hb8⟩
end Go.Proofs.YtfblbkhiaglelaaDoor
