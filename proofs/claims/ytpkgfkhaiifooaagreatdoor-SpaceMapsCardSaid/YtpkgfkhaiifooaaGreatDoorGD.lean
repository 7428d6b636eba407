/- Several texts in one. -/
import Derived.Test.YtpkgfkhaiifooaaGreatDoorSl3
import Derived.Test.YtpkgfkhaiifooaaGreatDoorGB
import Derived.Test.YtpkgfkhaiifooaaGreatDoorGA
import Derived.Deep.RegionWith
import Derived.Deep.RegionHeld3
import Derived.Deep.DeepCutAuto
import Derived.Deep.AppendLies
import Derived.Test.YtpkgfkhaiifooaaGreatDoorGC
/- slices.Replace on ranges: at the end; all ways together. -/
namespace Go.Proofs.YtpkgfkhaiifooaaGreatDoor
open Go Go.Proofs Go.RowKit
set_option linter.unusedSimpArgs false
set_option linter.unusedVariables false
set_option maxRecDepth 100000

section
variable {P : Program}
/-- append to a row that has room. -/
theorem append_room_any (w : World) (t ty e : TypeId) (i : TypeInfo) (z : Value) (sz : Nat) (ht : P.underlying t = some (.slice e)) (hi : P.info? e = some i) (hz : i.zero = some z) (hsz : i.size = sz) (h0 : 0 < sz)
    (g sLen sCap : Nat) (L : List Value) (hg : w.heap[g]? = some (.cells L.toArray e (0, 0))) (V : Option Addr) (m c : Nat) (cs : List Value) (hn : cs.length = m * sz) (hpos : 0 < cs.length → ∃ ad, V = some ad ∧ ∀ j v, cs[j]? = some v → w.cell? (ad.add j) = some v)
    (h1 : ∀ v ∈ cs, v.oneCell' = true) (hroom : sLen + m ≤ sCap) (hfit : sLen * sz + cs.length ≤ L.length) (B : Nat) (w0 : World) (hb : Below B w0 w) (hBg : B ≤ g) :
    ∃ w', (Builtin.append_ #[t, t] ty #[.slice (some ⟨g, 0, none⟩) sLen sCap, .slice V m c]).run P w = .ok (.slice (some ⟨g, 0, none⟩) (sLen + m) sCap) w' ∧ w'.heap[g]? = some (.cells (splice L (sLen * sz) cs).toArray e (0, 0)) ∧ Below B w0 w' ∧ w.grownBy w' (some g) := by
  subst hsz
  by_cases hm : m = 0
  · subst hm
    obtain rfl : cs = [] := List.eq_nil_of_length_eq_zero (by simpa using hn)
    refine ⟨w, ?_, by simpa [splice] using hg, hb, World.grownBy.refl w _⟩
    have hl : sLen ≤ sCap := by omega
    rcases V with _ | V <;> simp [Builtin.append_, run_underlying ht, sizeOf, typeInfo, hi, Builtin.lenOf, Builtin.firstCells, hl, loadCells, loadCellsFrom, storeCells]
  · have hp : 0 < cs.length := by rw [hn]; exact Nat.mul_pos (by omega) h0
    obtain ⟨ad, rfl, hsrc⟩ := hpos hp
    have hr := run_append_room (P := P) w t ty e i ht hi g sLen sCap L.toArray hg ad m c cs hn hsrc h1 hroom (by simpa using hfit)
    refine ⟨_, hr, ?_, below_setRow hb hBg _, ⟨rfl, rfl, rfl, by simp [World.setRow], fun k _ hk => setRow_other w g k _ (fun e => hk (by rw [e]))⟩⟩
    simpa [splice] using setRow_heap w g _ _ e _ hg
end
theorem take_splice {α : Type} (L : List α) (a : Nat) (X : List α) (h : a + X.length ≤ L.length) : (splice L a X).take (a + X.length) = L.take a ++ X := by
  unfold splice
  rw [← List.append_assoc, List.take_append_of_le_length (by simp; omega)]
  exact List.take_of_length_le (by simp; omega)
theorem splice_take {α : Type} (L : List α) (a : Nat) (X : List α) (h : a ≤ L.length) : (splice L a X).take a = L.take a := by
  unfold splice
  rw [List.take_append_of_le_length (by simp; omega), List.take_take, Nat.min_self]
set_option maxHeartbeats 4000000 in
theorem Replace_cut (g n c i : Nat) (V : Option Addr) (m cV B BV : Nat) (rs vs : List (Int × Int)) (w : World) (hown : w.ownsRow B 72 2 (.slice (some ⟨g, 0, none⟩) n c) n (flat2 .i64 rs)) (hV : w.ownsRow BV 72 2 (.slice V m cV) m (flat2 .i64 vs)) (hne : ∀ b, V = some ⟨b, 0, none⟩ → b ≠ g) (hij : i < n) (hm2 : m ≤ 2) (hn : n ≤ 1000) (hBs : B ≤ w.heap.size) (hle : i + m < n) :
    Calls Tryz.prog 51 #[.slice (some ⟨g, 0, none⟩) n c, .int .i64 i, .int .i64 n, .slice V m cV] w fun e w' => ∃ v', e = .returned v' ∧ w'.ownsRow B 72 2 v' (i + m) (flat2 .i64 (rs.take i ++ vs)) ∧ Below B w w' := by
  obtain ⟨i0, hin, hz0, hz1, hz2⟩ := info_parts infoRg
  obtain ⟨L, hg, hB, hnc, hcm, hL, hT⟩ := own_parts hown
  have hlen : rs.length = n := by have := hown.1; rw [flat2_len] at this; omega
  have hlenV : vs.length = m := by have := hV.1; rw [flat2_len] at this; omega
  have hB0 : Below B w w := Below.refl _ _
  obtain ⟨X1, hX1⟩ : ∃ X1, X1 = flat2 .i64 (rs.drop n) := ⟨_, rfl⟩
  have hX1l : X1.length = (n - n) * 2 := by rw [hX1, flat2_len, List.length_drop, hlen]
  have hX1c : ∀ q v, X1[q]? = some v → L[n * 2 + q]? = some v := fun q v hj => by
    rw [hX1, flat2_drop, ← hT, List.getElem?_drop, List.getElem?_take] at hj
    split at hj
    · exact hj
    · cases hj
  have hX1o : ∀ v ∈ X1, v.oneCell' = true := by rw [hX1]; exact oneCells_flat2 _ _
  obtain ⟨X2, hX2⟩ : ∃ X2, X2 = flat2 .i64 vs := ⟨_, rfl⟩
  have hX2l : X2.length = m * 2 := by rw [hX2, flat2_len, hlenV]
  have hX2o : ∀ v ∈ X2, v.oneCell' = true := by rw [hX2]; exact oneCells_flat2 _ _
  have hgl := (Array.getElem?_eq_some_iff.1 hg).1
  -- the source, wherever the first row lies behind a change of g alone
  have hsrc : ∀ w' : World, (∀ b, b ≠ g → b < w.heap.size → w'.heap[b]? = w.heap[b]?) → 0 < X2.length → ∃ ad, V = some ad ∧ ∀ q v, X2[q]? = some v → w'.cell? (ad.add q) = some v := fun w' hw hp => by
    obtain ⟨bV, cV', hv, _, hbl⟩ := hV.form (by omega)
    have hv1 : V = some ⟨bV, 0, none⟩ := by injection hv
    subst hv1
    obtain ⟨LV, hgV, _, _, _, _, hTV⟩ := own_parts hV
    refine ⟨_, rfl, fun q v hq => heap_cell ((hw bV (hne bV rfl) hbl).trans hgV) 0 q v ?_⟩
    rw [hX2, ← hTV, List.getElem?_take] at hq
    split at hq
    · simpa using hq
    · cases hq
  have HX1 := Lib.hid hX1
  have HX2 := Lib.hid hX2
  have hflen : (flat2 .i64 (rs.take i ++ vs)).length = (i + m) * 2 := by rw [flat2_len]; simp; omega
  obtain ⟨Z, hZ⟩ : ∃ Z, Z = flat2 .i64 (rs.take i ++ vs) := ⟨_, rfl⟩
  rw [← hZ] at hflen ⊢
  have HZ := Lib.hid hZ
  clear hZ
  have hLi : i < n → L.take (i * 2) = flat2 .i64 (rs.take i) := fun h => by rw [flat2_take, ← hT, List.take_take, Nat.min_eq_left (by omega)]
  have HLi := Lib.hid hLi
  have Hsrc := Lib.hid hsrc
  clear hX1 hX2 hT hLi hsrc
  have hij' : ¬ ((i : Int) = (n : Int)) := by omega
  simp only [maxLen] at hcm
  have hmc : i + m ≤ c := by omega
  have hLi := HLi.out (by omega)
  obtain ⟨w1, hrun1, hG1, hB1, hgr1⟩ := append_room_any (P := Tryz.prog) w 22 22 72 i0 (.agg #[.int .i64 0, .int .i64 0]) 2 Tryz.underlying22 hin hz0 hz1 (by decide) g i c L hg V m cV X2 hX2l (fun hp => Hsrc.out w (fun _ _ _ => rfl) hp) hX2o hmc (by rw [hX2l, hL]; omega) B w hB0 hB
  obtain ⟨S1, hS1⟩ : ∃ S1, S1 = splice L (i * 2) X2 := ⟨_, rfl⟩
  have hsl1 : S1.length = c * 2 := by rw [hS1, splice_len _ _ _ (by rw [hX2l, hL]; omega), hL]
  have hfin : S1.take ((i + m) * 2) = Z := by
    rw [HZ.out, flat2_append, ← HX2.out, ← hLi, hS1, show (i + m) * 2 = i * 2 + X2.length by rw [hX2l]; omega, take_splice _ _ _ (by rw [hX2l, hL]; omega)]
  rw [← hS1] at hG1
  have hcm1 : ¬ (c = i + m) := by omega
  obtain ⟨w3, cs3, hrun3, hcl3, hG3, hB3, _⟩ := clear_any (P := Tryz.prog) w1 22 0 72 i0 (.agg #[.int .i64 0, .int .i64 0]) 2 Tryz.underlying22 hin hz0 rfl (by intro u hu; simp [Value.cells] at hu; rcases hu with rfl | rfl <;> rfl) (by decide) (some ⟨g, (i + m) * 2, none⟩) (n - (i + m)) (c - (i + m)) g ((i + m) * 2) S1 72 hG1 (fun h => rfl) (by rw [hsl1]; omega) B w hB1 hB
  have hfin3 : (splice S1 ((i + m) * 2) cs3).take ((i + m) * 2) = Z := by
    rw [splice_take _ _ _ (by rw [hsl1]; omega)]
    exact hfin
  have hsl3 : (splice S1 ((i + m) * 2) cs3).length = c * 2 := by rw [splice_len _ _ _ (by rw [hcl3, hsl1]; omega), hsl1]
  have HG3 := Lib.hid hG3
  have Hfin3 := Lib.hid hfin3
  clear hG3 hfin3 hS1 hfin hG1 hLi
  have hbB : i ≤ n := by omega
  have hb7 : (i : Int) + (m : Int) < (n : Int) := by omega
  have hb8 : i + m < n := by omega
  go_enter Tryz.func51, Tryz.ntmps51
  go_wp2_with (at_builtin; refine Lib.wpList_append_run _ rfl _ _ _ _ rfl _ _ rfl rfl _ _ hrun1 ?_)
  all_goals
    go_ret
    exact ⟨_, rfl, own_make _ HG3.out hB hmc (by simp only [maxLen]; exact hcm) hsl3 Hfin3.out hflen, hB3⟩
set_option maxHeartbeats 4000000 in
theorem Replace_tail (g n c i : Nat) (V : Option Addr) (m cV B BV : Nat) (rs vs : List (Int × Int)) (w : World) (hown : w.ownsRow B 72 2 (.slice (some ⟨g, 0, none⟩) n c) n (flat2 .i64 rs)) (hV : w.ownsRow BV 72 2 (.slice V m cV) m (flat2 .i64 vs)) (hne : ∀ b, V = some ⟨b, 0, none⟩ → b ≠ g) (hij : i < n) (hm2 : m ≤ 2) (hn : n ≤ 1000) (hBs : B ≤ w.heap.size) (hle : n ≤ i + m) :
    Calls Tryz.prog 51 #[.slice (some ⟨g, 0, none⟩) n c, .int .i64 i, .int .i64 n, .slice V m cV] w fun e w' => ∃ v', e = .returned v' ∧ w'.ownsRow B 72 2 v' (i + m) (flat2 .i64 (rs.take i ++ vs)) ∧ Below B w w' := by
  obtain ⟨i0, hin, hz0, hz1, hz2⟩ := info_parts infoRg
  obtain ⟨L, hg, hB, hnc, hcm, hL, hT⟩ := own_parts hown
  have hlen : rs.length = n := by have := hown.1; rw [flat2_len] at this; omega
  have hlenV : vs.length = m := by have := hV.1; rw [flat2_len] at this; omega
  have hB0 : Below B w w := Below.refl _ _
  obtain ⟨X1, hX1⟩ : ∃ X1, X1 = flat2 .i64 (rs.drop n) := ⟨_, rfl⟩
  have hX1l : X1.length = (n - n) * 2 := by rw [hX1, flat2_len, List.length_drop, hlen]
  have hX1c : ∀ q v, X1[q]? = some v → L[n * 2 + q]? = some v := fun q v hj => by
    rw [hX1, flat2_drop, ← hT, List.getElem?_drop, List.getElem?_take] at hj
    split at hj
    · exact hj
    · cases hj
  have hX1o : ∀ v ∈ X1, v.oneCell' = true := by rw [hX1]; exact oneCells_flat2 _ _
  obtain ⟨X2, hX2⟩ : ∃ X2, X2 = flat2 .i64 vs := ⟨_, rfl⟩
  have hX2l : X2.length = m * 2 := by rw [hX2, flat2_len, hlenV]
  have hX2o : ∀ v ∈ X2, v.oneCell' = true := by rw [hX2]; exact oneCells_flat2 _ _
  have hgl := (Array.getElem?_eq_some_iff.1 hg).1
  -- the source, wherever the first row lies behind a change of g alone
  have hsrc : ∀ w' : World, (∀ b, b ≠ g → b < w.heap.size → w'.heap[b]? = w.heap[b]?) → 0 < X2.length → ∃ ad, V = some ad ∧ ∀ q v, X2[q]? = some v → w'.cell? (ad.add q) = some v := fun w' hw hp => by
    obtain ⟨bV, cV', hv, _, hbl⟩ := hV.form (by omega)
    have hv1 : V = some ⟨bV, 0, none⟩ := by injection hv
    subst hv1
    obtain ⟨LV, hgV, _, _, _, _, hTV⟩ := own_parts hV
    refine ⟨_, rfl, fun q v hq => heap_cell ((hw bV (hne bV rfl) hbl).trans hgV) 0 q v ?_⟩
    rw [hX2, ← hTV, List.getElem?_take] at hq
    split at hq
    · simpa using hq
    · cases hq
  have HX1 := Lib.hid hX1
  have HX2 := Lib.hid hX2
  have hflen : (flat2 .i64 (rs.take i ++ vs)).length = (i + m) * 2 := by rw [flat2_len]; simp; omega
  obtain ⟨Z, hZ⟩ : ∃ Z, Z = flat2 .i64 (rs.take i ++ vs) := ⟨_, rfl⟩
  rw [← hZ] at hflen ⊢
  have HZ := Lib.hid hZ
  clear hZ
  have hLi : i < n → L.take (i * 2) = flat2 .i64 (rs.take i) := fun h => by rw [flat2_take, ← hT, List.take_take, Nat.min_eq_left (by omega)]
  have HLi := Lib.hid hLi
  have Hsrc := Lib.hid hsrc
  clear hX1 hX2 hT hLi hsrc
  have hij' : ¬ ((i : Int) = (n : Int)) := by omega
  simp only [maxLen] at hcm
  have hLi := HLi.out (by omega)
  have hoi : w.ownsRow B 72 2 (.slice (some ⟨g, 0, none⟩) i c) i (flat2 .i64 (rs.take i)) := own_make L hg hB (by omega) (by simp only [maxLen]; exact hcm) hL hLi (by rw [flat2_len]; simp; omega)
  obtain ⟨Y, hY⟩ : ∃ Y, flat2 .i64 (rs.take i) = Y := ⟨_, rfl⟩
  have hZY : Y ++ X2 = Z := by rw [HZ.out, flat2_append, ← hY, HX2.out]
  have hrV : Rd w 2 V m X2 := by rw [HX2.out]; exact Rd.own hV
  rw [hY] at hoi
  have HZY := Lib.hid hZY
  clear hLi hY hZY
  have hbB : i ≤ n := by omega
  have hb7 : ¬ (i : Int) + (m : Int) < (n : Int) := by omega
  have hb8 : ¬ i + m < n := by omega
  go_enter Tryz.func51, Tryz.ntmps51
  go_wp2_with (at_builtin; refine wpList_append_rd _ rfl _ _ 22 rfl B 72 i0 (.agg #[.int .i64 0, .int .i64 0]) 2 16 Tryz.underlying22 hin hz0 hz1 hz2 rfl (by decide) _ _ _ rfl hoi _ m cV X2 rfl hrV hX2o (by simp only [maxLen]; omega) (by omega) hBs ?_; intro v' w1 hown' hgrow; obtain ⟨A', c', rfl, _⟩ := own_slice hown')
  all_goals
    go_ret
    exact ⟨_, rfl, by rw [← HZY.out]; exact hown', (Below.refl _ w).grown hgrow hBs (fun q e => (hoi.lt q e).1)⟩
/-- slices.Replace, whatever lies where. -/
theorem Replace_any (v : Value) (n i j : Nat) (V : Option Addr) (m cV B BV : Nat) (rs vs : List (Int × Int)) (w : World) (hown : w.ownsRow B 72 2 v n (flat2 .i64 rs)) (hV : w.ownsRow BV 72 2 (.slice V m cV) m (flat2 .i64 vs)) (hne : ∀ b, V = some ⟨b, 0, none⟩ → v.ownBlock ≠ some b) (hij : i ≤ j) (hjn : j ≤ n) (h0 : i = j → 0 < m) (hm2 : m ≤ 2) (hn : n ≤ 1000) (hBs : B ≤ w.heap.size) :
    Calls Tryz.prog 51 #[v, .int .i64 i, .int .i64 j, .slice V m cV] w fun e w' => ∃ v', e = .returned v' ∧ w'.ownsRow B 72 2 v' (i + m + (n - j)) (flat2 .i64 (rs.take i ++ vs ++ rs.drop j)) ∧ Below B w w' := by
  have hlen : rs.length = n := by have := hown.1; rw [flat2_len] at this; omega
  by_cases h1 : i = j
  · subst h1
    obtain ⟨bV, cV', hv, _, hbl⟩ := hV.form (h0 rfl)
    have hv1 : V = some ⟨bV, 0, none⟩ := by injection hv
    subst hv1
    rw [show i + m + (n - i) = n + m by omega]
    exact Replace_ins v n i bV m cV B BV rs vs w hown hV (hne bV rfl) hjn (h0 rfl) hm2 hn hBs
  · obtain ⟨g, c, rfl, hg1, hg2⟩ := hown.form (by omega)
    have hne' : ∀ b, V = some ⟨b, 0, none⟩ → b ≠ g := fun b hb e => hne b hb (by rw [e]; rfl)
    by_cases h2 : j = n
    · subst h2
      rw [Nat.sub_self, Nat.add_zero, List.drop_eq_nil_of_le (by omega), List.append_nil]
      by_cases h3 : i + m < j
      · exact Replace_cut g j c i V m cV B BV rs vs w hown hV hne' (by omega) hm2 hn hBs h3
      · exact Replace_tail g j c i V m cV B BV rs vs w hown hV hne' (by omega) hm2 hn hBs (by omega)
    · by_cases h3 : c < i + m + (n - j)
      · exact Replace_grow g n c i j V m cV B BV rs vs w hown hV hne' (by omega) hm2 hn hBs (by omega) h3
      · by_cases h4 : i + m ≤ j
        · exact Replace_less g n c i j V m cV B BV rs vs w hown hV hne' (by omega) hm2 hn hBs (by omega) h4
        · exact Replace_more g n c i j V m cV B BV rs vs w hown hV hne' (by omega) hm2 hn hBs (by omega) (by omega) (by omega)
end Go.Proofs.YtpkgfkhaiifooaaGreatDoor
/- Pages that are mapped, by the program. -/
namespace Go.Proofs.YtpkgfkhaiifooaaGreatDoor
open Go Go.Proofs Go.RowKit
set_option linter.unusedSimpArgs false
set_option linter.unusedVariables false
set_option maxRecDepth 100000

theorem CloneR_any (A : Option Addr) (n c : Nat) (rs : List (Int × Int)) (w : World) (hr : Rd w 2 A n (flat2 .i64 rs)) (hn : n ≤ 1000000) :
    Calls Tryz.prog 52 #[.slice A n c] w fun e w' => ∃ v', e = .returned v' ∧ w'.ownsRow w.heap.size 72 2 v' n (flat2 .i64 rs) ∧ Below w.heap.size w w' := by
  have hnil := fun (w : World) (A : Option Addr) (n c : Nat) => Lib.run_eql_slice_nil (P := Tryz.prog) w 22 72 A n c 0 0 Tryz.underlying22
  rcases A with _ | ad
  · have hm : n = 0 := by
      rcases Nat.eq_zero_or_pos n with h0 | h0
      · exact h0
      · obtain ⟨b, off, h, _⟩ := hr.2 h0
        cases h
    subst hm
    have hw : flat2 .i64 rs = [] := List.eq_nil_of_length_eq_zero (by simpa using hr.1)
    rw [hw]
    go_enter Tryz.func52, Tryz.ntmps52
    go_wp2_with fail
    go_ret
    exact ⟨_, rfl, World.ownsRow_nil _ _ _ _, by (repeat' (first | exact Below.refl _ _ | assumption | refine balloc ?_ _ | refine below_drawn ?_ _ | refine below_drew ?_ | refine bnext ?_ hb24 | refine bnext ?_ hb23 | refine bnext ?_ hb22 | refine bnext ?_ hb21 | refine bnext ?_ hb20 | refine bnext ?_ hb19 | refine bnext ?_ hb18 | refine bnext ?_ hb17 | refine bnext ?_ hb16 | refine bnext ?_ hb15 | refine bnext ?_ hb14 | refine bnext ?_ hb13 | refine bnext ?_ hb12 | refine bnext ?_ hb11 | refine bnext ?_ hb10 | refine bnext ?_ hb9 | refine bnext ?_ hb8 | refine bnext ?_ hb7 | refine bnext ?_ hb6 | refine bnext ?_ hb5 | refine bnext ?_ hb4 | refine bnext ?_ hb3 | refine bnext ?_ hb2 | refine bnext ?_ hb1))⟩
  · obtain ⟨i0, hi, hz0, hz1, hz2⟩ := info_parts infoRg
    go_enter Tryz.func52, Tryz.ntmps52
    go_wp2_with (at_builtin; refine wpList_append_rd _ rfl _ _ 22 rfl w.heap.size 72 i0 (.agg #[.int .i64 0, .int .i64 0]) 2 16 Tryz.underlying22 hi hz0 hz1 hz2 rfl (by decide) _ _ _ rfl (own_empty w 72 2) _ n c (flat2 .i64 rs) rfl (hr.alloc _) (oneCells_flat2 _ _) (by simp only [maxLen]; omega) (by omega) (by simp) ?_; intro v' w1 hown' hgrow)
    go_ret
    rw [Nat.zero_add, List.nil_append] at hown'
    exact ⟨_, rfl, hown', (((Below.refl _ w).alloc (Nat.le_refl _) _).grown hgrow (by simp) (fun k e => by cases e; exact Nat.le_refl _))⟩

/-- Ranges and an error that a call returned. -/
def RgRes (w w' : World) (l : List (Int × Int)) (er : Int) (e : Ending) : Prop := ∃ v, e = .returned (.tuple #[v, .int .i64 er]) ∧ w'.ownsRow w.heap.size 72 2 v l.length (flat2 .i64 l) ∧ Below w.heap.size w w'
theorem RgRes.nil {w w' : World} {er : Int} {e : Ending} (he : e = .returned (.tuple #[.slice none 0 0, .int .i64 er])) (hb : Below w.heap.size w w') : RgRes w w' [] er e := ⟨_, he, World.ownsRow_nil _ _ _ _, hb⟩

def isP (n : Int) : Bool := decide (0 ≤ n) && decide (n < 64)
theorem rIsP (n : Int) (w : World) : Calls Tryz.prog 83 #[.int .i64 n] w fun e w' => e = .returned (.bool (isP n)) ∧ w' = w := rIsPage n w
theorem isP_t {n : Int} (h0 : 0 ≤ n) (h1 : n < 64) : isP n = true := by unfold isP; rw [decide_eq_true h0, decide_eq_true h1]; rfl
theorem isP_f {n : Int} (h : n < 0 ∨ 64 ≤ n) : isP n = false := by unfold isP; rw [Bool.and_eq_false_iff]; simp only [decide_eq_false_iff_not]; omega
set_option maxHeartbeats 1000000 in
theorem begin_any (A : Option Addr) (n c : Nat) (rs : List (Int × Int)) (a b : Int) (w : World) (hr : Rd w 2 A n (flat2 .i64 rs)) (hn : n ≤ 1000000) :
    Calls Tryz.prog 47 #[.slice A n c, .int .i64 a, .int .i64 b] w fun e w' => e = .returned (.int .i64 (begE rs a b)) ∧ Below w.heap.size w w' := by
  by_cases hE : (regE rs).1 = 0
  · have hb : begE rs a b = rngE a b := by unfold begE; rw [if_neg (by simp [hE])]
    rw [hb]
    have HE := Lib.hid hE
    clear hE hb
    unfold rngE
    by_cases hbad : a < 0 ∨ b < a ∨ 63 < b
    · rw [if_pos hbad]
      have hcs : (a < 0 ∨ 64 ≤ a) ∨ ((0 ≤ a ∧ a < 64) ∧ (b < 0 ∨ 64 ≤ b)) ∨ ((0 ≤ a ∧ a < 64) ∧ (0 ≤ b ∧ b < 64) ∧ b < a) := by omega
      clear hbad
      rcases hcs with h1 | ⟨h1, h2⟩ | ⟨h1, h2, h3⟩
      · have d1 := isP_f h1
        clear h1
        go_enter Tryz.func47, Tryz.ntmps47
        go_wp2_with (first
          | (go_at_call 43; refine (rCheckP_any A n c rs _ hr hn).mono ?_; rw [HE.out]; rintro e w1 ⟨rfl, hb1⟩)
          | (go_at_call 83; refine (rIsP _ _).mono ?_; rintro e w' ⟨rfl, rfl⟩))
        go_ret
        exact ⟨rfl, hb1⟩
      · have d1 := isP_t h1.1 h1.2
        have d2 := isP_f h2
        clear h1 h2
        go_enter Tryz.func47, Tryz.ntmps47
        go_wp2_with (first
          | (go_at_call 43; refine (rCheckP_any A n c rs _ hr hn).mono ?_; rw [HE.out]; rintro e w1 ⟨rfl, hb1⟩)
          | (go_at_call 83; refine (rIsP _ _).mono ?_; rintro e w' ⟨rfl, rfl⟩))
        go_ret
        exact ⟨rfl, hb1⟩
      · have d1 := isP_t h1.1 h1.2
        have d2 := isP_t h2.1 h2.2
        clear h1 h2
        go_enter Tryz.func47, Tryz.ntmps47
        go_wp2_with (first
          | (go_at_call 43; refine (rCheckP_any A n c rs _ hr hn).mono ?_; rw [HE.out]; rintro e w1 ⟨rfl, hb1⟩)
          | (go_at_call 83; refine (rIsP _ _).mono ?_; rintro e w' ⟨rfl, rfl⟩))
        go_ret
        exact ⟨rfl, hb1⟩
    · rw [if_neg hbad]
      have d1 := isP_t (show 0 ≤ a by omega) (show a < 64 by omega)
      have d2 := isP_t (show 0 ≤ b by omega) (show b < 64 by omega)
      have h3 : ¬ b < a := by omega
      clear hbad
      go_enter Tryz.func47, Tryz.ntmps47
      go_wp2_with (first
        | (go_at_call 43; refine (rCheckP_any A n c rs _ hr hn).mono ?_; rw [HE.out]; rintro e w1 ⟨rfl, hb1⟩)
        | (go_at_call 83; refine (rIsP _ _).mono ?_; rintro e w' ⟨rfl, rfl⟩))
      go_ret
      exact ⟨rfl, hb1⟩
  · have hb : begE rs a b = (regE rs).1 := by unfold begE; rw [if_pos hE]
    rw [hb]
    have HC := Lib.hid (rCheckP_any A n c rs w hr hn)
    have hE' : ((regE rs).1 == 0) = false := by simpa using hE
    clear hE hb
    generalize (regE rs).1 = z at *
    generalize (regE rs).2 = z2 at *
    go_enter Tryz.func47, Tryz.ntmps47
    go_wp2_with (go_at_call 43; refine HC.out.mono ?_; rintro e w1 ⟨rfl, hb1⟩)
    go_ret
    exact ⟨rfl, hb1⟩
/-- The ways of Map that fail. -/
theorem Map_bad (A : Option Addr) (n c : Nat) (rs : List (Int × Int)) (a b most : Int) (w : World) (hr : Rd w 2 A n (flat2 .i64 rs)) (hn : n ≤ 1000000) (hE : begE rs a b ≠ 0) :
    Calls Tryz.prog 21 #[.slice A n c, .int .i64 a, .int .i64 b, .int .i64 most] w fun e w' => RgRes w w' [] (begE rs a b) e := by
  have HC := Lib.hid (begin_any A n c rs a b w hr hn)
  have hE' : (begE rs a b == 0) = false := by simpa using hE
  clear hE
  generalize begE rs a b = z at *
  go_enter Tryz.func21, Tryz.ntmps21
  go_wp2_with (go_at_call 47; refine HC.out.mono ?_; rintro e w1 ⟨rfl, hb1⟩)
  go_ret2
  exact RgRes.nil rfl hb1
theorem pop_set (rs : List (Int × Int)) (h : RgV rs) : pop (setN rs rs.length) = cntP (hasP rs) := by
  unfold pop cntP
  exact List.countP_congr (fun p _ => by rw [setN_has rs h])
theorem Map_exists (A : Option Addr) (n c : Nat) (rs : List (Int × Int)) (a b most : Int) (w : World) (hr : Rd w 2 A n (flat2 .i64 rs)) (hn : n ≤ 1000000) (hE : begE rs a b = 0) (hany : anyIn rs a b = true) :
    Calls Tryz.prog 21 #[.slice A n c, .int .i64 a, .int .i64 b, .int .i64 most] w fun e w' => RgRes w w' [] 7 e := by
  obtain ⟨hv, h0, h1, h2⟩ := begE_zero hE
  obtain ⟨x, rfl⟩ : ∃ x : Nat, a = x := ⟨a.toNat, by omega⟩
  obtain ⟨y, rfl⟩ : ∃ y : Nat, b = y := ⟨b.toNat, by omega⟩
  have HE := Lib.hid hE
  have hA := u64_and_nat _ _ (setN_lt rs rs.length) (spanN_lt x y)
  have hne : ((setN rs rs.length &&& spanN x y : Nat) : Int) ≠ 0 := by
    intro h
    have h' : setN rs rs.length &&& spanN x y = 0 := by omega
    have := (setN_and rs hv x y (by omega) (by omega) (by omega)).1 (by simpa using h')
    rw [hany] at this
    cases this
  rw [← hA] at hne
  have hne' : (bits .and .u64 (setN rs rs.length : Int) (spanN x y : Int) == 0) = false := by simpa using hne
  clear hE hA hne
  go_enter Tryz.func21, Tryz.ntmps21
  go_wp2_with (first
    | (go_at_call 47; refine (begin_any A n c rs x y _ hr hn).mono ?_; rw [HE.out]; rintro e w1 ⟨rfl, hb1⟩)
    | (go_at_call 48; refine (pages_any A n c rs _ (hr.below hb1 (Nat.le_refl _)) hn hv).mono ?_; rintro e w2 ⟨rfl, hb2⟩)
    | (go_at_call 49; refine (span_any x y _ (by omega) (by omega)).mono ?_; rintro e w' ⟨rfl, rfl⟩))
  go_ret2
  exact RgRes.nil rfl (bnext hb1 hb2)
/-- What Map knows when nothing stands in the way. -/
theorem map_plain (rs : List (Int × Int)) (x y : Nat) (hv : RgV rs) (h1 : x ≤ y) (h2 : y ≤ 63) (hany : anyIn rs x y = false) :
    bits .and .u64 (setN rs rs.length : Int) (spanN x y : Int) = 0 ∧ (cntP (addF rs x y) : Int) = (pop (setN rs rs.length) : Int) + ((y : Int) - (x : Int) + 1) ∧ pop (setN rs rs.length) ≤ 64 ∧ setN rs rs.length < 18446744073709551616 := by
  have hA := u64_and_nat _ _ (setN_lt rs rs.length) (spanN_lt x y)
  have hz := (setN_and rs hv x y (by omega) (by omega) (by omega)).2 hany
  simp only [Int.toNat_natCast] at hz
  rw [hz] at hA
  have hadd := cntP_add (hasP rs) x y (by omega) (by omega) (by omega) (fun p ⟨h3, h4⟩ => by
    unfold inR at h4
    rw [Bool.and_eq_true, decide_eq_true_eq, decide_eq_true_eq] at h4
    rw [(anyIn_iff rs x y (by omega)).2 ⟨p, h4.1, h4.2, h3⟩] at hany
    cases hany)
  rw [pop_set rs hv]
  exact ⟨hA, hadd, cntP_le _, setN_lt _ _⟩
theorem Map_full (A : Option Addr) (n c : Nat) (rs : List (Int × Int)) (a b most : Int) (w : World) (hr : Rd w 2 A n (flat2 .i64 rs)) (hn : n ≤ 1000000) (hE : begE rs a b = 0) (hany : anyIn rs a b = false) (hfull : most < (cntP (addF rs a b) : Int)) :
    Calls Tryz.prog 21 #[.slice A n c, .int .i64 a, .int .i64 b, .int .i64 most] w fun e w' => RgRes w w' [] 5 e := by
  obtain ⟨hv, h0, h1, h2⟩ := begE_zero hE
  obtain ⟨x, rfl⟩ : ∃ x : Nat, a = x := ⟨a.toNat, by omega⟩
  obtain ⟨y, rfl⟩ : ∃ y : Nat, b = y := ⟨b.toNat, by omega⟩
  have HE := Lib.hid hE
  obtain ⟨hA, hcp, hp64, hlt⟩ := map_plain rs x y hv (by omega) (by omega) hany
  rw [hcp] at hfull
  have HP := Lib.hid (fun w1 h => pages_any A n c rs w1 h hn hv)
  clear hE hcp hany
  generalize setN rs rs.length = S at *
  have HO := Lib.hid (fun w => OnesCount_any S w hlt)
  generalize pop S = pc at *
  have hfull' : most < (pc : Int) + (y : Int) - (x : Int) + 1 := by omega
  clear hfull
  go_enter Tryz.func21, Tryz.ntmps21
  go_wp2_with (first
    | (go_at_call 47; refine (begin_any A n c rs x y _ hr hn).mono ?_; rw [HE.out]; rintro e w1 ⟨rfl, hb1⟩)
    | (go_at_call 48; refine (HP.out _ (hr.below hb1 (Nat.le_refl _))).mono ?_; rintro e w2 ⟨rfl, hb2⟩)
    | (go_at_call 49; refine (span_any x y _ (by omega) (by omega)).mono ?_; rintro e w' ⟨rfl, rfl⟩)
    | (go_at_call 50; refine (HO.out _).mono ?_; rintro e w' ⟨rfl, rfl⟩))
  go_ret2
  exact RgRes.nil rfl (bnext hb1 hb2)
theorem Rd.prs {w : World} {A : Option Addr} {n : Nat} {rs : List (Int × Int)} (h : Rd w 2 A n (flat2 .i64 rs)) (h0 : 0 < n) :
    ∃ b off, A = some ⟨b, off, none⟩ ∧ b < w.heap.size ∧ ∀ i, i < n → w.cell? ⟨b, off + i * 2, none⟩ = some (.int .i64 (rs.getD i (0, 0)).1) ∧ w.cell? ⟨b, off + i * 2 + 1, none⟩ = some (.int .i64 (rs.getD i (0, 0)).2) := by
  obtain ⟨b, off, r, e, hb, _⟩ := h.pair h0
  refine ⟨b, off, e, hb, fun i hi => ?_⟩
  obtain ⟨b', off', a, c, e', _, hg, h1, h2⟩ := h.pr hi
  rw [e] at e'
  injection e' with e'
  injection e' with q1 q2
  subst q1 q2
  rw [hg]
  exact ⟨h1, h2⟩
theorem rcell_later {w w' : World} {a : Addr} {v : Value} (hb : Below w.heap.size w w') (h : w.cell? a = some v) : w'.cell? a = some v := by
  rw [hb.cell (p := a) (by unfold World.cell? at h; split at h; exact (Array.getElem?_eq_some_iff.1 (by assumption)).1; cases h)]; exact h
theorem rcell_alloc {w : World} {a : Addr} {v : Value} (o : Obj) (h : w.cell? a = some v) : (w.alloc o).cell? a = some v := rcell_later (balloc (Below.refl _ _) o) h
theorem rcell_drew {w : World} {a : Addr} {v : Value} (h : w.cell? a = some v) : w.drew.cell? a = some v := h
theorem Rd.drw {w : World} {sz n : Nat} {A : Option Addr} {xs : List Value} (h : Rd w sz A n xs) : Rd w.drew sz A n xs := h
theorem own_one (w : World) (e : TypeId) (u v : Value) : (w.alloc (.cells #[u, v] e)).ownsRow w.heap.size e 2 (.slice (some ⟨w.heap.size, 0, none⟩) 1 1) 1 [u, v] :=
  ⟨rfl, .inr ⟨w.heap.size, 1, #[u, v], rfl, Nat.le_refl _, heap_alloc_new w _, Nat.le_refl _, by simp [maxLen], rfl, rfl⟩⟩
/-- The call of Replace at the end of Map, whichever of its two arguments was laid first. -/
theorem RepTail (wF : World) (n : Nat) (rs : List (Int × Int)) (f l : Nat) (X Y : Int) (v' : Value) (wC : World) {wA W : World} {V : Option Addr}
    (hoC : wC.ownsRow wA.heap.size 72 2 v' n (flat2 .i64 rs)) (hbC : Below wA.heap.size wA wC)
    (h : (wA = wF.drew ∧ V = some ⟨wC.heap.size, 0, none⟩ ∧ W = wC.alloc (.cells #[.int .i64 X, .int .i64 Y] 72)) ∨ (wA = (wF.alloc (.cells #[.int .i64 X, .int .i64 Y] 72)).drew ∧ V = some ⟨wF.heap.size, 0, none⟩ ∧ wC = W))
    (hfl : f ≤ l) (hln : l ≤ n) (hn : n ≤ 1000) :
    Calls Tryz.prog 51 #[v', .int .i64 f, .int .i64 l, .slice V 1 1] W fun e w' => ∃ vD, e = .returned vD ∧ w'.ownsRow wF.heap.size 72 2 vD (f + 1 + (n - l)) (flat2 .i64 (rs.take f ++ [(X, Y)] ++ rs.drop l)) ∧ Below wF.heap.size wF w' := by
  rcases h with ⟨rfl, rfl, rfl⟩ | ⟨rfl, rfl, rfl⟩
  · have hbC' : Below wF.heap.size wF wC := ⟨hbC.os, hbC.tape, hbC.output, hbC.size, hbC.block⟩
    have ho1 : (wC.alloc (.cells #[.int .i64 X, .int .i64 Y] 72)).ownsRow wF.heap.size 72 2 v' n (flat2 .i64 rs) := hoC.alloc (.cells #[.int .i64 X, .int .i64 Y] 72)
    refine (Replace_any v' n f l _ 1 1 wF.heap.size wC.heap.size rs [(X, Y)] _ ho1 (own_one wC _ _ _) ?_ hfl hln (fun _ => by omega) (by omega) hn ?_).mono ?_
    · intro b hb e
      injection hb with hb
      injection hb with hb
      have := (hoC.lt b e).2
      omega
    · have := hbC'.size; simp; omega
    · rintro e w' ⟨vD, he, h1, h2⟩
      exact ⟨vD, he, h1, (balloc hbC' _).trans h2⟩
  · have hsz : (wF.alloc (.cells #[.int .i64 X, .int .i64 Y] 72)).drew.heap.size = wF.heap.size + 1 := by show (wF.alloc _).heap.size = _; simp
    have hbC' : Below wF.heap.size wF wC := bnext (balloc (Below.refl _ wF) (.cells #[.int .i64 X, .int .i64 Y] 72)) ⟨hbC.os, hbC.tape, hbC.output, hbC.size, hbC.block⟩
    have hV : wC.ownsRow wF.heap.size 72 2 (.slice (some ⟨wF.heap.size, 0, none⟩) 1 1) 1 (flat2 .i64 [(X, Y)]) := own_below (own_one wF _ _ _) ⟨hbC.os, hbC.tape, hbC.output, hbC.size, hbC.block⟩
    refine (Replace_any v' n f l _ 1 1 wF.heap.size wF.heap.size rs [(X, Y)] _ (own_less hoC (by rw [hsz]; omega)) hV ?_ hfl hln (fun _ => by omega) (by omega) hn hbC'.size).mono ?_
    · intro b hb e
      injection hb with hb
      injection hb with hb
      have := (hoC.lt b e).1
      omega
    · rintro e w' ⟨vD, he, h1, h2⟩
      exact ⟨vD, he, h1, hbC'.trans h2⟩
def MfR (w : World) (rs : List (Int × Int)) (x bR : Nat) (y : Nat) (i : Value) (wr : World) : Prop := ∃ k : Nat, k ≤ rs.length ∧ i = .int .i64 k ∧ (∀ j, j < k → (rs.getD j (0, 0)).2 < (x : Int)) ∧ Bk wr bR #[.int .i64 x, .int .i64 y] 72 ∧ Below w.heap.size w wr
set_option maxHeartbeats 4000000 in
theorem Map_ok (A : Option Addr) (n c : Nat) (rs : List (Int × Int)) (a b most : Int) (w : World) (hr : Rd w 2 A n (flat2 .i64 rs)) (hn : n ≤ 1000) (hE : begE rs a b = 0) (hany : anyIn rs a b = false) (hfull : ¬ most < (cntP (addF rs a b) : Int)) :
    Calls Tryz.prog 21 #[.slice A n c, .int .i64 a, .int .i64 b, .int .i64 most] w fun e w' => RgRes w w' (regs (addF rs a b)) 0 e := by
  obtain ⟨hv, h0, h1, h2⟩ := begE_zero hE
  obtain ⟨x, rfl⟩ : ∃ x : Nat, a = x := ⟨a.toNat, by omega⟩
  obtain ⟨y, rfl⟩ : ∃ y : Nat, b = y := ⟨b.toNat, by omega⟩
  have hlen : rs.length = n := by have := hr.1; rw [flat2_len] at this; omega
  have HE := Lib.hid hE
  have HL := Lib.hid (fun k => mapL_ok rs k x y hv (by omega) (by omega) (by omega) hany)
  obtain ⟨hA, hcp, hp64, hlt⟩ := map_plain rs x y hv (by omega) (by omega) hany
  rw [hcp] at hfull
  have HP := Lib.hid (fun w1 h => pages_any A n c rs w1 h (by omega) hv)
  have Hv := Lib.hid hv
  unfold RgV at Hv
  rw [hlen] at Hv
  clear hE hcp hany
  generalize setN rs rs.length = S at *
  have HO := Lib.hid (fun w => OnesCount_any S w hlt)
  generalize pop S = pc at *
  have hfull' : ¬ most < (pc : Int) + (y : Int) - (x : Int) + 1 := by omega
  clear hfull
  go_enter Tryz.func21, Tryz.ntmps21
  go_wp2_with (first
    | (go_at_call 47; refine (begin_any A n c rs x y _ hr (by omega)).mono ?_; rw [HE.out]; rintro e w1 ⟨rfl, hb1⟩)
    | (go_at_call 48; refine (HP.out _ (hr.below hb1 (Nat.le_refl _))).mono ?_; rintro e w2 ⟨rfl, hb2⟩)
    | (go_at_call 49; refine (span_any x y _ (by omega) (by omega)).mono ?_; rintro e w' ⟨rfl, rfl⟩)
    | (go_at_call 50; refine (HO.out _).mono ?_; rintro e w' ⟨rfl, rfl⟩))
  -- MAP LOOP
  have kR := Bk.new w' #[.int .i64 x, .int .i64 y] 72
  have hB := balloc (bnext hb1 hb2) (.cells #[.int .i64 x, .int .i64 y] 72)
  have hwl : w.heap.size ≤ w'.heap.size := (bnext hb1 hb2).size
  generalize w'.alloc (.cells #[.int .i64 x, .int .i64 y] 72) = w3 at *
  generalize w'.heap.size = bR at *
  clear hb1 hb2 HP HO hA hlt hp64
  go_loopw [13] (MfR w rs x bR y) (fun i _ => rs.length - (intOf i).toNat)
  case atStart => exact ⟨0, by omega, rfl, fun j h => absurd h (Nat.not_lt_zero _), kR, hB⟩
  case round =>
    clear kR hB
    obtain ⟨k, hk, rfl, hlo, kR, hB⟩ := hrel
    rw [hlen] at hk
    have hrr := hr.below hB (Nat.le_refl _)
    by_cases hgo : k < n ∧ (rs.getD k (0, 0)).2 < (x : Int)
    · obtain ⟨hlt, hx⟩ := hgo
      obtain ⟨gb, off, u, v, rfl, hgb, hg, c1, c2⟩ := hrr.pr hlt
      have hx' : v < (x : Int) := by rw [hg] at hx; exact hx
      have Hlo : Hid (∀ j, j < k + 1 → (rs.getD j (0, 0)).2 < (x : Int)) := Lib.hid (fun j hj => by rcases Nat.lt_or_ge j k with h | h; exact hlo j h; rw [show j = k by omega]; exact hx)
      clear hlo hx hg
      go_wp2_with fail
      go_roundw
      case rel => exact ⟨k + 1, by omega, by go_num, Hlo.out, kR, hB⟩
      case measure => simp [intOf]; omega
    · have hge : k < rs.length → ¬ (rs.getD k (0, 0)).2 < (x : Int) := fun h1 h2 => hgo ⟨by omega, h2⟩
      have HR := Lib.hid (HL.out k (by omega) hlo (fun h => by have := hge h; omega))
      unfold mapL at HR
      rw [hlen] at HR hge
      have Hlo := Lib.hid hlo
      clear hgo HL hlo
      obtain ⟨cR, fR, lR⟩ := kR.facts
      have hleft : (k = 0) ∨ (0 < k ∧ (rs.getD (k - 1) (0, 0)).2 + 1 = (x : Int)) ∨ (0 < k ∧ ¬ (rs.getD (k - 1) (0, 0)).2 + 1 = (x : Int)) := by omega
      have hright : (k = n) ∨ (k < n ∧ (rs.getD k (0, 0)).1 = (y : Int) + 1) ∨ (k < n ∧ ¬ (rs.getD k (0, 0)).1 = (y : Int) + 1) := by omega
      have Hv2 := Lib.hid (fun j (hj : j < n) => rgE_one (Hv.out j hj))
      have hge2 : k < n → ¬ (rs.getD k (0, 0)).2 < (x : Int) := hge
      clear hge
      have hgbR : ∀ gb, gb < w.heap.size → gb ≠ bR := fun gb h => by omega
      by_cases hkn : k < n
      · obtain ⟨gb, off, rfl, hgb, hcs⟩ := hr.prs (by omega)
        obtain ⟨c1, c2⟩ := hcs k hkn
        have hgx := hge2 hkn
        obtain ⟨ru, rv, hgr⟩ : ∃ ru rv, rs.getD k (0, 0) = (ru, rv) := ⟨_, _, rfl⟩
        have hbd2 := Hv2.out k hkn
        rw [hgr] at c1 c2 hgx hright HR hbd2
        simp only at c1 c2 hgx hright HR hbd2
        have hc1 : 0 ≤ ru := by omega
        have hc2 : ru ≤ 63 := by omega
        have c2' := (hB.cell (p := ⟨gb, off + k * 2 + 1, none⟩) hgb).trans c2
        have c1' := (hB.cell (p := ⟨gb, off + k * 2, none⟩) hgb).trans c1
        have hne1 : ¬ gb = bR := hgbR gb hgb
        clear hgbR hbd2
        rcases hright with hr1 | ⟨hr1, hr2⟩ | ⟨hr1, hr2⟩
        · exact absurd hkn (by omega)
        · rcases hleft with hl0 | ⟨hl1, hl2⟩ | ⟨hl1, hl2⟩
          · subst hl0
            simp only [Nat.zero_mul, Nat.add_zero] at c1' c2'
            have hr2' : (ru == (y : Int) + 1) = true := by simpa using hr2
            have HR2 := Lib.hid hr2
            clear hr2
            go_wp2_with fail
            have kF := (kR.put 1 (.int .i64 rv))
            have hBF := (hB.setCell (p := ⟨bR, 1, none⟩) hwl (.int .i64 rv))
            have hrF := hr.below hBF (Nat.le_refl _)
            have Hres := Lib.hid HR.out
            rw [if_neg (by omega), if_neg (by omega), if_pos ⟨by omega, HR2.out⟩, if_pos ⟨by omega, HR2.out⟩] at Hres
            have hrl : (regs (addF rs x y)).length = 0 + 1 + (n - 1) := by rw [← Hres.out]; simp; omega
            have Hrl2 := Lib.hid (show (rs.take 0 ++ [((x : Int), rv)] ++ rs.drop 1).length = 0 + 1 + (n - 1) by rw [Hres.out]; exact hrl)
            clear cR fR lR hrl HR
            try clear c1' c2'
            try clear d1' d2'
            generalize (wr.setCell ⟨bR, 1, none⟩ (.int .i64 rv)) = wF at *
            have cF0 : wF.cell? ⟨bR, 0, none⟩ = some (.int .i64 (x : Int)) := kF.cell 0
            have cF1 : wF.cell? ⟨bR, 1, none⟩ = some (.int .i64 rv) := kF.cell 1
            have hBs : w.heap.size ≤ wF.heap.size := hBF.size
            have hn6 : n ≤ 1000000 := by omega
            go_region_held3 (fun w' => w'.cell? ⟨bR, 0, none⟩ = some (.int .i64 (x : Int)) ∧ w'.cell? ⟨bR, 1, none⟩ = some (.int .i64 rv))
              (refine ⟨?_, ?_⟩ <;> (repeat (with_reducible first | exact cF0 | exact cF1 | refine rcell_later hbD ?_ | refine rcell_alloc _ ?_ | refine rcell_drew ?_ | refine rcell_later hbC ?_)))
              (first
                | (go_at_call 51; refine (RepTail wF n rs 0 1 (x : Int) rv v' wC hoC hbC (by with_reducible first | exact .inl ⟨rfl, rfl, rfl⟩ | exact .inr ⟨rfl, rfl, rfl⟩) (by omega) (by omega) (by omega)).mono ?_; rintro e wD ⟨vD, rfl, hoD, hbD⟩)
                | (go_at_call 52; refine (CloneR_any (some ⟨gb, off, none⟩) n c rs _ (by with_reducible first | exact hrF.drw | exact (hrF.alloc _).drw) hn6).mono ?_; rintro e wC ⟨v', rfl, hoC, hbC⟩))
            all_goals
              go_wp2_with fail
              go_ret2
              exact ⟨_, rfl, by rw [← Hres.out, Hrl2.out]; exact own_less hoD hBs, hBF.trans (hbD.mono hBs)⟩
          · obtain ⟨q, rfl⟩ : ∃ q, k = q + 1 := ⟨k - 1, by omega⟩
            rw [Nat.add_sub_cancel] at hl2 HR
            obtain ⟨lu, lv, hlq⟩ : ∃ lu lv, rs.getD q (0, 0) = (lu, lv) := ⟨_, _, rfl⟩
            obtain ⟨d1, d2⟩ := hcs q (by omega)
            have hbd := Hv2.out q (by omega)
            rw [hlq] at d1 d2 hl2 hbd HR
            simp only at d1 d2 hl2 hbd HR
            have d1' := (hB.cell (p := ⟨gb, off + q * 2, none⟩) hgb).trans d1
            have d2' := (hB.cell (p := ⟨gb, off + q * 2 + 1, none⟩) hgb).trans d2
            have hb1 : 0 ≤ lv := by omega
            have hb2 : lv ≤ 63 := by omega
            have hl2' : (lv + 1 == (x : Int)) = true := by simpa using hl2
            have HL2 := Lib.hid hl2
            clear hbd d1 d2 hl2
            have hr2' : (ru == (y : Int) + 1) = true := by simpa using hr2
            have HR2 := Lib.hid hr2
            clear hr2
            go_wp2_with fail
            have kF := ((kR.put 0 (.int .i64 lu)).put 1 (.int .i64 rv))
            have hBF := ((hB.setCell (p := ⟨bR, 0, none⟩) hwl (.int .i64 lu)).setCell (p := ⟨bR, 1, none⟩) hwl (.int .i64 rv))
            have hrF := hr.below hBF (Nat.le_refl _)
            have Hres := Lib.hid HR.out
            rw [if_pos ⟨by omega, HL2.out⟩, if_pos ⟨by omega, HL2.out⟩, if_pos ⟨by omega, HR2.out⟩, if_pos ⟨by omega, HR2.out⟩] at Hres
            have hrl : (regs (addF rs x y)).length = q + 1 + (n - (q + 2)) := by rw [← Hres.out]; simp; omega
            have Hrl2 := Lib.hid (show (rs.take q ++ [(lu, rv)] ++ rs.drop (q + 2)).length = q + 1 + (n - (q + 2)) by rw [Hres.out]; exact hrl)
            clear cR fR lR hrl HR
            try clear c1' c2'
            try clear d1' d2'
            generalize ((wr.setCell ⟨bR, 0, none⟩ (.int .i64 lu)).setCell ⟨bR, 1, none⟩ (.int .i64 rv)) = wF at *
            have cF0 : wF.cell? ⟨bR, 0, none⟩ = some (.int .i64 lu) := kF.cell 0
            have cF1 : wF.cell? ⟨bR, 1, none⟩ = some (.int .i64 rv) := kF.cell 1
            have hBs : w.heap.size ≤ wF.heap.size := hBF.size
            have hn6 : n ≤ 1000000 := by omega
            go_region_held3 (fun w' => w'.cell? ⟨bR, 0, none⟩ = some (.int .i64 lu) ∧ w'.cell? ⟨bR, 1, none⟩ = some (.int .i64 rv))
              (refine ⟨?_, ?_⟩ <;> (repeat (with_reducible first | exact cF0 | exact cF1 | refine rcell_later hbD ?_ | refine rcell_alloc _ ?_ | refine rcell_drew ?_ | refine rcell_later hbC ?_)))
              (first
                | (go_at_call 51; refine (RepTail wF n rs q (q + 2) lu rv v' wC hoC hbC (by with_reducible first | exact .inl ⟨rfl, rfl, rfl⟩ | exact .inr ⟨rfl, rfl, rfl⟩) (by omega) (by omega) (by omega)).mono ?_; rintro e wD ⟨vD, rfl, hoD, hbD⟩)
                | (go_at_call 52; refine (CloneR_any (some ⟨gb, off, none⟩) n c rs _ (by with_reducible first | exact hrF.drw | exact (hrF.alloc _).drw) hn6).mono ?_; rintro e wC ⟨v', rfl, hoC, hbC⟩))
            all_goals
              go_wp2_with fail
              go_ret2
              exact ⟨_, rfl, by rw [← Hres.out, Hrl2.out]; exact own_less hoD hBs, hBF.trans (hbD.mono hBs)⟩
          · obtain ⟨q, rfl⟩ : ∃ q, k = q + 1 := ⟨k - 1, by omega⟩
            rw [Nat.add_sub_cancel] at hl2 HR
            obtain ⟨lu, lv, hlq⟩ : ∃ lu lv, rs.getD q (0, 0) = (lu, lv) := ⟨_, _, rfl⟩
            obtain ⟨d1, d2⟩ := hcs q (by omega)
            have hbd := Hv2.out q (by omega)
            rw [hlq] at d1 d2 hl2 hbd HR
            simp only at d1 d2 hl2 hbd HR
            have d1' := (hB.cell (p := ⟨gb, off + q * 2, none⟩) hgb).trans d1
            have d2' := (hB.cell (p := ⟨gb, off + q * 2 + 1, none⟩) hgb).trans d2
            have hb1 : 0 ≤ lv := by omega
            have hb2 : lv ≤ 63 := by omega
            have hl2' : (lv + 1 == (x : Int)) = false := by simpa using hl2
            have HL2 := Lib.hid hl2
            clear hbd d1 d2 hl2
            have hr2' : (ru == (y : Int) + 1) = true := by simpa using hr2
            have HR2 := Lib.hid hr2
            clear hr2
            go_wp2_with fail
            have kF := (kR.put 1 (.int .i64 rv))
            have hBF := (hB.setCell (p := ⟨bR, 1, none⟩) hwl (.int .i64 rv))
            have hrF := hr.below hBF (Nat.le_refl _)
            have Hres := Lib.hid HR.out
            rw [if_neg (fun h => HL2.out h.2), if_neg (fun h => HL2.out h.2), if_pos ⟨by omega, HR2.out⟩, if_pos ⟨by omega, HR2.out⟩] at Hres
            have hrl : (regs (addF rs x y)).length = (q + 1) + 1 + (n - (q + 2)) := by rw [← Hres.out]; simp; omega
            have Hrl2 := Lib.hid (show (rs.take (q + 1) ++ [((x : Int), rv)] ++ rs.drop (q + 2)).length = (q + 1) + 1 + (n - (q + 2)) by rw [Hres.out]; exact hrl)
            clear cR fR lR hrl HR
            try clear c1' c2'
            try clear d1' d2'
            generalize (wr.setCell ⟨bR, 1, none⟩ (.int .i64 rv)) = wF at *
            have cF0 : wF.cell? ⟨bR, 0, none⟩ = some (.int .i64 (x : Int)) := kF.cell 0
            have cF1 : wF.cell? ⟨bR, 1, none⟩ = some (.int .i64 rv) := kF.cell 1
            have hBs : w.heap.size ≤ wF.heap.size := hBF.size
            have hn6 : n ≤ 1000000 := by omega
            go_region_held3 (fun w' => w'.cell? ⟨bR, 0, none⟩ = some (.int .i64 (x : Int)) ∧ w'.cell? ⟨bR, 1, none⟩ = some (.int .i64 rv))
              (refine ⟨?_, ?_⟩ <;> (repeat (with_reducible first | exact cF0 | exact cF1 | refine rcell_later hbD ?_ | refine rcell_alloc _ ?_ | refine rcell_drew ?_ | refine rcell_later hbC ?_)))
              (first
                | (go_at_call 51; refine (RepTail wF n rs (q + 1) (q + 2) (x : Int) rv v' wC hoC hbC (by with_reducible first | exact .inl ⟨rfl, rfl, rfl⟩ | exact .inr ⟨rfl, rfl, rfl⟩) (by omega) (by omega) (by omega)).mono ?_; rintro e wD ⟨vD, rfl, hoD, hbD⟩)
                | (go_at_call 52; refine (CloneR_any (some ⟨gb, off, none⟩) n c rs _ (by with_reducible first | exact hrF.drw | exact (hrF.alloc _).drw) hn6).mono ?_; rintro e wC ⟨v', rfl, hoC, hbC⟩))
            all_goals
              go_wp2_with fail
              go_ret2
              exact ⟨_, rfl, by rw [← Hres.out, Hrl2.out]; exact own_less hoD hBs, hBF.trans (hbD.mono hBs)⟩
        · rcases hleft with hl0 | ⟨hl1, hl2⟩ | ⟨hl1, hl2⟩
          · subst hl0
            simp only [Nat.zero_mul, Nat.add_zero] at c1' c2'
            have hr2' : (ru == (y : Int) + 1) = false := by simpa using hr2
            have HR2 := Lib.hid hr2
            clear hr2
            go_wp2_with fail
            have kF := kR
            have hBF := hB
            have hrF := hr.below hBF (Nat.le_refl _)
            have Hres := Lib.hid HR.out
            rw [if_neg (by omega), if_neg (by omega), if_neg (fun h => HR2.out h.2), if_neg (fun h => HR2.out h.2)] at Hres
            have hrl : (regs (addF rs x y)).length = 0 + 1 + (n - 0) := by rw [← Hres.out]; simp; omega
            have Hrl2 := Lib.hid (show (rs.take 0 ++ [((x : Int), (y : Int))] ++ rs.drop 0).length = 0 + 1 + (n - 0) by rw [Hres.out]; exact hrl)
            clear cR fR lR hrl HR
            try clear c1' c2'
            try clear d1' d2'
            generalize wr = wF at *
            have cF0 : wF.cell? ⟨bR, 0, none⟩ = some (.int .i64 (x : Int)) := kF.cell 0
            have cF1 : wF.cell? ⟨bR, 1, none⟩ = some (.int .i64 (y : Int)) := kF.cell 1
            have hBs : w.heap.size ≤ wF.heap.size := hBF.size
            have hn6 : n ≤ 1000000 := by omega
            go_region_held3 (fun w' => w'.cell? ⟨bR, 0, none⟩ = some (.int .i64 (x : Int)) ∧ w'.cell? ⟨bR, 1, none⟩ = some (.int .i64 (y : Int)))
              (refine ⟨?_, ?_⟩ <;> (repeat (with_reducible first | exact cF0 | exact cF1 | refine rcell_later hbD ?_ | refine rcell_alloc _ ?_ | refine rcell_drew ?_ | refine rcell_later hbC ?_)))
              (first
                | (go_at_call 51; refine (RepTail wF n rs 0 0 (x : Int) (y : Int) v' wC hoC hbC (by with_reducible first | exact .inl ⟨rfl, rfl, rfl⟩ | exact .inr ⟨rfl, rfl, rfl⟩) (by omega) (by omega) (by omega)).mono ?_; rintro e wD ⟨vD, rfl, hoD, hbD⟩)
                | (go_at_call 52; refine (CloneR_any (some ⟨gb, off, none⟩) n c rs _ (by with_reducible first | exact hrF.drw | exact (hrF.alloc _).drw) hn6).mono ?_; rintro e wC ⟨v', rfl, hoC, hbC⟩))
            all_goals
              go_wp2_with fail
              go_ret2
              exact ⟨_, rfl, by rw [← Hres.out, Hrl2.out]; exact own_less hoD hBs, hBF.trans (hbD.mono hBs)⟩
          · obtain ⟨q, rfl⟩ : ∃ q, k = q + 1 := ⟨k - 1, by omega⟩
            rw [Nat.add_sub_cancel] at hl2 HR
            obtain ⟨lu, lv, hlq⟩ : ∃ lu lv, rs.getD q (0, 0) = (lu, lv) := ⟨_, _, rfl⟩
            obtain ⟨d1, d2⟩ := hcs q (by omega)
            have hbd := Hv2.out q (by omega)
            rw [hlq] at d1 d2 hl2 hbd HR
            simp only at d1 d2 hl2 hbd HR
            have d1' := (hB.cell (p := ⟨gb, off + q * 2, none⟩) hgb).trans d1
            have d2' := (hB.cell (p := ⟨gb, off + q * 2 + 1, none⟩) hgb).trans d2
            have hb1 : 0 ≤ lv := by omega
            have hb2 : lv ≤ 63 := by omega
            have hl2' : (lv + 1 == (x : Int)) = true := by simpa using hl2
            have HL2 := Lib.hid hl2
            clear hbd d1 d2 hl2
            have hr2' : (ru == (y : Int) + 1) = false := by simpa using hr2
            have HR2 := Lib.hid hr2
            clear hr2
            go_wp2_with fail
            have kF := (kR.put 0 (.int .i64 lu))
            have hBF := (hB.setCell (p := ⟨bR, 0, none⟩) hwl (.int .i64 lu))
            have hrF := hr.below hBF (Nat.le_refl _)
            have Hres := Lib.hid HR.out
            rw [if_pos ⟨by omega, HL2.out⟩, if_pos ⟨by omega, HL2.out⟩, if_neg (fun h => HR2.out h.2), if_neg (fun h => HR2.out h.2)] at Hres
            have hrl : (regs (addF rs x y)).length = q + 1 + (n - (q + 1)) := by rw [← Hres.out]; simp; omega
            have Hrl2 := Lib.hid (show (rs.take q ++ [(lu, (y : Int))] ++ rs.drop (q + 1)).length = q + 1 + (n - (q + 1)) by rw [Hres.out]; exact hrl)
            clear cR fR lR hrl HR
            try clear c1' c2'
            try clear d1' d2'
            generalize (wr.setCell ⟨bR, 0, none⟩ (.int .i64 lu)) = wF at *
            have cF0 : wF.cell? ⟨bR, 0, none⟩ = some (.int .i64 lu) := kF.cell 0
            have cF1 : wF.cell? ⟨bR, 1, none⟩ = some (.int .i64 (y : Int)) := kF.cell 1
            have hBs : w.heap.size ≤ wF.heap.size := hBF.size
            have hn6 : n ≤ 1000000 := by omega
            go_region_held3 (fun w' => w'.cell? ⟨bR, 0, none⟩ = some (.int .i64 lu) ∧ w'.cell? ⟨bR, 1, none⟩ = some (.int .i64 (y : Int)))
              (refine ⟨?_, ?_⟩ <;> (repeat (with_reducible first | exact cF0 | exact cF1 | refine rcell_later hbD ?_ | refine rcell_alloc _ ?_ | refine rcell_drew ?_ | refine rcell_later hbC ?_)))
              (first
                | (go_at_call 51; refine (RepTail wF n rs q (q + 1) lu (y : Int) v' wC hoC hbC (by with_reducible first | exact .inl ⟨rfl, rfl, rfl⟩ | exact .inr ⟨rfl, rfl, rfl⟩) (by omega) (by omega) (by omega)).mono ?_; rintro e wD ⟨vD, rfl, hoD, hbD⟩)
                | (go_at_call 52; refine (CloneR_any (some ⟨gb, off, none⟩) n c rs _ (by with_reducible first | exact hrF.drw | exact (hrF.alloc _).drw) hn6).mono ?_; rintro e wC ⟨v', rfl, hoC, hbC⟩))
            all_goals
              go_wp2_with fail
              go_ret2
              exact ⟨_, rfl, by rw [← Hres.out, Hrl2.out]; exact own_less hoD hBs, hBF.trans (hbD.mono hBs)⟩
          · obtain ⟨q, rfl⟩ : ∃ q, k = q + 1 := ⟨k - 1, by omega⟩
            rw [Nat.add_sub_cancel] at hl2 HR
            obtain ⟨lu, lv, hlq⟩ : ∃ lu lv, rs.getD q (0, 0) = (lu, lv) := ⟨_, _, rfl⟩
            obtain ⟨d1, d2⟩ := hcs q (by omega)
            have hbd := Hv2.out q (by omega)
            rw [hlq] at d1 d2 hl2 hbd HR
            simp only at d1 d2 hl2 hbd HR
            have d1' := (hB.cell (p := ⟨gb, off + q * 2, none⟩) hgb).trans d1
            have d2' := (hB.cell (p := ⟨gb, off + q * 2 + 1, none⟩) hgb).trans d2
            have hb1 : 0 ≤ lv := by omega
            have hb2 : lv ≤ 63 := by omega
            have hl2' : (lv + 1 == (x : Int)) = false := by simpa using hl2
            have HL2 := Lib.hid hl2
            clear hbd d1 d2 hl2
            have hr2' : (ru == (y : Int) + 1) = false := by simpa using hr2
            have HR2 := Lib.hid hr2
            clear hr2
            go_wp2_with fail
            have kF := kR
            have hBF := hB
            have hrF := hr.below hBF (Nat.le_refl _)
            have Hres := Lib.hid HR.out
            rw [if_neg (fun h => HL2.out h.2), if_neg (fun h => HL2.out h.2), if_neg (fun h => HR2.out h.2), if_neg (fun h => HR2.out h.2)] at Hres
            have hrl : (regs (addF rs x y)).length = (q + 1) + 1 + (n - (q + 1)) := by rw [← Hres.out]; simp; omega
            have Hrl2 := Lib.hid (show (rs.take (q + 1) ++ [((x : Int), (y : Int))] ++ rs.drop (q + 1)).length = (q + 1) + 1 + (n - (q + 1)) by rw [Hres.out]; exact hrl)
            clear cR fR lR hrl HR
            try clear c1' c2'
            try clear d1' d2'
            generalize wr = wF at *
            have cF0 : wF.cell? ⟨bR, 0, none⟩ = some (.int .i64 (x : Int)) := kF.cell 0
            have cF1 : wF.cell? ⟨bR, 1, none⟩ = some (.int .i64 (y : Int)) := kF.cell 1
            have hBs : w.heap.size ≤ wF.heap.size := hBF.size
            have hn6 : n ≤ 1000000 := by omega
            go_region_held3 (fun w' => w'.cell? ⟨bR, 0, none⟩ = some (.int .i64 (x : Int)) ∧ w'.cell? ⟨bR, 1, none⟩ = some (.int .i64 (y : Int)))
              (refine ⟨?_, ?_⟩ <;> (repeat (with_reducible first | exact cF0 | exact cF1 | refine rcell_later hbD ?_ | refine rcell_alloc _ ?_ | refine rcell_drew ?_ | refine rcell_later hbC ?_)))
              (first
                | (go_at_call 51; refine (RepTail wF n rs (q + 1) (q + 1) (x : Int) (y : Int) v' wC hoC hbC (by with_reducible first | exact .inl ⟨rfl, rfl, rfl⟩ | exact .inr ⟨rfl, rfl, rfl⟩) (by omega) (by omega) (by omega)).mono ?_; rintro e wD ⟨vD, rfl, hoD, hbD⟩)
                | (go_at_call 52; refine (CloneR_any (some ⟨gb, off, none⟩) n c rs _ (by with_reducible first | exact hrF.drw | exact (hrF.alloc _).drw) hn6).mono ?_; rintro e wC ⟨v', rfl, hoC, hbC⟩))
            all_goals
              go_wp2_with fail
              go_ret2
              exact ⟨_, rfl, by rw [← Hres.out, Hrl2.out]; exact own_less hoD hBs, hBF.trans (hbD.mono hBs)⟩
      · clear hright
        rcases hleft with hl0 | ⟨hl1, hl2⟩ | ⟨hl1, hl2⟩
        · subst hl0
          go_wp2_with fail
          have kF := kR
          have hBF := hB
          have hrF := hr.below hBF (Nat.le_refl _)
          have Hres := Lib.hid HR.out
          rw [if_neg (by omega), if_neg (by omega), if_neg (by omega), if_neg (by omega)] at Hres
          have hrl : (regs (addF rs x y)).length = 0 + 1 + (n - 0) := by rw [← Hres.out]; simp; omega
          have Hrl2 := Lib.hid (show (rs.take 0 ++ [((x : Int), (y : Int))] ++ rs.drop 0).length = 0 + 1 + (n - 0) by rw [Hres.out]; exact hrl)
          clear cR fR lR hrl HR
          try clear c1' c2'
          try clear d1' d2'
          generalize wr = wF at *
          have cF0 : wF.cell? ⟨bR, 0, none⟩ = some (.int .i64 (x : Int)) := kF.cell 0
          have cF1 : wF.cell? ⟨bR, 1, none⟩ = some (.int .i64 (y : Int)) := kF.cell 1
          have hBs : w.heap.size ≤ wF.heap.size := hBF.size
          have hn6 : n ≤ 1000000 := by omega
          go_region_held3 (fun w' => w'.cell? ⟨bR, 0, none⟩ = some (.int .i64 (x : Int)) ∧ w'.cell? ⟨bR, 1, none⟩ = some (.int .i64 (y : Int)))
            (refine ⟨?_, ?_⟩ <;> (repeat (with_reducible first | exact cF0 | exact cF1 | refine rcell_later hbD ?_ | refine rcell_alloc _ ?_ | refine rcell_drew ?_ | refine rcell_later hbC ?_)))
            (first
              | (go_at_call 51; refine (RepTail wF n rs 0 0 (x : Int) (y : Int) v' wC hoC hbC (by with_reducible first | exact .inl ⟨rfl, rfl, rfl⟩ | exact .inr ⟨rfl, rfl, rfl⟩) (by omega) (by omega) (by omega)).mono ?_; rintro e wD ⟨vD, rfl, hoD, hbD⟩)
              | (go_at_call 52; refine (CloneR_any A n c rs _ (by with_reducible first | exact hrF.drw | exact (hrF.alloc _).drw) hn6).mono ?_; rintro e wC ⟨v', rfl, hoC, hbC⟩))
          all_goals
            go_wp2_with fail
            go_ret2
            exact ⟨_, rfl, by rw [← Hres.out, Hrl2.out]; exact own_less hoD hBs, hBF.trans (hbD.mono hBs)⟩
        · obtain ⟨gb, off, rfl, hgb, hcs⟩ := hr.prs (by omega)
          have hne1 : ¬ gb = bR := hgbR gb hgb
          obtain ⟨q, rfl⟩ : ∃ q, k = q + 1 := ⟨k - 1, by omega⟩
          rw [Nat.add_sub_cancel] at hl2 HR
          obtain ⟨lu, lv, hlq⟩ : ∃ lu lv, rs.getD q (0, 0) = (lu, lv) := ⟨_, _, rfl⟩
          obtain ⟨d1, d2⟩ := hcs q (by omega)
          have hbd := Hv2.out q (by omega)
          rw [hlq] at d1 d2 hl2 hbd HR
          simp only at d1 d2 hl2 hbd HR
          have d1' := (hB.cell (p := ⟨gb, off + q * 2, none⟩) hgb).trans d1
          have d2' := (hB.cell (p := ⟨gb, off + q * 2 + 1, none⟩) hgb).trans d2
          have hb1 : 0 ≤ lv := by omega
          have hb2 : lv ≤ 63 := by omega
          have hl2' : (lv + 1 == (x : Int)) = true := by simpa using hl2
          have HL2 := Lib.hid hl2
          clear hbd d1 d2 hl2
          go_wp2_with fail
          have kF := (kR.put 0 (.int .i64 lu))
          have hBF := (hB.setCell (p := ⟨bR, 0, none⟩) hwl (.int .i64 lu))
          have hrF := hr.below hBF (Nat.le_refl _)
          have Hres := Lib.hid HR.out
          rw [if_pos ⟨by omega, HL2.out⟩, if_pos ⟨by omega, HL2.out⟩, if_neg (by omega), if_neg (by omega)] at Hres
          have hrl : (regs (addF rs x y)).length = q + 1 + (n - (q + 1)) := by rw [← Hres.out]; simp; omega
          have Hrl2 := Lib.hid (show (rs.take q ++ [(lu, (y : Int))] ++ rs.drop (q + 1)).length = q + 1 + (n - (q + 1)) by rw [Hres.out]; exact hrl)
          clear cR fR lR hrl HR
          try clear c1' c2'
          try clear d1' d2'
          generalize (wr.setCell ⟨bR, 0, none⟩ (.int .i64 lu)) = wF at *
          have cF0 : wF.cell? ⟨bR, 0, none⟩ = some (.int .i64 lu) := kF.cell 0
          have cF1 : wF.cell? ⟨bR, 1, none⟩ = some (.int .i64 (y : Int)) := kF.cell 1
          have hBs : w.heap.size ≤ wF.heap.size := hBF.size
          have hn6 : n ≤ 1000000 := by omega
          go_region_held3 (fun w' => w'.cell? ⟨bR, 0, none⟩ = some (.int .i64 lu) ∧ w'.cell? ⟨bR, 1, none⟩ = some (.int .i64 (y : Int)))
            (refine ⟨?_, ?_⟩ <;> (repeat (with_reducible first | exact cF0 | exact cF1 | refine rcell_later hbD ?_ | refine rcell_alloc _ ?_ | refine rcell_drew ?_ | refine rcell_later hbC ?_)))
            (first
              | (go_at_call 51; refine (RepTail wF n rs q (q + 1) lu (y : Int) v' wC hoC hbC (by with_reducible first | exact .inl ⟨rfl, rfl, rfl⟩ | exact .inr ⟨rfl, rfl, rfl⟩) (by omega) (by omega) (by omega)).mono ?_; rintro e wD ⟨vD, rfl, hoD, hbD⟩)
              | (go_at_call 52; refine (CloneR_any (some ⟨gb, off, none⟩) n c rs _ (by with_reducible first | exact hrF.drw | exact (hrF.alloc _).drw) hn6).mono ?_; rintro e wC ⟨v', rfl, hoC, hbC⟩))
          all_goals
            go_wp2_with fail
            go_ret2
            exact ⟨_, rfl, by rw [← Hres.out, Hrl2.out]; exact own_less hoD hBs, hBF.trans (hbD.mono hBs)⟩
        · obtain ⟨gb, off, rfl, hgb, hcs⟩ := hr.prs (by omega)
          have hne1 : ¬ gb = bR := hgbR gb hgb
          obtain ⟨q, rfl⟩ : ∃ q, k = q + 1 := ⟨k - 1, by omega⟩
          rw [Nat.add_sub_cancel] at hl2 HR
          obtain ⟨lu, lv, hlq⟩ : ∃ lu lv, rs.getD q (0, 0) = (lu, lv) := ⟨_, _, rfl⟩
          obtain ⟨d1, d2⟩ := hcs q (by omega)
          have hbd := Hv2.out q (by omega)
          rw [hlq] at d1 d2 hl2 hbd HR
          simp only at d1 d2 hl2 hbd HR
          have d1' := (hB.cell (p := ⟨gb, off + q * 2, none⟩) hgb).trans d1
          have d2' := (hB.cell (p := ⟨gb, off + q * 2 + 1, none⟩) hgb).trans d2
          have hb1 : 0 ≤ lv := by omega
          have hb2 : lv ≤ 63 := by omega
          have hl2' : (lv + 1 == (x : Int)) = false := by simpa using hl2
          have HL2 := Lib.hid hl2
          clear hbd d1 d2 hl2
          go_wp2_with fail
          have kF := kR
          have hBF := hB
          have hrF := hr.below hBF (Nat.le_refl _)
          have Hres := Lib.hid HR.out
          rw [if_neg (fun h => HL2.out h.2), if_neg (fun h => HL2.out h.2), if_neg (by omega), if_neg (by omega)] at Hres
          have hrl : (regs (addF rs x y)).length = (q + 1) + 1 + (n - (q + 1)) := by rw [← Hres.out]; simp; omega
          have Hrl2 := Lib.hid (show (rs.take (q + 1) ++ [((x : Int), (y : Int))] ++ rs.drop (q + 1)).length = (q + 1) + 1 + (n - (q + 1)) by rw [Hres.out]; exact hrl)
          clear cR fR lR hrl HR
          try clear c1' c2'
          try clear d1' d2'
          generalize wr = wF at *
          have cF0 : wF.cell? ⟨bR, 0, none⟩ = some (.int .i64 (x : Int)) := kF.cell 0
          have cF1 : wF.cell? ⟨bR, 1, none⟩ = some (.int .i64 (y : Int)) := kF.cell 1
          have hBs : w.heap.size ≤ wF.heap.size := hBF.size
          have hn6 : n ≤ 1000000 := by omega
          go_region_held3 (fun w' => w'.cell? ⟨bR, 0, none⟩ = some (.int .i64 (x : Int)) ∧ w'.cell? ⟨bR, 1, none⟩ = some (.int .i64 (y : Int)))
            (refine ⟨?_, ?_⟩ <;> (repeat (with_reducible first | exact cF0 | exact cF1 | refine rcell_later hbD ?_ | refine rcell_alloc _ ?_ | refine rcell_drew ?_ | refine rcell_later hbC ?_)))
            (first
              | (go_at_call 51; refine (RepTail wF n rs (q + 1) (q + 1) (x : Int) (y : Int) v' wC hoC hbC (by with_reducible first | exact .inl ⟨rfl, rfl, rfl⟩ | exact .inr ⟨rfl, rfl, rfl⟩) (by omega) (by omega) (by omega)).mono ?_; rintro e wD ⟨vD, rfl, hoD, hbD⟩)
              | (go_at_call 52; refine (CloneR_any (some ⟨gb, off, none⟩) n c rs _ (by with_reducible first | exact hrF.drw | exact (hrF.alloc _).drw) hn6).mono ?_; rintro e wC ⟨v', rfl, hoC, hbC⟩))
          all_goals
            go_wp2_with fail
            go_ret2
            exact ⟨_, rfl, by rw [← Hres.out, Hrl2.out]; exact own_less hoD hBs, hBF.trans (hbD.mono hBs)⟩
end Go.Proofs.YtpkgfkhaiifooaaGreatDoor
/- Pages that are mapped and unmapped, by the program. -/
namespace Go.Proofs.YtpkgfkhaiifooaaGreatDoor
open Go Go.Proofs Go.RowKit
set_option linter.unusedSimpArgs false
set_option linter.unusedVariables false
set_option maxRecDepth 100000

theorem Map_any (A : Option Addr) (n c : Nat) (rs : List (Int × Int)) (a b most : Int) (w : World) (hr : Rd w 2 A n (flat2 .i64 rs)) (hn : n ≤ 1000) :
    Calls Tryz.prog 21 #[.slice A n c, .int .i64 a, .int .i64 b, .int .i64 most] w fun e w' => RgRes w w' (mapR rs a b most).1 (mapR rs a b most).2 e := by
  unfold mapR
  by_cases hE : begE rs a b = 0
  · rw [if_neg (by simp [hE])]
    rcases hany : anyIn rs a b with _ | _
    · rw [if_neg (by simp)]
      by_cases hfull : most < (cntP (addF rs a b) : Int)
      · rw [if_pos hfull]; exact Map_full A n c rs a b most w hr (by omega) hE hany hfull
      · rw [if_neg hfull]; exact Map_ok A n c rs a b most w hr hn hE hany hfull
    · rw [if_pos rfl]; exact Map_exists A n c rs a b most w hr (by omega) hE hany
  · rw [if_pos hE]; exact Map_bad A n c rs a b most w hr (by omega) hE

theorem um1_any (x y a b : Int) (p1 p2 : Nat) (w : World) (h1 : w.cell? ⟨p1, 0, none⟩ = some (.int .i64 a)) (h2 : w.cell? ⟨p2, 0, none⟩ = some (.int .i64 b)) :
    Calls Tryz.prog 64 #[.agg #[.int .i64 x, .int .i64 y], .pointer (some ⟨p1, 0, none⟩), .pointer (some ⟨p2, 0, none⟩)] w fun e w' => e = .returned (.bool (decide (x ≤ a) && decide (b ≤ y))) ∧ Below w.heap.size w w' := by
  have e1 := rcell_alloc (.cells #[.int .i64 x, .int .i64 y] 72) h1
  have e2 := rcell_alloc (.cells #[.int .i64 x, .int .i64 y] 72) h2
  by_cases h : x ≤ a
  · go_enter Tryz.func64, Tryz.ntmps64
    go_wp2
    go_ret
    exact ⟨by simp [h], by (repeat' (first | exact Below.refl _ _ | assumption | refine balloc ?_ _ | refine below_drawn ?_ _ | refine below_drew ?_ | refine bnext ?_ hb24 | refine bnext ?_ hb23 | refine bnext ?_ hb22 | refine bnext ?_ hb21 | refine bnext ?_ hb20 | refine bnext ?_ hb19 | refine bnext ?_ hb18 | refine bnext ?_ hb17 | refine bnext ?_ hb16 | refine bnext ?_ hb15 | refine bnext ?_ hb14 | refine bnext ?_ hb13 | refine bnext ?_ hb12 | refine bnext ?_ hb11 | refine bnext ?_ hb10 | refine bnext ?_ hb9 | refine bnext ?_ hb8 | refine bnext ?_ hb7 | refine bnext ?_ hb6 | refine bnext ?_ hb5 | refine bnext ?_ hb4 | refine bnext ?_ hb3 | refine bnext ?_ hb2 | refine bnext ?_ hb1))⟩
  · go_enter Tryz.func64, Tryz.ntmps64
    go_wp2
    go_ret
    exact ⟨by simp; omega, by (repeat' (first | exact Below.refl _ _ | assumption | refine balloc ?_ _ | refine below_drawn ?_ _ | refine below_drew ?_ | refine bnext ?_ hb24 | refine bnext ?_ hb23 | refine bnext ?_ hb22 | refine bnext ?_ hb21 | refine bnext ?_ hb20 | refine bnext ?_ hb19 | refine bnext ?_ hb18 | refine bnext ?_ hb17 | refine bnext ?_ hb16 | refine bnext ?_ hb15 | refine bnext ?_ hb14 | refine bnext ?_ hb13 | refine bnext ?_ hb12 | refine bnext ?_ hb11 | refine bnext ?_ hb10 | refine bnext ?_ hb9 | refine bnext ?_ hb8 | refine bnext ?_ hb7 | refine bnext ?_ hb6 | refine bnext ?_ hb5 | refine bnext ?_ hb4 | refine bnext ?_ hb3 | refine bnext ?_ hb2 | refine bnext ?_ hb1))⟩
def IxR (rs : List (Int × Int)) (a b r : Int) : Prop := (∃ j : Nat, j < rs.length ∧ r = (j : Int) ∧ (rs.getD j (0, 0)).1 ≤ a ∧ b ≤ (rs.getD j (0, 0)).2) ∨ (r = -1 ∧ ∀ j, j < rs.length → ¬ ((rs.getD j (0, 0)).1 ≤ a ∧ b ≤ (rs.getD j (0, 0)).2))
set_option maxHeartbeats 1000000 in
theorem IndexFunc_any (A : Option Addr) (n c : Nat) (rs : List (Int × Int)) (a b : Int) (p1 p2 : Nat) (w : World) (hr : Rd w 2 A n (flat2 .i64 rs)) (hn : n ≤ 1000000) (h1 : w.cell? ⟨p1, 0, none⟩ = some (.int .i64 a)) (h2 : w.cell? ⟨p2, 0, none⟩ = some (.int .i64 b)) :
    Calls Tryz.prog 63 #[.slice A n c, .func (.func 64) #[] #[.pointer (some ⟨p1, 0, none⟩), .pointer (some ⟨p2, 0, none⟩)]] w fun e w' => ∃ r, e = .returned (.int .i64 r) ∧ IxR rs a b r ∧ Below w.heap.size w w' := by
  have hlen : rs.length = n := by have := hr.1; rw [flat2_len] at this; omega
  go_enter Tryz.func63, Tryz.ntmps63
  go_wp2_with fail
  go_loopw [8] (fun i wr => ∃ k : Nat, k ≤ n ∧ i = .int .i64 k ∧ Hid (∀ j, j < k → ¬ ((rs.getD j (0, 0)).1 ≤ a ∧ b ≤ (rs.getD j (0, 0)).2)) ∧ Below w.heap.size w wr) (fun i _ => n - (intOf i).toNat)
  case atStart => exact ⟨0, by omega, rfl, Lib.hid (fun j h => absurd h (Nat.not_lt_zero _)), Below.refl _ _⟩
  case round =>
    obtain ⟨k, hk, rfl, Hz, hB⟩ := hrel
    by_cases hlt : k < n
    · obtain ⟨gb, off, x, y, rfl, hgb, hg, c1, c2⟩ := (hr.below hB (Nat.le_refl _)).pr hlt
      have HC := Lib.hid (um1_any x y a b p1 p2 wr (rcell_later hB h1) (rcell_later hB h2))
      by_cases hin : x ≤ a ∧ b ≤ y
      · rw [decide_eq_true hin.1, decide_eq_true hin.2] at HC
        simp only [Bool.and_self] at HC
        have Hin := Lib.hid hin
        clear hin
        go_wp2_with (go_at_call 64; refine HC.out.mono ?_; rintro e w1 ⟨rfl, hb1⟩)
        go_ret
        exact ⟨_, rfl, .inl ⟨k, by omega, rfl, by rw [hg]; exact Hin.out⟩, bnext hB hb1⟩
      · have hf : (decide (x ≤ a) && decide (b ≤ y)) = false := by rw [Bool.and_eq_false_iff]; simp only [decide_eq_false_iff_not]; omega
        rw [hf] at HC
        have Hin := Lib.hid hin
        clear hin hf
        go_wp2_with (go_at_call 64; refine HC.out.mono ?_; rintro e w1 ⟨rfl, hb1⟩)
        go_roundw
        case rel => exact ⟨k + 1, by omega, by go_num, Lib.hid (fun j hj => by rcases Nat.lt_or_ge j k with h | h; exact Hz.out j h; rw [show j = k by omega, hg]; exact Hin.out), bnext hB hb1⟩
        case measure => simp [intOf]; omega
    · obtain rfl : k = n := by omega
      go_wp2_with fail
      go_ret
      exact ⟨_, rfl, .inr ⟨rfl, fun j hj => Hz.out j (by omega)⟩, hB⟩
theorem Unmap_bad (A : Option Addr) (n c : Nat) (rs : List (Int × Int)) (a b : Int) (w : World) (hr : Rd w 2 A n (flat2 .i64 rs)) (hn : n ≤ 1000000) (hE : begE rs a b ≠ 0) :
    Calls Tryz.prog 28 #[.slice A n c, .int .i64 a, .int .i64 b] w fun e w' => RgRes w w' [] (begE rs a b) e := by
  have HC := Lib.hid (begin_any A n c rs a b _ ((hr.alloc (.cells #[.int .i64 a] 3)).alloc (.cells #[.int .i64 b] 3)) hn)
  have hE' : (begE rs a b == 0) = false := by simpa using hE
  clear hE
  generalize begE rs a b = z at *
  go_enter Tryz.func28, Tryz.ntmps28
  go_wp2_with (go_at_call 47; refine HC.out.mono ?_; rintro e w1 ⟨rfl, hb1⟩)
  go_ret2
  exact RgRes.nil rfl (by (repeat' (first | exact Below.refl _ _ | assumption | refine balloc ?_ _ | refine below_drawn ?_ _ | refine below_drew ?_ | refine bnext ?_ hb24 | refine bnext ?_ hb23 | refine bnext ?_ hb22 | refine bnext ?_ hb21 | refine bnext ?_ hb20 | refine bnext ?_ hb19 | refine bnext ?_ hb18 | refine bnext ?_ hb17 | refine bnext ?_ hb16 | refine bnext ?_ hb15 | refine bnext ?_ hb14 | refine bnext ?_ hb13 | refine bnext ?_ hb12 | refine bnext ?_ hb11 | refine bnext ?_ hb10 | refine bnext ?_ hb9 | refine bnext ?_ hb8 | refine bnext ?_ hb7 | refine bnext ?_ hb6 | refine bnext ?_ hb5 | refine bnext ?_ hb4 | refine bnext ?_ hb3 | refine bnext ?_ hb2 | refine bnext ?_ hb1)))
set_option maxHeartbeats 4000000 in
theorem Unmap_go (A : Option Addr) (n c : Nat) (rs : List (Int × Int)) (a b : Int) (w : World) (hr : Rd w 2 A n (flat2 .i64 rs)) (hn : n ≤ 1000) (hE : begE rs a b = 0) :
    Calls Tryz.prog 28 #[.slice A n c, .int .i64 a, .int .i64 b] w fun e w' => RgRes w w' (unmR rs a b).1 (unmR rs a b).2 e := by
  obtain ⟨hv, h0, h1, h2⟩ := begE_zero hE
  have hlen : rs.length = n := by have := hr.1; rw [flat2_len] at this; omega
  have HE := Lib.hid hE
  have HU1 := Lib.hid (fun i => unmL_ok rs i a b hv h0 h1 h2)
  have HU2 := Lib.hid (unm_no rs a b hv h0 h1 h2)
  have HUR : Hid (∀ t, allIn rs a b = t → unmR rs a b = if t = false then ([], 6) else (regs (subF rs a b), 0)) := Lib.hid (fun t ht => by unfold unmR; rw [if_neg (by simp [hE]), ht])
  have k4 := (Bk.new w #[.int .i64 a] 3).alloc (.cells #[.int .i64 b] 3)
  have k5 := Bk.new (w.alloc (.cells #[.int .i64 a] 3)) #[.int .i64 b] 3
  simp only [World.size_alloc] at k5
  have hB := balloc (balloc (Below.refl _ w) (.cells #[.int .i64 a] 3)) (.cells #[.int .i64 b] 3)
  have hv8 : Hid (∀ j, j < n → 0 ≤ (rs.getD j (0, 0)).1 ∧ (rs.getD j (0, 0)).1 ≤ 63 ∧ (rs.getD j (0, 0)).2 ≤ 63) := Lib.hid (fun j hj => by have := rgE_one (hv j (by omega)); omega)
  clear hE hv
  go_enter Tryz.func28, Tryz.ntmps28
  go_wp2_with fail
  generalize (w.alloc (.cells #[.int .i64 a] 3)).alloc (.cells #[.int .i64 b] 3) = w0 at *
  refine (begin_any A n c rs a b _ (hr.below hB (Nat.le_refl _)) (by omega)).mono ?_
  rw [HE.out]
  rintro e w1 ⟨rfl, hb1⟩
  replace k4 := k4.to hb1
  replace k5 := k5.to hb1
  replace hB := bnext hB hb1
  go_wp2_with fail
  refine (IndexFunc_any A n c rs a b w.heap.size (w.heap.size + 1) _ (hr.below hB (Nat.le_refl _)) (by omega) (k4.cell 0) (k5.cell 0)).mono ?_
  rintro e w2 ⟨r, rfl, hix, hb2⟩
  replace k4 := k4.to hb2
  replace k5 := k5.to hb2
  replace hB := bnext hB hb2
  clear hb1 hb2
  rcases hix with ⟨i, hi, rfl, h3, h4⟩ | ⟨rfl, hno⟩
  · obtain ⟨gb, off, x, y, rfl, hgb, hg, c1, c2⟩ := (hr.below hB (Nat.le_refl _)).pr (i := i) (by omega)
    have HR := HUR.out true (HU1.out i hi h3 h4).1
    rw [if_neg (by simp)] at HR
    have HL := (HU1.out i hi h3 h4).2
    unfold unmL at HL
    rw [hg] at h3 h4 HL
    simp only at h3 h4 HL
    have HR' := Lib.hid HR
    have HL' := Lib.hid HL
    have hb8 := hv8.out i (by omega)
    rw [hg] at hb8
    simp only at hb8
    obtain ⟨z1, z2, z3⟩ := hb8
    obtain ⟨c4, f4, l4⟩ := k4.facts
    obtain ⟨c5, f5, l5⟩ := k5.facts
    have hiI : (i : Int) < (n : Int) := by omega
    have hin : i < n := by omega
    have hi0 : ¬ (i : Int) < 0 := by omega
    clear HR HL HU1 HU2 HUR hi HE hg
    -- UNMAP WAYS
    obtain ⟨i0, hi0', hz0, hz1, hz2⟩ := info_parts infoRg
    have hwa : IntKind.i64.wrap (a - 1) = a - 1 := by rw [IntKind.wrap_i64]; omega
    have hwb : IntKind.i64.wrap (b + 1) = b + 1 := by rw [IntKind.wrap_i64]; omega
    have hsw : w.heap.size ≤ w2.heap.size := hB.size
    by_cases hxa : x < a <;> by_cases hby : b < y
    · go_wp2_with fail
      go_quiet (fail)
      go_wp2_with fail
      clear c4 f4 l4 c5 f5 l5
      replace k4 := k4.drewN nq
      replace k5 := k5.drewN nq
      replace hB := below_drawn hB nq
      replace c1 : (w2.drewN nq).cell? ⟨gb, off + i * 2, none⟩ = some (.int .i64 x) := c1
      replace c2 : (w2.drewN nq).cell? ⟨gb, off + i * 2 + 1, none⟩ = some (.int .i64 y) := c2
      replace hgb : gb < (w2.drewN nq).heap.size := hgb
      have hs3 : w2.heap.size ≤ (w2.drewN nq).heap.size := Nat.le_refl _
      generalize w2.drewN nq = w3 at *
      obtain ⟨c4, f4, l4⟩ := k4.facts
      obtain ⟨c5, f5, l5⟩ := k5.facts
      go_region_law (first | (refine step_append_lies _ rfl _ _ 22 rfl w2.heap.size 72 i0 (.agg #[.int .i64 0, .int .i64 0]) 2 16 Tryz.underlying22 hi0' hz0 hz1 hz2 rfl (by decide) (.slice none 0 0) 0 [] rfl (World.ownsRow_nil _ _ _ _) ⟨w3.heap.size, 0, none⟩ 1 1 [.int .i64 x, .int .i64 (a - 1)] rfl rfl (cell_two_new _ _ _ _) (by simp [Value.oneCell']) (by decide) (by simp only [maxLen]; omega) (by omega) (by show w2.heap.size ≤ _; simp; omega) _ rfl ?_; intro g1 capg1 w4 howng1 hgr_w4 hatg1 hglg1))
      all_goals
        have hb_w4 : Below w3.heap.size w3 w4 := (below_drew (balloc (Below.refl _ w3) (.cells #[.int .i64 x, .int .i64 (a - 1)] 72))).grown hgr_w4 (by show w3.heap.size ≤ (w3.alloc _).heap.size; simp) (fun q e => by cases e)
        replace k4 := k4.to hb_w4
        replace k5 := k5.to hb_w4
        replace hB := bnext hB hb_w4
        replace c1 := rcell_later hb_w4 c1
        replace c2 := rcell_later hb_w4 c2
        replace hgb : gb < w4.heap.size := Nat.lt_of_lt_of_le hgb hb_w4.size
        have hs4 : w2.heap.size ≤ w4.heap.size := Nat.le_trans hs3 hb_w4.size
        clear hgr_w4 hatg1
        clear c4 f4 l4 c5 f5 l5
        obtain ⟨c4, f4, l4⟩ := k4.facts
        obtain ⟨c5, f5, l5⟩ := k5.facts
        go_wp2_with fail
        go_quiet (fail)
        go_wp2_with fail
        clear c4 f4 l4 c5 f5 l5
        replace k4 := k4.drewN nq
        replace k5 := k5.drewN nq
        replace hB := below_drawn hB nq
        replace c1 : (w4.drewN nq).cell? ⟨gb, off + i * 2, none⟩ = some (.int .i64 x) := c1
        replace c2 : (w4.drewN nq).cell? ⟨gb, off + i * 2 + 1, none⟩ = some (.int .i64 y) := c2
        replace hgb : gb < (w4.drewN nq).heap.size := hgb
        have hs5 : w2.heap.size ≤ (w4.drewN nq).heap.size := hs4
        replace howng1 : (w4.drewN nq).ownsRow w2.heap.size 72 2 (.slice (some ⟨g1, 0, none⟩) 1 capg1) 1 [.int .i64 x, .int .i64 (a - 1)] := howng1
        generalize w4.drewN nq = w5 at *
        obtain ⟨c4, f4, l4⟩ := k4.facts
        obtain ⟨c5, f5, l5⟩ := k5.facts
        go_region_law (first | (refine step_append_lies _ rfl _ _ 22 rfl w2.heap.size 72 i0 (.agg #[.int .i64 0, .int .i64 0]) 2 16 Tryz.underlying22 hi0' hz0 hz1 hz2 rfl (by decide) (.slice (some ⟨g1, 0, none⟩) 1 capg1) 1 [.int .i64 x, .int .i64 (a - 1)] rfl (show World.ownsRow (World.drew _) _ _ _ _ _ _ from howng1.alloc _) ⟨w5.heap.size, 0, none⟩ 1 1 [.int .i64 (b + 1), .int .i64 y] rfl rfl (cell_two_new _ _ _ _) (by simp [Value.oneCell']) (by decide) (by simp only [maxLen]; omega) (by omega) (by show w2.heap.size ≤ _; simp; omega) _ rfl ?_; intro g2 capg2 w6 howng2 hgr_w6 hatg2 hglg2))
        all_goals
          have hB6 : Below w.heap.size w w6 := (below_drew (balloc hB (.cells #[.int .i64 (b + 1), .int .i64 y] 72))).grown hgr_w6 (by have h9 := hB.size; show w.heap.size ≤ (w5.alloc _).heap.size; simp; omega) (fun q e => by have h9 := (howng1.lt q e).1; have h8 := hsw; omega)
          clear hB
          have hB := hB6
          clear hB6 k4 k5 c4 f4 l4 c5 f5 l5 c1 c2
          have own1 := Lib.hid (show w6.ownsRow w2.heap.size 72 2 (.slice (some ⟨g2, 0, none⟩) 2 capg2) 2 (flat2 .i64 [(x, a - 1), (b + 1, y)]) from howng2)
          go_wp2_with fail
          refine (CloneR_any (some ⟨gb, off, none⟩) n c rs _ (hr.below hB (Nat.le_refl _)) (by omega)).mono ?_
          rintro e wC ⟨v', rfl, hoC, hbC⟩
          have hRp := Replace_any v' n i (i + 1) (some ⟨g2, 0, none⟩) 2 capg2 w6.heap.size w2.heap.size rs [(x, a - 1), (b + 1, y)] wC hoC (own_below own1.out hbC) (fun b hb e => by injection hb with hb; injection hb with hb; have h9 := (hoC.lt b e).1; have h8 := own1.out.lt b (by rw [hb]; rfl); omega) (by omega) (by omega) (fun h => by omega) (by omega) hn hbC.size
          rw [show ((i + 1 : Nat) : Int) = (i : Int) + 1 by omega] at hRp
          have HRp := Lib.hid hRp
          have Hvs : Hid (rs.take i ++ [(x, a - 1), (b + 1, y)] ++ rs.drop (i + 1) = regs (subF rs a b)) := Lib.hid (by have h9 := HL'.out; rw [if_pos hxa, if_pos hby] at h9; simpa using h9)
          have Hln : Hid ((regs (subF rs a b)).length = i + 2 + (n - (i + 1))) := Lib.hid (by rw [← Hvs.out]; simp; omega)
          clear hRp
          try clear c4 f4 l4 c5 f5 l5
          go_wp2_with fail
          refine HRp.out.mono ?_
          rintro e wD ⟨vD, rfl, hoD, hbD⟩
          go_wp2_with fail
          go_ret2
          exact ⟨_, by rw [HR'.out]; rfl, by rw [HR'.out]; show World.ownsRow _ _ _ _ _ (regs (subF rs a b)).length (flat2 .i64 (regs (subF rs a b))); rw [Hln.out, ← Hvs.out]; exact own_less hoD hB.size, bnext hB (hbC.trans hbD)⟩
    · go_wp2_with fail
      go_quiet (fail)
      go_wp2_with fail
      clear c4 f4 l4 c5 f5 l5
      replace k4 := k4.drewN nq
      replace k5 := k5.drewN nq
      replace hB := below_drawn hB nq
      replace c1 : (w2.drewN nq).cell? ⟨gb, off + i * 2, none⟩ = some (.int .i64 x) := c1
      replace c2 : (w2.drewN nq).cell? ⟨gb, off + i * 2 + 1, none⟩ = some (.int .i64 y) := c2
      replace hgb : gb < (w2.drewN nq).heap.size := hgb
      have hs3 : w2.heap.size ≤ (w2.drewN nq).heap.size := Nat.le_refl _
      generalize w2.drewN nq = w3 at *
      obtain ⟨c4, f4, l4⟩ := k4.facts
      obtain ⟨c5, f5, l5⟩ := k5.facts
      go_region_law (first | (refine step_append_lies _ rfl _ _ 22 rfl w2.heap.size 72 i0 (.agg #[.int .i64 0, .int .i64 0]) 2 16 Tryz.underlying22 hi0' hz0 hz1 hz2 rfl (by decide) (.slice none 0 0) 0 [] rfl (World.ownsRow_nil _ _ _ _) ⟨w3.heap.size, 0, none⟩ 1 1 [.int .i64 x, .int .i64 (a - 1)] rfl rfl (cell_two_new _ _ _ _) (by simp [Value.oneCell']) (by decide) (by simp only [maxLen]; omega) (by omega) (by show w2.heap.size ≤ _; simp; omega) _ rfl ?_; intro g1 capg1 w4 howng1 hgr_w4 hatg1 hglg1))
      all_goals
        have hb_w4 : Below w3.heap.size w3 w4 := (below_drew (balloc (Below.refl _ w3) (.cells #[.int .i64 x, .int .i64 (a - 1)] 72))).grown hgr_w4 (by show w3.heap.size ≤ (w3.alloc _).heap.size; simp) (fun q e => by cases e)
        replace k4 := k4.to hb_w4
        replace k5 := k5.to hb_w4
        replace hB := bnext hB hb_w4
        replace c1 := rcell_later hb_w4 c1
        replace c2 := rcell_later hb_w4 c2
        replace hgb : gb < w4.heap.size := Nat.lt_of_lt_of_le hgb hb_w4.size
        have hs4 : w2.heap.size ≤ w4.heap.size := Nat.le_trans hs3 hb_w4.size
        clear hgr_w4 hatg1
        clear c4 f4 l4 c5 f5 l5
        obtain ⟨c4, f4, l4⟩ := k4.facts
        obtain ⟨c5, f5, l5⟩ := k5.facts
        go_wp2_with fail
        go_quiet (fail)
        clear c4 f4 l4 c5 f5 l5
        replace k4 := k4.drewN nq
        replace k5 := k5.drewN nq
        replace hB := below_drawn hB nq
        replace c1 : (w4.drewN nq).cell? ⟨gb, off + i * 2, none⟩ = some (.int .i64 x) := c1
        replace c2 : (w4.drewN nq).cell? ⟨gb, off + i * 2 + 1, none⟩ = some (.int .i64 y) := c2
        replace hgb : gb < (w4.drewN nq).heap.size := hgb
        have hs5 : w2.heap.size ≤ (w4.drewN nq).heap.size := hs4
        replace howng1 : (w4.drewN nq).ownsRow w2.heap.size 72 2 (.slice (some ⟨g1, 0, none⟩) 1 capg1) 1 [.int .i64 x, .int .i64 (a - 1)] := howng1
        generalize w4.drewN nq = w5 at *
        obtain ⟨c4, f4, l4⟩ := k4.facts
        obtain ⟨c5, f5, l5⟩ := k5.facts
        have own1 := Lib.hid (show w5.ownsRow w2.heap.size 72 2 (.slice (some ⟨g1, 0, none⟩) 1 capg1) 1 (flat2 .i64 [(x, a - 1)]) from howng1)
        go_wp2_with fail
        refine (CloneR_any (some ⟨gb, off, none⟩) n c rs _ (hr.below hB (Nat.le_refl _)) (by omega)).mono ?_
        rintro e wC ⟨v', rfl, hoC, hbC⟩
        have hRp := Replace_any v' n i (i + 1) (some ⟨g1, 0, none⟩) 1 capg1 w5.heap.size w2.heap.size rs [(x, a - 1)] wC hoC (own_below own1.out hbC) (fun b hb e => by injection hb with hb; injection hb with hb; have h9 := (hoC.lt b e).1; have h8 := own1.out.lt b (by rw [hb]; rfl); omega) (by omega) (by omega) (fun h => by omega) (by omega) hn hbC.size
        rw [show ((i + 1 : Nat) : Int) = (i : Int) + 1 by omega] at hRp
        have HRp := Lib.hid hRp
        have Hvs : Hid (rs.take i ++ [(x, a - 1)] ++ rs.drop (i + 1) = regs (subF rs a b)) := Lib.hid (by have h9 := HL'.out; rw [if_pos hxa, if_neg (by omega)] at h9; simpa using h9)
        have Hln : Hid ((regs (subF rs a b)).length = i + 1 + (n - (i + 1))) := Lib.hid (by rw [← Hvs.out]; simp; omega)
        clear hRp
        try clear c4 f4 l4 c5 f5 l5
        go_wp2_with fail
        refine HRp.out.mono ?_
        rintro e wD ⟨vD, rfl, hoD, hbD⟩
        go_wp2_with fail
        go_ret2
        exact ⟨_, by rw [HR'.out]; rfl, by rw [HR'.out]; show World.ownsRow _ _ _ _ _ (regs (subF rs a b)).length (flat2 .i64 (regs (subF rs a b))); rw [Hln.out, ← Hvs.out]; exact own_less hoD hB.size, bnext hB (hbC.trans hbD)⟩
    · go_wp2_with fail
      go_quiet (fail)
      clear c4 f4 l4 c5 f5 l5
      replace k4 := k4.drewN nq
      replace k5 := k5.drewN nq
      replace hB := below_drawn hB nq
      replace c1 : (w2.drewN nq).cell? ⟨gb, off + i * 2, none⟩ = some (.int .i64 x) := c1
      replace c2 : (w2.drewN nq).cell? ⟨gb, off + i * 2 + 1, none⟩ = some (.int .i64 y) := c2
      replace hgb : gb < (w2.drewN nq).heap.size := hgb
      have hs3 : w2.heap.size ≤ (w2.drewN nq).heap.size := Nat.le_refl _
      generalize w2.drewN nq = w3 at *
      obtain ⟨c4, f4, l4⟩ := k4.facts
      obtain ⟨c5, f5, l5⟩ := k5.facts
      go_wp2_with fail
      go_quiet (fail)
      go_wp2_with fail
      clear c4 f4 l4 c5 f5 l5
      replace k4 := k4.drewN nq
      replace k5 := k5.drewN nq
      replace hB := below_drawn hB nq
      replace c1 : (w3.drewN nq).cell? ⟨gb, off + i * 2, none⟩ = some (.int .i64 x) := c1
      replace c2 : (w3.drewN nq).cell? ⟨gb, off + i * 2 + 1, none⟩ = some (.int .i64 y) := c2
      replace hgb : gb < (w3.drewN nq).heap.size := hgb
      have hs5 : w2.heap.size ≤ (w3.drewN nq).heap.size := hs3
      generalize w3.drewN nq = w5 at *
      obtain ⟨c4, f4, l4⟩ := k4.facts
      obtain ⟨c5, f5, l5⟩ := k5.facts
      go_region_law (first | (refine step_append_lies _ rfl _ _ 22 rfl w2.heap.size 72 i0 (.agg #[.int .i64 0, .int .i64 0]) 2 16 Tryz.underlying22 hi0' hz0 hz1 hz2 rfl (by decide) (.slice none 0 0) 0 [] rfl (World.ownsRow_nil _ _ _ _) ⟨w5.heap.size, 0, none⟩ 1 1 [.int .i64 (b + 1), .int .i64 y] rfl rfl (cell_two_new _ _ _ _) (by simp [Value.oneCell']) (by decide) (by simp only [maxLen]; omega) (by omega) (by show w2.heap.size ≤ _; simp; omega) _ rfl ?_; intro g2 capg2 w6 howng2 hgr_w6 hatg2 hglg2))
      all_goals
        have hB6 : Below w.heap.size w w6 := (below_drew (balloc hB (.cells #[.int .i64 (b + 1), .int .i64 y] 72))).grown hgr_w6 (by have h9 := hB.size; show w.heap.size ≤ (w5.alloc _).heap.size; simp; omega) (fun q e => by cases e)
        clear hB
        have hB := hB6
        clear hB6 k4 k5 c4 f4 l4 c5 f5 l5 c1 c2
        have own1 := Lib.hid (show w6.ownsRow w2.heap.size 72 2 (.slice (some ⟨g2, 0, none⟩) 1 capg2) 1 (flat2 .i64 [(b + 1, y)]) from howng2)
        go_wp2_with fail
        refine (CloneR_any (some ⟨gb, off, none⟩) n c rs _ (hr.below hB (Nat.le_refl _)) (by omega)).mono ?_
        rintro e wC ⟨v', rfl, hoC, hbC⟩
        have hRp := Replace_any v' n i (i + 1) (some ⟨g2, 0, none⟩) 1 capg2 w6.heap.size w2.heap.size rs [(b + 1, y)] wC hoC (own_below own1.out hbC) (fun b hb e => by injection hb with hb; injection hb with hb; have h9 := (hoC.lt b e).1; have h8 := own1.out.lt b (by rw [hb]; rfl); omega) (by omega) (by omega) (fun h => by omega) (by omega) hn hbC.size
        rw [show ((i + 1 : Nat) : Int) = (i : Int) + 1 by omega] at hRp
        have HRp := Lib.hid hRp
        have Hvs : Hid (rs.take i ++ [(b + 1, y)] ++ rs.drop (i + 1) = regs (subF rs a b)) := Lib.hid (by have h9 := HL'.out; rw [if_neg (by omega), if_pos hby] at h9; simpa using h9)
        have Hln : Hid ((regs (subF rs a b)).length = i + 1 + (n - (i + 1))) := Lib.hid (by rw [← Hvs.out]; simp; omega)
        clear hRp
        try clear c4 f4 l4 c5 f5 l5
        go_wp2_with fail
        refine HRp.out.mono ?_
        rintro e wD ⟨vD, rfl, hoD, hbD⟩
        go_wp2_with fail
        go_ret2
        exact ⟨_, by rw [HR'.out]; rfl, by rw [HR'.out]; show World.ownsRow _ _ _ _ _ (regs (subF rs a b)).length (flat2 .i64 (regs (subF rs a b))); rw [Hln.out, ← Hvs.out]; exact own_less hoD hB.size, bnext hB (hbC.trans hbD)⟩
    · go_wp2_with fail
      go_quiet (fail)
      clear c4 f4 l4 c5 f5 l5
      replace k4 := k4.drewN nq
      replace k5 := k5.drewN nq
      replace hB := below_drawn hB nq
      replace c1 : (w2.drewN nq).cell? ⟨gb, off + i * 2, none⟩ = some (.int .i64 x) := c1
      replace c2 : (w2.drewN nq).cell? ⟨gb, off + i * 2 + 1, none⟩ = some (.int .i64 y) := c2
      replace hgb : gb < (w2.drewN nq).heap.size := hgb
      have hs3 : w2.heap.size ≤ (w2.drewN nq).heap.size := Nat.le_refl _
      generalize w2.drewN nq = w3 at *
      obtain ⟨c4, f4, l4⟩ := k4.facts
      obtain ⟨c5, f5, l5⟩ := k5.facts
      go_wp2_with fail
      go_quiet (fail)
      clear c4 f4 l4 c5 f5 l5
      replace k4 := k4.drewN nq
      replace k5 := k5.drewN nq
      replace hB := below_drawn hB nq
      replace c1 : (w3.drewN nq).cell? ⟨gb, off + i * 2, none⟩ = some (.int .i64 x) := c1
      replace c2 : (w3.drewN nq).cell? ⟨gb, off + i * 2 + 1, none⟩ = some (.int .i64 y) := c2
      replace hgb : gb < (w3.drewN nq).heap.size := hgb
      have hs5 : w2.heap.size ≤ (w3.drewN nq).heap.size := hs3
      generalize w3.drewN nq = w5 at *
      obtain ⟨c4, f4, l4⟩ := k4.facts
      obtain ⟨c5, f5, l5⟩ := k5.facts
      have own1 := Lib.hid (World.ownsRow_nil w5 w2.heap.size 72 2)
      go_wp2_with fail
      refine (CloneR_any (some ⟨gb, off, none⟩) n c rs _ (hr.below hB (Nat.le_refl _)) (by omega)).mono ?_
      rintro e wC ⟨v', rfl, hoC, hbC⟩
      have hRp := Replace_any v' n i (i + 1) (none) 0 0 w5.heap.size w2.heap.size rs [] wC hoC (own_below own1.out hbC) (fun b hb e => by cases hb) (by omega) (by omega) (fun h => by omega) (by omega) hn hbC.size
      rw [show ((i + 1 : Nat) : Int) = (i : Int) + 1 by omega] at hRp
      have HRp := Lib.hid hRp
      have Hvs : Hid (rs.take i ++ [] ++ rs.drop (i + 1) = regs (subF rs a b)) := Lib.hid (by have h9 := HL'.out; rw [if_neg (by omega), if_neg (by omega)] at h9; simpa using h9)
      have Hln : Hid ((regs (subF rs a b)).length = i + 0 + (n - (i + 1))) := Lib.hid (by rw [← Hvs.out]; simp; omega)
      clear hRp
      try clear c4 f4 l4 c5 f5 l5
      go_wp2_with fail
      refine HRp.out.mono ?_
      rintro e wD ⟨vD, rfl, hoD, hbD⟩
      go_wp2_with fail
      go_ret2
      exact ⟨_, by rw [HR'.out]; rfl, by rw [HR'.out]; show World.ownsRow _ _ _ _ _ (regs (subF rs a b)).length (flat2 .i64 (regs (subF rs a b))); rw [Hln.out, ← Hvs.out]; exact own_less hoD hB.size, bnext hB (hbC.trans hbD)⟩
    -- END WAYS
  · have HR := HUR.out false (HU2.out hno)
    have HR' := Lib.hid HR
    clear hno HR
    go_wp2_with fail
    go_ret2
    rw [HR'.out]
    exact RgRes.nil rfl hB
end Go.Proofs.YtpkgfkhaiifooaaGreatDoor
/- Pages that are mapped and unmapped, plain facts; Unmap by the program. -/
namespace Go.Proofs.YtpkgfkhaiifooaaGreatDoor
open Go Go.Proofs Go.RowKit
set_option linter.unusedSimpArgs false
set_option linter.unusedVariables false
set_option maxRecDepth 100000

/-- The pages of a list, with those from a to p - 1 put in or out. -/
def puF (rs : List (Int × Int)) (x : Bool) (a p : Int) (q : Nat) : Bool := if a ≤ (q : Int) ∧ (q : Int) < p then x else hasP rs q
theorem puF_start (rs : List (Int × Int)) (x : Bool) (a : Int) : bl (hasP rs) = bl (puF rs x a a) := bl_congr _ _ (fun q _ => by unfold puF; rw [if_neg (by omega)])
theorem puF_step (rs : List (Int × Int)) (x : Bool) (a : Int) (p : Nat) (h : a ≤ (p : Int)) : (bl (puF rs x a p)).set p x = bl (puF rs x a ((p : Int) + 1)) := by
  rw [bl_set]
  refine bl_congr _ _ (fun q _ => ?_)
  unfold puF
  by_cases hq : q = p
  · subst hq
    rw [if_pos rfl, if_pos (by omega)]
  · rw [if_neg hq]
    by_cases hc : a ≤ (q : Int) ∧ (q : Int) < (p : Int)
    · rw [if_pos hc, if_pos (by omega)]
    · rw [if_neg hc, if_neg (by omega)]
theorem puF_add (rs : List (Int × Int)) (a b : Int) (q : Nat) : puF rs true a (b + 1) q = addF rs a b q := by
  unfold puF addF inR
  by_cases hc : a ≤ (q : Int) ∧ (q : Int) < b + 1
  · rw [if_pos hc, decide_eq_true hc.1, decide_eq_true (by omega)]; simp
  · rw [if_neg hc]
    have : (decide (a ≤ (q : Int)) && decide ((q : Int) ≤ b)) = false := by rw [Bool.and_eq_false_iff]; simp only [decide_eq_false_iff_not]; omega
    rw [this, Bool.or_false]
theorem puF_sub (rs : List (Int × Int)) (a b : Int) (q : Nat) : puF rs false a (b + 1) q = subF rs a b q := by
  unfold puF subF inR
  by_cases hc : a ≤ (q : Int) ∧ (q : Int) < b + 1
  · rw [if_pos hc, decide_eq_true hc.1, decide_eq_true (by omega)]; simp
  · rw [if_neg hc]
    have : (decide (a ≤ (q : Int)) && decide ((q : Int) ≤ b)) = false := by rw [Bool.and_eq_false_iff]; simp only [decide_eq_false_iff_not]; omega
    rw [this]; simp
theorem regs_eq (f g : Nat → Bool) (h : ∀ p, f p = g p) : regs f = regs g := by rw [show f = g from funext h]
theorem begE_two {rs : List (Int × Int)} {a b : Int} (h : begE rs a b ≠ 0) : (begE rs a b = (regE rs).1 ∧ (regE rs).1 ≠ 0) ∨ ((regE rs).1 = 0 ∧ begE rs a b = 2 ∧ rngE a b = 2) := by
  unfold begE at h ⊢
  by_cases h1 : (regE rs).1 = 0
  · rw [if_neg (by simp [h1])] at h ⊢
    rcases rngE_cases a b with h2 | ⟨h2, _⟩
    · exact .inr ⟨h1, h2, h2⟩
    · exact absurd h2 h
  · rw [if_pos h1]
    exact .inl ⟨rfl, h1⟩
theorem begE_parts {rs : List (Int × Int)} {a b : Int} (h : begE rs a b = 0) : (regE rs).1 = 0 ∧ rngE a b = 0 := by
  unfold begE at h
  split at h
  · rename_i h1; exact absurd h h1
  · rename_i h1; exact ⟨by omega, h⟩
theorem Unmap_any (A : Option Addr) (n c : Nat) (rs : List (Int × Int)) (a b : Int) (w : World) (hr : Rd w 2 A n (flat2 .i64 rs)) (hn : n ≤ 1000) :
    Calls Tryz.prog 28 #[.slice A n c, .int .i64 a, .int .i64 b] w fun e w' => RgRes w w' (unmR rs a b).1 (unmR rs a b).2 e := by
  by_cases hE : begE rs a b = 0
  · exact Unmap_go A n c rs a b w hr hn hE
  · have : unmR rs a b = ([], begE rs a b) := by unfold unmR; rw [if_pos hE]
    rw [this]
    exact Unmap_bad A n c rs a b w hr (by omega) hE
theorem RgRes.open {w w' : World} {l : List (Int × Int)} {er : Int} {e : Ending} (h : RgRes w w' l er e) : ∃ A c, e = .returned (.tuple #[.slice A l.length c, .int .i64 er]) ∧ Rd w' 2 A l.length (flat2 .i64 l) ∧ Below w.heap.size w w' := by
  obtain ⟨v, rfl, hown, hb⟩ := h
  obtain ⟨A, c, rfl, hr⟩ := own_slice hown
  exact ⟨A, c, rfl, hr, hb⟩
theorem regK_le (f : Nat → Bool) : ∀ k, (regK f k).length ≤ k
  | 0 => by simp [regK]
  | k + 1 => by
    have h := regK_le f k
    rw [regK, regA]
    split
    · omega
    · split
      · simp; omega
      · simp; omega
theorem regs_le (f : Nat → Bool) : (regs f).length ≤ 64 := regK_le f 64
theorem mapR_le (rs : List (Int × Int)) (a b m : Int) : (mapR rs a b m).1.length ≤ 64 := by
  unfold mapR
  split
  · simp
  · split
    · simp
    · split
      · simp
      · exact regs_le _
theorem unmR_le (rs : List (Int × Int)) (a b : Int) : (unmR rs a b).1.length ≤ 64 := by
  unfold unmR
  split
  · simp
  · split
    · simp
    · exact regs_le _
end Go.Proofs.YtpkgfkhaiifooaaGreatDoor
