/- slices.Replace on ranges: at the end; all ways together. -/
import Derived.Test.YtfblbkhiaglelaaDoorSl3
namespace Go.Proofs.YtfblbkhiaglelaaDoor
open Go Go.Proofs Go.RowKit
set_option linter.unusedSimpArgs false
set_option linter.unusedVariables false
set_option maxRecDepth 100000

section
variable {P : Program}
/-- append to a row that has room. -/
theorem append_room_any (w : World) (t ty e : TypeId) (i : TypeInfo) (z : Value) (sz : Nat) (ht : P.underlying t = some (.slice e)) (hi : P.info? e = some i) (hz : i.zero = some z) (hsz : i.size = sz) (h0 : 0 < sz)
    (g sLen sCap : Nat) (L : List Value) (hg : w.heap[g]? = some (.cells L.toArray e (0, 0))) (V : Option Addr) (m c : Nat) (cs : List Value) (hn : cs.length = m * sz) (hpos : 0 < cs.length → ∃ ad, V = some ad ∧ ∀ j v, cs[j]? = some v → w.cell? (ad.add j) = some v)
    (h1 : ∀ v ∈ cs, v.oneCell' = true) (hroom : sLen + m ≤ sCap) (hfit : sLen * sz + cs.length ≤ L.length) (B : Nat) (w0 : World) (hb : Below B w0 w) (hBg : B ≤ g) :
    ∃ w', (Builtin.append_ #[t, t] ty #[.slice (some ⟨g, 0, none⟩) sLen sCap, .slice V m c]).run P w = .ok (.slice (some ⟨g, 0, none⟩) (sLen + m) sCap) w' ∧ w'.heap[g]? = some (.cells (splice L (sLen * sz) cs).toArray e (0, 0)) ∧ Below B w0 w' ∧ w.grownBy w' (some g) := by
  subst hsz
  by_cases hm : m = 0
  · subst hm
    obtain rfl : cs = [] := List.eq_nil_of_length_eq_zero (by simpa using hn)
    refine ⟨w, ?_, by simpa [splice] using hg, hb, World.grownBy.refl w _⟩
    have hl : sLen ≤ sCap := by omega
    rcases V with _ | V <;> simp [Builtin.append_, run_underlying ht, sizeOf, typeInfo, hi, Builtin.lenOf, Builtin.firstCells, hl, loadCells, loadCellsFrom, storeCells]
  · have hp : 0 < cs.length := by rw [hn]; exact Nat.mul_pos (by omega) h0
    obtain ⟨ad, rfl, hsrc⟩ := hpos hp
    have hr := run_append_room (P := P) w t ty e i ht hi g sLen sCap L.toArray hg ad m c cs hn hsrc h1 hroom (by simpa using hfit)
    refine ⟨_, hr, ?_, below_setRow hb hBg _, ⟨rfl, rfl, rfl, by simp [World.setRow], fun k _ hk => setRow_other w g k _ (fun e => hk (by rw [e]))⟩⟩
    simpa [splice] using setRow_heap w g _ _ e _ hg
end
theorem take_splice {α : Type} (L : List α) (a : Nat) (X : List α) (h : a + X.length ≤ L.length) : (splice L a X).take (a + X.length) = L.take a ++ X := by
  unfold splice
  rw [← List.append_assoc, List.take_append_of_le_length (by simp; omega)]
  exact List.take_of_length_le (by simp; omega)
theorem splice_take {α : Type} (L : List α) (a : Nat) (X : List α) (h : a ≤ L.length) : (splice L a X).take a = L.take a := by
  unfold splice
  rw [List.take_append_of_le_length (by simp; omega), List.take_take, Nat.min_self]
set_option maxHeartbeats 4000000 in
theorem Replace_cut (g n c i : Nat) (V : Option Addr) (m cV B BV : Nat) (rs vs : List (Int × Int)) (w : World) (hown : w.ownsRow B 65 2 (.slice (some ⟨g, 0, none⟩) n c) n (flat2 .i64 rs)) (hV : w.ownsRow BV 65 2 (.slice V m cV) m (flat2 .i64 vs)) (hne : ∀ b, V = some ⟨b, 0, none⟩ → b ≠ g) (hij : i < n) (hm2 : m ≤ 2) (hn : n ≤ 1000) (hBs : B ≤ w.heap.size) (hle : i + m < n) :
    Calls Tryd.prog 43 #[.slice (some ⟨g, 0, none⟩) n c, .int .i64 i, .int .i64 n, .slice V m cV] w fun e w' => ∃ v', e = .returned v' ∧ w'.ownsRow B 65 2 v' (i + m) (flat2 .i64 (rs.take i ++ vs)) ∧ Below B w w' := by
  obtain ⟨i0, hin, hz0, hz1, hz2⟩ := info_parts infoRg
  obtain ⟨L, hg, hB, hnc, hcm, hL, hT⟩ := own_parts hown
  have hlen : rs.length = n := by have := hown.1; rw [flat2_len] at this; omega
  have hlenV : vs.length = m := by have := hV.1; rw [flat2_len] at this; omega
  have hB0 : Below B w w := Below.refl _ _
  obtain ⟨X1, hX1⟩ : ∃ X1, X1 = flat2 .i64 (rs.drop n) := ⟨_, rfl⟩
  have hX1l : X1.length = (n - n) * 2 := by rw [hX1, flat2_len, List.length_drop, hlen]
  have hX1c : ∀ q v, X1[q]? = some v → L[n * 2 + q]? = some v := fun q v hj => by
    rw [hX1, flat2_drop, ← hT, List.getElem?_drop, List.getElem?_take] at hj
    split at hj
    · exact hj
    · cases hj
  have hX1o : ∀ v ∈ X1, v.oneCell' = true := by rw [hX1]; exact oneCells_flat2 _ _
  obtain ⟨X2, hX2⟩ : ∃ X2, X2 = flat2 .i64 vs := ⟨_, rfl⟩
  have hX2l : X2.length = m * 2 := by rw [hX2, flat2_len, hlenV]
  have hX2o : ∀ v ∈ X2, v.oneCell' = true := by rw [hX2]; exact oneCells_flat2 _ _
  have hgl := (Array.getElem?_eq_some_iff.1 hg).1
  -- the source, wherever the first row lies behind a change of g alone
  have hsrc : ∀ w' : World, (∀ b, b ≠ g → b < w.heap.size → w'.heap[b]? = w.heap[b]?) → 0 < X2.length → ∃ ad, V = some ad ∧ ∀ q v, X2[q]? = some v → w'.cell? (ad.add q) = some v := fun w' hw hp => by
    obtain ⟨bV, cV', hv, _, hbl⟩ := hV.form (by omega)
    have hv1 : V = some ⟨bV, 0, none⟩ := by injection hv
    subst hv1
    obtain ⟨LV, hgV, _, _, _, _, hTV⟩ := own_parts hV
    refine ⟨_, rfl, fun q v hq => heap_cell ((hw bV (hne bV rfl) hbl).trans hgV) 0 q v ?_⟩
    rw [hX2, ← hTV, List.getElem?_take] at hq
    split at hq
    · simpa using hq
    · cases hq
  have HX1 := Lib.hid hX1
  have HX2 := Lib.hid hX2
  have hflen : (flat2 .i64 (rs.take i ++ vs)).length = (i + m) * 2 := by rw [flat2_len]; simp; omega
  obtain ⟨Z, hZ⟩ : ∃ Z, Z = flat2 .i64 (rs.take i ++ vs) := ⟨_, rfl⟩
  rw [← hZ] at hflen ⊢
  have HZ := Lib.hid hZ
  clear hZ
  have hLi : i < n → L.take (i * 2) = flat2 .i64 (rs.take i) := fun h => by rw [flat2_take, ← hT, List.take_take, Nat.min_eq_left (by omega)]
  have HLi := Lib.hid hLi
  have Hsrc := Lib.hid hsrc
  clear hX1 hX2 hT hLi hsrc
  have hij' : ¬ ((i : Int) = (n : Int)) := by omega
  simp only [maxLen] at hcm
  have hmc : i + m ≤ c := by omega
  have hLi := HLi.out (by omega)
  obtain ⟨w1, hrun1, hG1, hB1, hgr1⟩ := append_room_any (P := Tryd.prog) w 22 22 65 i0 (.agg #[.int .i64 0, .int .i64 0]) 2 Tryd.underlying22 hin hz0 hz1 (by decide) g i c L hg V m cV X2 hX2l (fun hp => Hsrc.out w (fun _ _ _ => rfl) hp) hX2o hmc (by rw [hX2l, hL]; omega) B w hB0 hB
  obtain ⟨S1, hS1⟩ : ∃ S1, S1 = splice L (i * 2) X2 := ⟨_, rfl⟩
  have hsl1 : S1.length = c * 2 := by rw [hS1, splice_len _ _ _ (by rw [hX2l, hL]; omega), hL]
  have hfin : S1.take ((i + m) * 2) = Z := by
    rw [HZ.out, flat2_append, ← HX2.out, ← hLi, hS1, show (i + m) * 2 = i * 2 + X2.length by rw [hX2l]; omega, take_splice _ _ _ (by rw [hX2l, hL]; omega)]
  rw [← hS1] at hG1
  have hcm1 : ¬ (c = i + m) := by omega
  obtain ⟨w3, cs3, hrun3, hcl3, hG3, hB3, _⟩ := clear_any (P := Tryd.prog) w1 22 0 65 i0 (.agg #[.int .i64 0, .int .i64 0]) 2 Tryd.underlying22 hin hz0 rfl (by intro u hu; simp [Value.cells] at hu; rcases hu with rfl | rfl <;> rfl) (by decide) (some ⟨g, (i + m) * 2, none⟩) (n - (i + m)) (c - (i + m)) g ((i + m) * 2) S1 65 hG1 (fun h => rfl) (by rw [hsl1]; omega) B w hB1 hB
  have hfin3 : (splice S1 ((i + m) * 2) cs3).take ((i + m) * 2) = Z := by
    rw [splice_take _ _ _ (by rw [hsl1]; omega)]
    exact hfin
  have hsl3 : (splice S1 ((i + m) * 2) cs3).length = c * 2 := by rw [splice_len _ _ _ (by rw [hcl3, hsl1]; omega), hsl1]
  have HG3 := Lib.hid hG3
  have Hfin3 := Lib.hid hfin3
  clear hG3 hfin3 hS1 hfin hG1 hLi
  have hbB : i ≤ n := by omega
  have hb7 : (i : Int) + (m : Int) < (n : Int) := by omega
  have hb8 : i + m < n := by omega
  go_enter Tryd.func43, Tryd.ntmps43
  go_wp2_with (at_builtin; refine Lib.wpList_append_run _ rfl _ _ _ _ rfl _ _ rfl rfl _ _ hrun1 ?_)
  all_goals
    go_ret
    exact ⟨_, rfl, own_make _ HG3.out hB hmc (by simp only [maxLen]; exact hcm) hsl3 Hfin3.out hflen, hB3⟩
set_option maxHeartbeats 4000000 in
theorem Replace_tail (g n c i : Nat) (V : Option Addr) (m cV B BV : Nat) (rs vs : List (Int × Int)) (w : World) (hown : w.ownsRow B 65 2 (.slice (some ⟨g, 0, none⟩) n c) n (flat2 .i64 rs)) (hV : w.ownsRow BV 65 2 (.slice V m cV) m (flat2 .i64 vs)) (hne : ∀ b, V = some ⟨b, 0, none⟩ → b ≠ g) (hij : i < n) (hm2 : m ≤ 2) (hn : n ≤ 1000) (hBs : B ≤ w.heap.size) (hle : n ≤ i + m) :
    Calls Tryd.prog 43 #[.slice (some ⟨g, 0, none⟩) n c, .int .i64 i, .int .i64 n, .slice V m cV] w fun e w' => ∃ v', e = .returned v' ∧ w'.ownsRow B 65 2 v' (i + m) (flat2 .i64 (rs.take i ++ vs)) ∧ Below B w w' := by
  obtain ⟨i0, hin, hz0, hz1, hz2⟩ := info_parts infoRg
  obtain ⟨L, hg, hB, hnc, hcm, hL, hT⟩ := own_parts hown
  have hlen : rs.length = n := by have := hown.1; rw [flat2_len] at this; omega
  have hlenV : vs.length = m := by have := hV.1; rw [flat2_len] at this; omega
  have hB0 : Below B w w := Below.refl _ _
  obtain ⟨X1, hX1⟩ : ∃ X1, X1 = flat2 .i64 (rs.drop n) := ⟨_, rfl⟩
  have hX1l : X1.length = (n - n) * 2 := by rw [hX1, flat2_len, List.length_drop, hlen]
  have hX1c : ∀ q v, X1[q]? = some v → L[n * 2 + q]? = some v := fun q v hj => by
    rw [hX1, flat2_drop, ← hT, List.getElem?_drop, List.getElem?_take] at hj
    split at hj
    · exact hj
    · cases hj
  have hX1o : ∀ v ∈ X1, v.oneCell' = true := by rw [hX1]; exact oneCells_flat2 _ _
  obtain ⟨X2, hX2⟩ : ∃ X2, X2 = flat2 .i64 vs := ⟨_, rfl⟩
  have hX2l : X2.length = m * 2 := by rw [hX2, flat2_len, hlenV]
  have hX2o : ∀ v ∈ X2, v.oneCell' = true := by rw [hX2]; exact oneCells_flat2 _ _
  have hgl := (Array.getElem?_eq_some_iff.1 hg).1
  -- the source, wherever the first row lies behind a change of g alone
  have hsrc : ∀ w' : World, (∀ b, b ≠ g → b < w.heap.size → w'.heap[b]? = w.heap[b]?) → 0 < X2.length → ∃ ad, V = some ad ∧ ∀ q v, X2[q]? = some v → w'.cell? (ad.add q) = some v := fun w' hw hp => by
    obtain ⟨bV, cV', hv, _, hbl⟩ := hV.form (by omega)
    have hv1 : V = some ⟨bV, 0, none⟩ := by injection hv
    subst hv1
    obtain ⟨LV, hgV, _, _, _, _, hTV⟩ := own_parts hV
    refine ⟨_, rfl, fun q v hq => heap_cell ((hw bV (hne bV rfl) hbl).trans hgV) 0 q v ?_⟩
    rw [hX2, ← hTV, List.getElem?_take] at hq
    split at hq
    · simpa using hq
    · cases hq
  have HX1 := Lib.hid hX1
  have HX2 := Lib.hid hX2
  have hflen : (flat2 .i64 (rs.take i ++ vs)).length = (i + m) * 2 := by rw [flat2_len]; simp; omega
  obtain ⟨Z, hZ⟩ : ∃ Z, Z = flat2 .i64 (rs.take i ++ vs) := ⟨_, rfl⟩
  rw [← hZ] at hflen ⊢
  have HZ := Lib.hid hZ
  clear hZ
  have hLi : i < n → L.take (i * 2) = flat2 .i64 (rs.take i) := fun h => by rw [flat2_take, ← hT, List.take_take, Nat.min_eq_left (by omega)]
  have HLi := Lib.hid hLi
  have Hsrc := Lib.hid hsrc
  clear hX1 hX2 hT hLi hsrc
  have hij' : ¬ ((i : Int) = (n : Int)) := by omega
  simp only [maxLen] at hcm
  have hLi := HLi.out (by omega)
  have hoi : w.ownsRow B 65 2 (.slice (some ⟨g, 0, none⟩) i c) i (flat2 .i64 (rs.take i)) := own_make L hg hB (by omega) (by simp only [maxLen]; exact hcm) hL hLi (by rw [flat2_len]; simp; omega)
  obtain ⟨Y, hY⟩ : ∃ Y, flat2 .i64 (rs.take i) = Y := ⟨_, rfl⟩
  have hZY : Y ++ X2 = Z := by rw [HZ.out, flat2_append, ← hY, HX2.out]
  have hrV : Rd w 2 V m X2 := by rw [HX2.out]; exact Rd.own hV
  rw [hY] at hoi
  have HZY := Lib.hid hZY
  clear hLi hY hZY
  have hbB : i ≤ n := by omega
  have hb7 : ¬ (i : Int) + (m : Int) < (n : Int) := by omega
  have hb8 : ¬ i + m < n := by omega
  go_enter Tryd.func43, Tryd.ntmps43
  go_wp2_with (at_builtin; refine wpList_append_rd _ rfl _ _ 22 rfl B 65 i0 (.agg #[.int .i64 0, .int .i64 0]) 2 16 Tryd.underlying22 hin hz0 hz1 hz2 rfl (by decide) _ _ _ rfl hoi _ m cV X2 rfl hrV hX2o (by simp only [maxLen]; omega) (by omega) hBs ?_; intro v' w1 hown' hgrow; obtain ⟨A', c', rfl, _⟩ := own_slice hown')
  all_goals
    go_ret
    exact ⟨_, rfl, by rw [← HZY.out]; exact hown', (Below.refl _ w).grown hgrow hBs (fun q e => (hoi.lt q e).1)⟩
/-- slices.Replace, whatever lies where. -/
theorem Replace_any (v : Value) (n i j : Nat) (V : Option Addr) (m cV B BV : Nat) (rs vs : List (Int × Int)) (w : World) (hown : w.ownsRow B 65 2 v n (flat2 .i64 rs)) (hV : w.ownsRow BV 65 2 (.slice V m cV) m (flat2 .i64 vs)) (hne : ∀ b, V = some ⟨b, 0, none⟩ → v.ownBlock ≠ some b) (hij : i ≤ j) (hjn : j ≤ n) (h0 : i = j → 0 < m) (hm2 : m ≤ 2) (hn : n ≤ 1000) (hBs : B ≤ w.heap.size) :
    Calls Tryd.prog 43 #[v, .int .i64 i, .int .i64 j, .slice V m cV] w fun e w' => ∃ v', e = .returned v' ∧ w'.ownsRow B 65 2 v' (i + m + (n - j)) (flat2 .i64 (rs.take i ++ vs ++ rs.drop j)) ∧ Below B w w' := by
  have hlen : rs.length = n := by have := hown.1; rw [flat2_len] at this; omega
  by_cases h1 : i = j
  · subst h1
    obtain ⟨bV, cV', hv, _, hbl⟩ := hV.form (h0 rfl)
    have hv1 : V = some ⟨bV, 0, none⟩ := by injection hv
    subst hv1
    rw [show i + m + (n - i) = n + m by omega]
    exact Replace_ins v n i bV m cV B BV rs vs w hown hV (hne bV rfl) hjn (h0 rfl) hm2 hn hBs
  · obtain ⟨g, c, rfl, hg1, hg2⟩ := hown.form (by omega)
    have hne' : ∀ b, V = some ⟨b, 0, none⟩ → b ≠ g := fun b hb e => hne b hb (by rw [e]; rfl)
    by_cases h2 : j = n
    · subst h2
      rw [Nat.sub_self, Nat.add_zero, List.drop_eq_nil_of_le (by omega), List.append_nil]
      by_cases h3 : i + m < j
      · exact Replace_cut g j c i V m cV B BV rs vs w hown hV hne' (by omega) hm2 hn hBs h3
      · exact Replace_tail g j c i V m cV B BV rs vs w hown hV hne' (by omega) hm2 hn hBs (by omega)
    · by_cases h3 : c < i + m + (n - j)
      · exact Replace_grow g n c i j V m cV B BV rs vs w hown hV hne' (by omega) hm2 hn hBs (by omega) h3
      · by_cases h4 : i + m ≤ j
        · exact Replace_less g n c i j V m cV B BV rs vs w hown hV hne' (by omega) hm2 hn hBs (by omega) h4
        · exact Replace_more g n c i j V m cV B BV rs vs w hown hV hne' (by omega) hm2 hn hBs (by omega) (by omega) (by omega)
end Go.Proofs.YtfblbkhiaglelaaDoor
