/- slices.Insert on ranges. -/
import Derived.Test.YtpkgfkhaiifooaaGreatDoorSl1
import Derived.Test.YtpkgfkhaiifooaaGreatDoorProg
import Derived.Lib.Overlaps
import Derived.Deep.RegionLaw
namespace Go.Proofs.YtpkgfkhaiifooaaGreatDoor
open Go Go.Proofs Go.RowKit
set_option linter.unusedSimpArgs false
set_option linter.unusedVariables false
set_option maxRecDepth 100000

theorem infoRg : (Tryz.prog.info? 72).map (fun i => (i.zero, i.size, i.bytes)) = some (some (.agg #[.int .i64 0, .int .i64 0]), 2, 16) := by kernel_rfl
theorem szRg : (Tryz.prog.info? 72).map (·.size) = some 2 := by kernel_rfl
theorem sizRg (w : World) : (Go.sizeOf 72).run Tryz.prog w = .ok 2 w := by kernel_rfl
theorem flat2_take (k : IntKind) (rs : List (Int × Int)) (i : Nat) : flat2 k (rs.take i) = (flat2 k rs).take (i * 2) := by
  induction rs generalizing i with
  | nil => simp [flat2]
  | cons r rs ih =>
    cases i with
    | zero => simp [flat2]
    | succ i =>
      have := ih i
      simp only [flat2, List.take_succ_cons, List.flatMap_cons] at this ⊢
      rw [this, show (i + 1) * 2 = i * 2 + 2 by omega]
      simp
theorem flat2_drop (k : IntKind) (rs : List (Int × Int)) (i : Nat) : flat2 k (rs.drop i) = (flat2 k rs).drop (i * 2) := by
  induction rs generalizing i with
  | nil => simp [flat2]
  | cons r rs ih =>
    cases i with
    | zero => simp [flat2]
    | succ i =>
      have := ih i
      simp only [flat2, List.drop_succ_cons, List.flatMap_cons] at this ⊢
      rw [this, show (i + 1) * 2 = i * 2 + 2 by omega]
      simp
/-- A row of the call's own, taken apart. -/
theorem own_parts {w : World} {B g n c : Nat} {e : TypeId} {sz : Nat} {xs : List Value} (h : w.ownsRow B e sz (.slice (some ⟨g, 0, none⟩) n c) n xs) :
    ∃ L : List Value, w.heap[g]? = some (.cells L.toArray e (0, 0)) ∧ B ≤ g ∧ n ≤ c ∧ c ≤ maxLen ∧ L.length = c * sz ∧ L.take (n * sz) = xs := by
  rcases h.2 with ⟨h0, _⟩ | ⟨g', cap, cur, hv, hbg, hg, hnc, hcm, hcs, htk⟩
  · cases h0
  · have e1 : g = g' := by injection hv with hv; injection hv with hv; injection hv
    have e2 : c = cap := by injection hv
    subst e1 e2
    exact ⟨cur.toList, by simpa using hg, hbg, hnc, hcm, by simpa using hcs, htk⟩
theorem own_make {w : World} {B g n c : Nat} {e : TypeId} {sz : Nat} {xs : List Value} (L : List Value) (hg : w.heap[g]? = some (.cells L.toArray e (0, 0))) (hB : B ≤ g) (hn : n ≤ c) (hm : c ≤ maxLen) (hl : L.length = c * sz) (ht : L.take (n * sz) = xs) (hx : xs.length = n * sz) :
    w.ownsRow B e sz (.slice (some ⟨g, 0, none⟩) n c) n xs := ⟨hx, .inr ⟨g, c, L.toArray, rfl, hB, hg, hn, hm, by simpa using hl, by simpa using ht⟩⟩
theorem heap_cell {w : World} {g : Nat} {L : List Value} {e : TypeId} (hg : w.heap[g]? = some (.cells L.toArray e (0, 0))) (o j : Nat) (v : Value) (h : L[o + j]? = some v) : w.cell? ((⟨g, o, none⟩ : Addr).add j) = some v := by
  rw [show (⟨g, o, none⟩ : Addr).add j = ⟨g, o + j, none⟩ by unfold Addr.add; split <;> simp_all]
  simp [World.cell?, hg, h]
theorem heap_shape {w : World} {g : Nat} {L : List Value} {e : TypeId} (hg : w.heap[g]? = some (.cells L.toArray e (0, 0))) : w.shape? g = some (e, L.length) := by simp [World.shape?, hg]
theorem heap_frozen {w : World} {g : Nat} {L : List Value} {e : TypeId} (hg : w.heap[g]? = some (.cells L.toArray e (0, 0))) (o : Nat) : w.frozen? ⟨g, o, none⟩ = false := by simp [World.frozen?, hg]

theorem splice_up {α : Type} (L X1 X2 : List α) (a b : Nat) (h2 : X2.length = b) (hl : a + b + X1.length ≤ L.length) : (splice (splice L (a + b) X1) a X2).take (a + b + X1.length) = L.take a ++ X2 ++ X1 := by
  have e1 : splice L (a + b) X1 = L.take (a + b) ++ (X1 ++ L.drop (a + b + X1.length)) := rfl
  rw [e1]
  have e2 : splice (L.take (a + b) ++ (X1 ++ L.drop (a + b + X1.length))) a X2 = L.take a ++ (X2 ++ (X1 ++ L.drop (a + b + X1.length))) := by
    unfold splice
    rw [h2, List.take_append_of_le_length (by simp; omega), List.take_take, Nat.min_eq_left (by omega), List.drop_append, List.drop_eq_nil_of_le (by simp; omega), List.nil_append]
    simp only [List.length_take]
    rw [Nat.min_eq_left (by omega), Nat.sub_self, List.drop_zero]
  rw [e2, ← List.append_assoc, ← List.append_assoc, List.take_append_of_le_length (by simp; omega)]
  exact List.take_of_length_le (by simp; omega)
theorem splice_len {α : Type} (L : List α) (off : Nat) (cs : List α) (h : off + cs.length ≤ L.length) : (splice L off cs).length = L.length := length_splice L off cs h

set_option maxHeartbeats 2000000 in
theorem Insert_room (g n c bV m cV i B BV : Nat) (rs vs : List (Int × Int)) (w : World) (hown : w.ownsRow B 72 2 (.slice (some ⟨g, 0, none⟩) n c) n (flat2 .i64 rs)) (hV : w.ownsRow BV 72 2 (.slice (some ⟨bV, 0, none⟩) m cV) m (flat2 .i64 vs)) (hne : bV ≠ g) (hi : i < n) (hm : 0 < m) (hm2 : m ≤ 2) (hroom : n + m ≤ c) (hn : n ≤ 1000) :
    Calls Tryz.prog 85 #[.slice (some ⟨g, 0, none⟩) n c, .int .i64 i, .slice (some ⟨bV, 0, none⟩) m cV] w fun e w' => e = .returned (.slice (some ⟨g, 0, none⟩) (n + m) c) ∧ w'.ownsRow B 72 2 (.slice (some ⟨g, 0, none⟩) (n + m) c) (n + m) (flat2 .i64 (rs.take i ++ vs ++ rs.drop i)) ∧ Below B w w' := by
  obtain ⟨L, hg, hB, hnc, hcm, hL, hT⟩ := own_parts hown
  obtain ⟨LV, hgV, _, hmc, _, hLV, hTV⟩ := own_parts hV
  have hov : ∀ (wx : World) lb cb, wx.heap = w.heap → (callFunc 86 #[.slice (some ⟨bV, 0, none⟩) m cV, .slice (some ⟨g, (i + m) * 2, none⟩) lb cb]).run Tryz.prog wx = .ok (.value (.bool false)) wx := fun wx lb cb hx => by
    rw [run_callFunc_extern Tryz.func86 (by kernel_rfl) (by kernel_rfl) (by kernel_rfl) (e := Extern.SlicesOverlaps.overlaps #[22, 22] #[4]) (by kernel_rfl),
      Lib.run_overlaps_apart wx 22 4 72 Tryz.underlying22 2 sizRg ⟨bV, 0, none⟩ ⟨g, (i + m) * 2, none⟩ m cV lb cb hne _ _ _ _ (heap_shape (by rw [hx]; exact hgV)) (heap_shape (by rw [hx]; exact hg)) (by omega) (heap_frozen (by rw [hx]; exact hgV) _) (heap_frozen (by rw [hx]; exact hgV) _)]
    rfl
  have hz1 : ¬ ((m : Int) = 0) := by omega
  have hz2 : ¬ ((i : Int) = (n : Int)) := by omega
  have hlen : rs.length = n := by have := hown.1; rw [flat2_len] at this; omega
  have hlenV : vs.length = m := by have := hV.1; rw [flat2_len] at this; omega
  have hB0 : Below B w w := Below.refl _ _
  obtain ⟨X1, hX1⟩ : ∃ X1, X1 = flat2 .i64 (rs.drop i) := ⟨_, rfl⟩
  have hX1l : X1.length = (n - i) * 2 := by rw [hX1, flat2_len, List.length_drop, hlen]
  have hX1c : ∀ j v, X1[j]? = some v → w.cell? ((⟨g, i * 2, none⟩ : Addr).add j) = some v := fun j v hj => heap_cell hg _ _ _ (by
    rw [hX1, flat2_drop, ← hT, List.getElem?_drop, List.getElem?_take] at hj
    split at hj
    · exact hj
    · cases hj)
  have hX1o : ∀ v ∈ X1, v.oneCell' = true := by rw [hX1]; exact oneCells_flat2 _ _
  obtain ⟨X2, hX2⟩ : ∃ X2, X2 = flat2 .i64 vs := ⟨_, rfl⟩
  have hX2l : X2.length = m * 2 := by rw [hX2, flat2_len, hlenV]
  have hX2c : ∀ j v, X2[j]? = some v → LV[0 + j]? = some v := fun j v hj => by
    rw [hX2, ← hTV, List.getElem?_take] at hj
    split at hj
    · simpa using hj
    · cases hj
  have hX2o : ∀ v ∈ X2, v.oneCell' = true := by rw [hX2]; exact oneCells_flat2 _ _
  have hmin1 : Nat.min (n + m - i) (n + m - (i + m)) = n - i := by show min (n + m - i) (n + m - (i + m)) = n - i; omega
  have hmin2 : Nat.min m (n + m - i) = m := by show min m (n + m - i) = m; omega
  have hfin : (splice (splice L ((i + m) * 2) X1) (i * 2) X2).take ((n + m) * 2) = flat2 .i64 (rs.take i ++ vs ++ rs.drop i) := by
    rw [flat2_append, flat2_append, ← hX1, ← hX2, flat2_take, ← hT, List.take_take, Nat.min_eq_left (by omega)]
    have := splice_up L X1 X2 (i * 2) (m * 2) hX2l (by rw [hX1l, hL]; omega)
    rw [hX1l] at this
    rw [← this, show (i + m) * 2 = i * 2 + m * 2 by omega, show i * 2 + m * 2 + (n - i) * 2 = (n + m) * 2 by omega]
  have hsl1 : (splice L ((i + m) * 2) X1).length = c * 2 := by rw [splice_len _ _ _ (by rw [hX1l, hL]; omega), hL]
  have hsl2 : (splice (splice L ((i + m) * 2) X1) (i * 2) X2).length = c * 2 := by rw [splice_len _ _ _ (by rw [hX2l, hsl1]; omega), hsl1]
  have hflen : (flat2 .i64 (rs.take i ++ vs ++ rs.drop i)).length = (n + m) * 2 := by rw [flat2_len]; simp; omega
  have hw1 : IntKind.i64.wrap ((i : Int) + (m : Int)) = (i : Int) + (m : Int) := by rw [IntKind.wrap_i64]; omega
  have hb1 : (0 : Int) ≤ (i : Int) + (m : Int) := by omega
  have htn : ((i : Int) + (m : Int)).toNat = i + m := by omega
  have hb2 : ¬ (c = i + m) := by omega
  have hb3 : (i : Int) ≤ (n : Int) + (m : Int) := by omega
  have hb4 : ¬ (c = i) := by omega
  have hb5 : (i : Int) + (m : Int) ≤ (n : Int) + (m : Int) := by omega
  have HX1 := Lib.hid hX1
  have HX2 := Lib.hid hX2
  have Hfin := Lib.hid hfin
  clear hX1 hX2 hfin hT hTV hown hV
  simp only [maxLen] at hcm
  go_enter Tryz.func85, Tryz.ntmps85
  go_wp2_with (simp only [hov])
  go_region_law (refine step_copy_sz rfl _ _ 22 22 rfl 72 2 Tryz.underlying22 szRg (by decide) (some ⟨g, (i + m) * 2, none⟩) (some ⟨g, i * 2, none⟩) (n + m - (i + m)) (c - (i + m)) (n + m - i) (c - i) (by simp [Act.eval, Act.put]) (by simp [Act.eval, Act.put]) g ((i + m) * 2) L 72 hg X1 (by rw [hmin1]; exact hX1l) (fun _ => ⟨rfl, _, rfl, hX1c⟩) (by rw [hX1l, hL]; omega) hX1o B w (below_drew hB0) hB ?_; intro w1 HG1 hB1 hgr1)
  have hgV1 : w1.heap[bV]? = some (.cells LV.toArray 72 (0, 0)) := (hgr1.block bV (Array.getElem?_eq_some_iff.1 hgV).1 (fun e => hne (Option.some.inj e))).trans hgV
  obtain ⟨S1, hS1⟩ : ∃ S1, S1 = splice L ((i + m) * 2) X1 := ⟨_, rfl⟩
  rw [← hS1] at HG1 Hfin hsl1 hsl2
  clear hS1 hgr1
  obtain ⟨w2, hrun2, hG2, hB2, _⟩ := copy_any (P := Tryz.prog) w1 22 22 3 72 2 Tryz.underlying22 szRg (by decide) (some ⟨g, i * 2, none⟩) (some ⟨bV, 0, none⟩) (n + m - i) (c - i) m cV g (i * 2) S1 72 HG1.out X2 (by rw [hmin2]; exact hX2l) (fun _ => ⟨rfl, _, rfl, fun j v hj => heap_cell hgV1 _ _ _ (hX2c j v hj)⟩) (by rw [hX2l, hsl1]; omega) hX2o B w hB1 hB
  have HG2 := Lib.hid hG2
  clear hG2
  go_wp2_with fail
  go_ret
  exact ⟨rfl, own_make _ HG2.out hB hroom (by simp only [maxLen]; exact hcm) hsl2 Hfin.out hflen, hB2⟩
theorem splice_dn {α : Type} (L X1 X2 : List α) (a b : Nat) (h2 : X2.length = b) (hl : a + b + X1.length ≤ L.length) : (splice (splice L a X2) (a + b) X1).take (a + b + X1.length) = L.take a ++ X2 ++ X1 := by
  have e1 : splice L a X2 = L.take a ++ (X2 ++ L.drop (a + b)) := by unfold splice; rw [h2]
  rw [e1]
  have e2 : (L.take a ++ (X2 ++ L.drop (a + b))).take (a + b) = L.take a ++ X2 := by
    rw [← List.append_assoc, List.take_append_of_le_length (by simp; omega)]
    exact List.take_of_length_le (by simp; omega)
  unfold splice
  rw [e2, ← List.append_assoc, List.take_append_of_le_length (by simp; omega)]
  exact List.take_of_length_le (by simp; omega)
set_option maxHeartbeats 2000000 in
theorem Insert_end (v : Value) (n : Nat) (V : Option Addr) (m cV B : Nat) (rs vs : List (Int × Int)) (w : World) (hown : w.ownsRow B 72 2 v n (flat2 .i64 rs)) (hV : Rd w 2 V m (flat2 .i64 vs)) (hm : 0 < m) (hm2 : m ≤ 2) (hn : n ≤ 1000) (hB : B ≤ w.heap.size) :
    Calls Tryz.prog 85 #[v, .int .i64 n, .slice V m cV] w fun e w' => ∃ v', e = .returned v' ∧ w'.ownsRow B 72 2 v' (n + m) (flat2 .i64 (rs ++ vs)) ∧ Below B w w' := by
  obtain ⟨i0, hi, hz0, hz1, hz2⟩ := info_parts infoRg
  have hz : ¬ ((m : Int) = 0) := by omega
  rw [flat2_append]
  rcases hown.2 with ⟨h0, h1⟩ | ⟨g, c, cur, h0, hBg, _, h1, h2, _⟩
  · subst h0 h1
    go_enter Tryz.func85, Tryz.ntmps85
    go_wp2_with (at_builtin; refine wpList_append_rd _ rfl _ _ 22 rfl B 72 i0 (.agg #[.int .i64 0, .int .i64 0]) 2 16 Tryz.underlying22 hi hz0 hz1 hz2 rfl (by decide) _ _ _ rfl hown _ m cV (flat2 .i64 vs) rfl hV (oneCells_flat2 _ _) (by simp only [maxLen]; omega) (by omega) hB ?_; intro v' w1 hown' hgrow)
    go_ret
    rw [Nat.zero_add] at hown' ⊢
    exact ⟨_, rfl, hown', (Below.refl _ w).grown hgrow hB (fun q e => (hown.lt q e).1)⟩
  · subst h0
    simp only [maxLen] at h2
    go_enter Tryz.func85, Tryz.ntmps85
    go_wp2_with (at_builtin; refine wpList_append_rd _ rfl _ _ 22 rfl B 72 i0 (.agg #[.int .i64 0, .int .i64 0]) 2 16 Tryz.underlying22 hi hz0 hz1 hz2 rfl (by decide) _ _ _ rfl hown _ m cV (flat2 .i64 vs) rfl hV (oneCells_flat2 _ _) (by simp only [maxLen]; omega) (by omega) hB ?_; intro v' w1 hown' hgrow)
    all_goals
      go_ret
      exact ⟨_, rfl, hown', (Below.refl _ w).grown hgrow hB (fun q e => (hown.lt q e).1)⟩
set_option maxHeartbeats 2000000 in
theorem Insert_grow (g n c bV m cV i B BV : Nat) (rs vs : List (Int × Int)) (w : World) (hown : w.ownsRow B 72 2 (.slice (some ⟨g, 0, none⟩) n c) n (flat2 .i64 rs)) (hV : w.ownsRow BV 72 2 (.slice (some ⟨bV, 0, none⟩) m cV) m (flat2 .i64 vs)) (hi : i < n) (hm : 0 < m) (hm2 : m ≤ 2) (hroom : c < n + m) (hn : n ≤ 1000) (hBs : B ≤ w.heap.size) :
    Calls Tryz.prog 85 #[.slice (some ⟨g, 0, none⟩) n c, .int .i64 i, .slice (some ⟨bV, 0, none⟩) m cV] w fun e w' => ∃ v', e = .returned v' ∧ w'.ownsRow B 72 2 v' (n + m) (flat2 .i64 (rs.take i ++ vs ++ rs.drop i)) ∧ Below B w w' := by
  obtain ⟨i0, hin, hz0, hz1, hz2⟩ := info_parts infoRg
  obtain ⟨L, hg, hB, hnc, hcm, hL, hT⟩ := own_parts hown
  obtain ⟨LV, hgV, _, hmc, _, hLV, hTV⟩ := own_parts hV
  have hlen : rs.length = n := by have := hown.1; rw [flat2_len] at this; omega
  have hlenV : vs.length = m := by have := hV.1; rw [flat2_len] at this; omega
  obtain ⟨X1, hX1⟩ : ∃ X1, X1 = flat2 .i64 (rs.drop i) := ⟨_, rfl⟩
  have hX1l : X1.length = (n - i) * 2 := by rw [hX1, flat2_len, List.length_drop, hlen]
  have hX1c : ∀ j v, X1[j]? = some v → L[i * 2 + j]? = some v := fun j v hj => by
    rw [hX1, flat2_drop, ← hT, List.getElem?_drop, List.getElem?_take] at hj
    split at hj
    · exact hj
    · cases hj
  have hX1o : ∀ v ∈ X1, v.oneCell' = true := by rw [hX1]; exact oneCells_flat2 _ _
  obtain ⟨X2, hX2⟩ : ∃ X2, X2 = flat2 .i64 vs := ⟨_, rfl⟩
  have hX2l : X2.length = m * 2 := by rw [hX2, flat2_len, hlenV]
  have hX2c : ∀ j v, X2[j]? = some v → LV[0 + j]? = some v := fun j v hj => by
    rw [hX2, ← hTV, List.getElem?_take] at hj
    split at hj
    · simpa using hj
    · cases hj
  have hX2o : ∀ v ∈ X2, v.oneCell' = true := by rw [hX2]; exact oneCells_flat2 _ _
  obtain ⟨N, hN⟩ : ∃ N : Nat, (n : Int) + (m : Int) - (i : Int) = (N : Int) := ⟨n + m - i, by omega⟩
  have hNn : i + N = n + m := by omega
  obtain ⟨w1, cap, L1, hrun, hG1, hL1, hT1, hcap, hcapm, hgr1⟩ := append_zeros_any (P := Tryz.prog) w 22 3 22 72 i0 (.agg #[.int .i64 0, .int .i64 0]) 2 16 .i64 .i64 Tryz.underlying22 Tryz.underlying3 hin hz0 hz1 hz2 rfl (by decide) g i c L hg (by rw [hL]; omega) N (by omega) (by omega) (by omega) (by omega)
  rw [hNn] at hcap hrun
  have hB1 : Below B w w1 := (Below.refl _ w).grown hgr1 hBs (fun q e => by cases e)
  have hgV1 : w1.heap[bV]? = some (.cells LV.toArray 72 (0, 0)) := (hgr1.block bV (Array.getElem?_eq_some_iff.1 hgV).1 (fun e => by cases e)).trans hgV
  have hg1 : w1.heap[g]? = some (.cells L.toArray 72 (0, 0)) := (hgr1.block g (Array.getElem?_eq_some_iff.1 hg).1 (fun e => by cases e)).trans hg
  have hgl := (Array.getElem?_eq_some_iff.1 hg).1
  have hgVl := (Array.getElem?_eq_some_iff.1 hgV).1
  obtain ⟨gN, hgN⟩ : ∃ gN, gN = w.heap.size := ⟨_, rfl⟩
  rw [← hgN] at hrun hG1 hgl hgVl hBs
  have hmin2 : Nat.min m (n + m - i) = m := by show min m (n + m - i) = m; omega
  have hmin1 : Nat.min (n - i) (n + m - (i + m)) = n - i := by show min (n - i) (n + m - (i + m)) = n - i; omega
  obtain ⟨w2, hrun2, hG2, hB2, hgr2⟩ := copy_any (P := Tryz.prog) w1 22 22 3 72 2 Tryz.underlying22 szRg (by decide) (some ⟨gN, i * 2, none⟩) (some ⟨bV, 0, none⟩) (n + m - i) (cap - i) m cV gN (i * 2) L1 72 hG1 X2 (by rw [hmin2]; exact hX2l) (fun _ => ⟨rfl, _, rfl, fun j v hj => heap_cell hgV1 _ _ _ (hX2c j v hj)⟩) (by rw [hX2l, hL1]; omega) hX2o B w hB1 hBs
  have hg2 : w2.heap[g]? = some (.cells L.toArray 72 (0, 0)) := (hgr2.block g (Array.getElem?_eq_some_iff.1 hg1).1 (fun e => by injection e with e; omega)).trans hg1
  obtain ⟨S1, hS1⟩ : ∃ S1, S1 = splice L1 (i * 2) X2 := ⟨_, rfl⟩
  have hsl1 : S1.length = cap * 2 := by rw [hS1, splice_len _ _ _ (by rw [hX2l, hL1]; omega), hL1]
  have hsl2 : (splice S1 ((i + m) * 2) X1).length = cap * 2 := by rw [splice_len _ _ _ (by rw [hX1l, hsl1]; omega), hsl1]
  have hfin : (splice S1 ((i + m) * 2) X1).take ((n + m) * 2) = flat2 .i64 (rs.take i ++ vs ++ rs.drop i) := by
    rw [flat2_append, flat2_append, ← hX1, ← hX2, flat2_take, ← hT, List.take_take, Nat.min_eq_left (by omega), ← hT1]
    have := splice_dn L1 X1 X2 (i * 2) (m * 2) hX2l (by rw [hX1l, hL1]; omega)
    rw [hX1l] at this
    rw [← this, hS1, show (i + m) * 2 = i * 2 + m * 2 by omega, show i * 2 + m * 2 + (n - i) * 2 = (n + m) * 2 by omega]
  have hflen : (flat2 .i64 (rs.take i ++ vs ++ rs.drop i)).length = (n + m) * 2 := by rw [flat2_len]; simp; omega
  rw [← hS1] at hG2
  have HG2 := Lib.hid hG2
  have Hfin := Lib.hid hfin
  clear hX1 hX2 hfin hT hTV hown hV hS1 hG1 hG2 hT1 hgN
  have hw1 : IntKind.i64.wrap ((i : Int) + (m : Int)) = (i : Int) + (m : Int) := by rw [IntKind.wrap_i64]; omega
  have hb1 : (0 : Int) ≤ (i : Int) + (m : Int) := by omega
  have htn : ((i : Int) + (m : Int)).toNat = i + m := by omega
  have hb2 : ¬ (cap = i + m) := by omega
  have hb4 : ¬ (c = i) := by omega
  have hb6 : ¬ (cap = i) := by omega
  have hb5 : (i : Int) + (m : Int) ≤ (n : Int) + (m : Int) := by omega
  have hb3 : (i : Int) ≤ (n : Int) + (m : Int) := by omega
  have hb8 : i ≤ n := by omega
  clear hNn
  have hb7 : (c : Int) < (n : Int) + (m : Int) := by omega
  have hz1 : ¬ ((m : Int) = 0) := by omega
  have hz2 : ¬ ((i : Int) = (n : Int)) := by omega
  simp only [maxLen] at hcm hcapm
  go_enter Tryz.func85, Tryz.ntmps85
  go_wp2_with (at_builtin; refine Lib.wpList_append_run _ rfl _ _ _ _ rfl _ _ rfl rfl _ _ hrun ?_)
  go_region_law (refine step_copy_sz rfl _ _ 22 22 rfl 72 2 Tryz.underlying22 szRg (by decide) (some ⟨gN, (i + m) * 2, none⟩) (some ⟨g, i * 2, none⟩) (n + m - (i + m)) (cap - (i + m)) (n - i) (c - i) (by simp [Act.eval, Act.put]) (by simp [Act.eval, Act.put]) gN ((i + m) * 2) S1 72 HG2.out X1 (by rw [hmin1]; exact hX1l) (fun _ => ⟨rfl, _, rfl, fun j v hj => heap_cell (w := w2) hg2 _ _ _ (hX1c j v hj)⟩) (by rw [hX1l, hsl1]; omega) hX1o B w (below_drew hB2) hBs ?_; intro w3 HG3 hB3 hgr3)
  go_wp2_with fail
  go_ret
  exact ⟨_, rfl, own_make _ HG3.out hBs hcap (by simp only [maxLen]; exact hcapm) hsl2 Hfin.out hflen, hB3⟩
end Go.Proofs.YtpkgfkhaiifooaaGreatDoor
