/- slices.Replace on ranges. -/
import Derived.Test.YtpkgfkhaiifooaaGreatDoorSl2
namespace Go.Proofs.YtpkgfkhaiifooaaGreatDoor
open Go Go.Proofs Go.RowKit
set_option linter.unusedSimpArgs false
set_option linter.unusedVariables false
set_option maxRecDepth 100000

theorem Insert_any (v : Value) (n i bV m cV B BV : Nat) (rs vs : List (Int × Int)) (w : World) (hown : w.ownsRow B 72 2 v n (flat2 .i64 rs)) (hV : w.ownsRow BV 72 2 (.slice (some ⟨bV, 0, none⟩) m cV) m (flat2 .i64 vs)) (hne : v.ownBlock ≠ some bV) (hi : i ≤ n) (hm : 0 < m) (hm2 : m ≤ 2) (hn : n ≤ 1000) (hBs : B ≤ w.heap.size) :
    Calls Tryz.prog 85 #[v, .int .i64 i, .slice (some ⟨bV, 0, none⟩) m cV] w fun e w' => ∃ v', e = .returned v' ∧ w'.ownsRow B 72 2 v' (n + m) (flat2 .i64 (rs.take i ++ vs ++ rs.drop i)) ∧ Below B w w' := by
  have hlen : rs.length = n := by have := hown.1; rw [flat2_len] at this; omega
  by_cases h1 : i = n
  · subst h1
    rw [List.take_of_length_le (by omega), List.drop_eq_nil_of_le (by omega), List.append_nil]
    exact Insert_end v i _ m cV B rs vs w hown (Rd.own hV) hm hm2 hn hBs
  · obtain ⟨g, c, rfl, hg1, hg2⟩ := hown.form (by omega)
    have hne' : bV ≠ g := fun e => hne (by rw [e]; rfl)
    by_cases h2 : n + m ≤ c
    · exact (Insert_room g n c bV m cV i B BV rs vs w hown hV hne' (by omega) hm hm2 h2 hn).mono fun e w' ⟨he, h3, h4⟩ => ⟨_, he, h3, h4⟩
    · exact Insert_grow g n c bV m cV i B BV rs vs w hown hV (by omega) hm hm2 (by omega) hn hBs
theorem Replace_ins (v : Value) (n i bV m cV B BV : Nat) (rs vs : List (Int × Int)) (w : World) (hown : w.ownsRow B 72 2 v n (flat2 .i64 rs)) (hV : w.ownsRow BV 72 2 (.slice (some ⟨bV, 0, none⟩) m cV) m (flat2 .i64 vs)) (hne : v.ownBlock ≠ some bV) (hi : i ≤ n) (hm : 0 < m) (hm2 : m ≤ 2) (hn : n ≤ 1000) (hBs : B ≤ w.heap.size) :
    Calls Tryz.prog 51 #[v, .int .i64 i, .int .i64 i, .slice (some ⟨bV, 0, none⟩) m cV] w fun e w' => ∃ v', e = .returned v' ∧ w'.ownsRow B 72 2 v' (n + m) (flat2 .i64 (rs.take i ++ vs ++ rs.drop i)) ∧ Below B w w' := by
  have HI := Lib.hid (Insert_any v n i bV m cV B BV rs vs w hown hV hne hi hm hm2 hn hBs)
  obtain ⟨Z, hZ⟩ : ∃ Z, flat2 .i64 (rs.take i ++ vs ++ rs.drop i) = Z := ⟨_, rfl⟩
  rw [hZ] at HI ⊢
  clear hZ
  rcases hown.2 with ⟨h0, h1⟩ | ⟨g, c, cur, h0, hBg, _, h1, h2, _⟩
  · subst h0 h1
    obtain rfl : i = 0 := by omega
    go_enter Tryz.func51, Tryz.ntmps51
    go_wp2_with (go_at_call 85; refine HI.out.mono ?_; rintro e w1 ⟨v', rfl, ho, hb⟩)
    go_ret
    exact ⟨_, rfl, ho, hb⟩
  · subst h0
    simp only [maxLen] at h2
    go_enter Tryz.func51, Tryz.ntmps51
    go_wp2_with (go_at_call 85; refine HI.out.mono ?_; rintro e w1 ⟨v', rfl, ho, hb⟩)
    all_goals
      go_ret
      exact ⟨_, rfl, ho, hb⟩
set_option maxHeartbeats 4000000 in
theorem Replace_less (g n c i j : Nat) (V : Option Addr) (m cV B BV : Nat) (rs vs : List (Int × Int)) (w : World) (hown : w.ownsRow B 72 2 (.slice (some ⟨g, 0, none⟩) n c) n (flat2 .i64 rs)) (hV : w.ownsRow BV 72 2 (.slice V m cV) m (flat2 .i64 vs)) (hne : ∀ b, V = some ⟨b, 0, none⟩ → b ≠ g) (hij : i < j) (hm2 : m ≤ 2) (hn : n ≤ 1000) (hBs : B ≤ w.heap.size) (hj : j < n) (hle : i + m ≤ j) :
    Calls Tryz.prog 51 #[.slice (some ⟨g, 0, none⟩) n c, .int .i64 i, .int .i64 j, .slice V m cV] w fun e w' => ∃ v', e = .returned v' ∧ w'.ownsRow B 72 2 v' (i + m + (n - j)) (flat2 .i64 (rs.take i ++ vs ++ rs.drop j)) ∧ Below B w w' := by
  obtain ⟨i0, hin, hz0, hz1, hz2⟩ := info_parts infoRg
  obtain ⟨L, hg, hB, hnc, hcm, hL, hT⟩ := own_parts hown
  have hlen : rs.length = n := by have := hown.1; rw [flat2_len] at this; omega
  have hlenV : vs.length = m := by have := hV.1; rw [flat2_len] at this; omega
  have hB0 : Below B w w := Below.refl _ _
  obtain ⟨X1, hX1⟩ : ∃ X1, X1 = flat2 .i64 (rs.drop j) := ⟨_, rfl⟩
  have hX1l : X1.length = (n - j) * 2 := by rw [hX1, flat2_len, List.length_drop, hlen]
  have hX1c : ∀ q v, X1[q]? = some v → L[j * 2 + q]? = some v := fun q v hj => by
    rw [hX1, flat2_drop, ← hT, List.getElem?_drop, List.getElem?_take] at hj
    split at hj
    · exact hj
    · cases hj
  have hX1o : ∀ v ∈ X1, v.oneCell' = true := by rw [hX1]; exact oneCells_flat2 _ _
  obtain ⟨X2, hX2⟩ : ∃ X2, X2 = flat2 .i64 vs := ⟨_, rfl⟩
  have hX2l : X2.length = m * 2 := by rw [hX2, flat2_len, hlenV]
  have hX2o : ∀ v ∈ X2, v.oneCell' = true := by rw [hX2]; exact oneCells_flat2 _ _
  have hgl := (Array.getElem?_eq_some_iff.1 hg).1
  -- the source, wherever the first row lies behind a change of g alone
  have hsrc : ∀ w' : World, (∀ b, b ≠ g → b < w.heap.size → w'.heap[b]? = w.heap[b]?) → 0 < X2.length → ∃ ad, V = some ad ∧ ∀ q v, X2[q]? = some v → w'.cell? (ad.add q) = some v := fun w' hw hp => by
    obtain ⟨bV, cV', hv, _, hbl⟩ := hV.form (by omega)
    have hv1 : V = some ⟨bV, 0, none⟩ := by injection hv
    subst hv1
    obtain ⟨LV, hgV, _, _, _, _, hTV⟩ := own_parts hV
    refine ⟨_, rfl, fun q v hq => heap_cell ((hw bV (hne bV rfl) hbl).trans hgV) 0 q v ?_⟩
    rw [hX2, ← hTV, List.getElem?_take] at hq
    split at hq
    · simpa using hq
    · cases hq
  have HX1 := Lib.hid hX1
  have HX2 := Lib.hid hX2
  have hflen : (flat2 .i64 (rs.take i ++ vs ++ rs.drop j)).length = (i + m + (n - j)) * 2 := by rw [flat2_len]; simp; omega
  obtain ⟨Z, hZ⟩ : ∃ Z, Z = flat2 .i64 (rs.take i ++ vs ++ rs.drop j) := ⟨_, rfl⟩
  rw [← hZ] at hflen ⊢
  have HZ := Lib.hid hZ
  clear hZ
  have hLi : i < n → L.take (i * 2) = flat2 .i64 (rs.take i) := fun h => by rw [flat2_take, ← hT, List.take_take, Nat.min_eq_left (by omega)]
  have HLi := Lib.hid hLi
  have Hsrc := Lib.hid hsrc
  clear hX1 hX2 hT hLi hsrc
  have hij' : ¬ ((i : Int) = (j : Int)) := by omega
  simp only [maxLen] at hcm
  obtain ⟨T, hTd⟩ : ∃ T, i + m + (n - j) = T := ⟨_, rfl⟩
  have hTj : T - (i + m) = n - j := by omega
  have hTI : (i : Int) + (m : Int) + ((n - j : Nat) : Int) = (T : Int) := by omega
  have hTn : T ≤ n := by omega
  have hmin2 : Nat.min m (T - i) = m := by show min m (T - i) = m; omega
  have hmin1 : Nat.min (n - j) (n - j) = n - j := Nat.min_self _
  rw [hTd] at hflen ⊢
  have hw1 : IntKind.i64.wrap ((i : Int) + (m : Int)) = (i : Int) + (m : Int) := by rw [IntKind.wrap_i64]; omega
  have hb1 : (0 : Int) ≤ (i : Int) + (m : Int) := by omega
  have htn : ((i : Int) + (m : Int)).toNat = i + m := by omega
  have hb4 : ¬ (c = j) := by omega
  have hb5 : (i : Int) + (m : Int) ≤ (T : Int) := by omega
  have hb8 : j ≤ n := by omega
  have hb9 : i ≤ T := by omega
  have hbB : i ≤ j := by omega
  have hbC : ¬ ((j : Int) = (n : Int)) := by omega
  have hb2 : ¬ (c = i + m) := by omega
  have hb6 : ¬ (c = i) := by omega
  have hb7 : (i : Int) + (m : Int) ≤ (j : Int) := by omega
  have hbA : T ≤ c := by omega
  have hbD : ¬ (c : Int) < (T : Int) := by omega
  go_enter Tryz.func51, Tryz.ntmps51
  go_wp2_with fail
  go_quiet (fail)
  obtain ⟨w1, hrunw1, hGw1, hBw1, hgrw1⟩ := copy_any (P := Tryz.prog) (w.drewN nq) 22 22 3 72 2 Tryz.underlying22 szRg (by decide) (some ⟨g, i * 2, none⟩) V (T - i) (c - i) m cV g (i * 2) L 72 hg X2 (by rw [hmin2]; exact hX2l) (fun hp => ⟨rfl, Hsrc.out (w.drewN nq) (fun _ _ _ => rfl) hp⟩) (by rw [hX2l, hL]; omega) hX2o B w (below_drawn hB0 nq) hB
  obtain ⟨S1, hS1⟩ : ∃ S1, S1 = splice L (i * 2) X2 := ⟨_, rfl⟩
  have hsl1 : S1.length = c * 2 := by rw [hS1, splice_len _ _ _ (by rw [hX2l, hL]; omega), hL]
  have hX1s : ∀ q v, X1[q]? = some v → S1[j * 2 + q]? = some v := fun q v hq => by
    have := hX1c q v hq
    rw [hS1]
    unfold splice
    rw [← List.append_assoc, List.getElem?_append_right (by simp; omega), List.getElem?_drop]
    rw [← this]
    congr 1
    simp
    omega
  have hsl2 : (splice S1 ((i + m) * 2) X1).length = c * 2 := by rw [splice_len _ _ _ (by rw [hX1l, hsl1]; omega), hsl1]
  have hfin : (splice S1 ((i + m) * 2) X1).take (T * 2) = Z := by
    rw [HZ.out, flat2_append, flat2_append, ← HX1.out, ← HX2.out, ← HLi.out (by omega)]
    have := splice_dn L X1 X2 (i * 2) (m * 2) hX2l (by rw [hX1l, hL]; omega)
    rw [hX1l] at this
    rw [← this, hS1, show (i + m) * 2 = i * 2 + m * 2 by omega, show i * 2 + m * 2 + (n - j) * 2 = T * 2 by omega]
  rw [← hS1] at hGw1
  have HG1 := Lib.hid hGw1
  have Hfin := Lib.hid hfin
  clear hfin hS1 hGw1 hgrw1
  go_wp2_with fail
  go_region_law (refine step_copy_sz rfl _ _ 22 22 rfl 72 2 Tryz.underlying22 szRg (by decide) (some ⟨g, (i + m) * 2, none⟩) (some ⟨g, j * 2, none⟩) (n - j) (c - (i + m)) (n - j) (c - j) (by simp [Act.eval, Act.put]) (by simp [Act.eval, Act.put]) g ((i + m) * 2) S1 72 HG1.out X1 (by rw [hmin1]; exact hX1l) (fun _ => ⟨rfl, _, rfl, fun q v hq => heap_cell (w := w1) HG1.out _ _ _ (hX1s q v hq)⟩) (by rw [hX1l, hsl1]; omega) hX1o B w (below_drew hBw1) hB ?_; intro w2 HGw2 hBw2 hgrw2)
  obtain ⟨S2, hS2⟩ : ∃ S2, S2 = splice S1 ((i + m) * 2) X1 := ⟨_, rfl⟩
  rw [← hS2] at HGw2 Hfin hsl2
  obtain ⟨w3, cs3, hrun3, hcl3, hG3, hB3, _⟩ := clear_any (P := Tryz.prog) w2 22 0 72 i0 (.agg #[.int .i64 0, .int .i64 0]) 2 Tryz.underlying22 hin hz0 rfl (by intro u hu; simp [Value.cells] at hu; rcases hu with rfl | rfl <;> rfl) (by decide) (if c = T then some ⟨g, 0, none⟩ else some ⟨g, T * 2, none⟩) (n - T) (c - T) g (T * 2) S2 72 HGw2.out (fun h => if_neg (by omega)) (by rw [hsl2]; omega) B w hBw2 hB
  have hfin3 : (splice S2 (T * 2) cs3).take (T * 2) = Z := by
    unfold splice
    rw [List.take_append_of_le_length (by simp; omega), List.take_take, Nat.min_self]
    exact Hfin.out
  have hsl3 : (splice S2 (T * 2) cs3).length = c * 2 := by rw [splice_len _ _ _ (by rw [hcl3, hsl2]; omega), hsl2]
  have HG3 := Lib.hid hG3
  have Hfin3 := Lib.hid hfin3
  clear hG3 hfin3 hS2
  go_wp2_with fail
  all_goals
    go_ret
    first
      | exact ⟨_, rfl, own_make _ HG3.out hB hbA (by simp only [maxLen]; exact hcm) hsl3 Hfin3.out hflen, hB3⟩
      | (have hcT : c = T := by assumption
         subst hcT
         exact ⟨_, rfl, own_make _ HG3.out hB hbA (by simp only [maxLen]; exact hcm) hsl3 Hfin3.out hflen, hB3⟩)
set_option maxHeartbeats 4000000 in
theorem Replace_more (g n c i j : Nat) (V : Option Addr) (m cV B BV : Nat) (rs vs : List (Int × Int)) (w : World) (hown : w.ownsRow B 72 2 (.slice (some ⟨g, 0, none⟩) n c) n (flat2 .i64 rs)) (hV : w.ownsRow BV 72 2 (.slice V m cV) m (flat2 .i64 vs)) (hne : ∀ b, V = some ⟨b, 0, none⟩ → b ≠ g) (hij : i < j) (hm2 : m ≤ 2) (hn : n ≤ 1000) (hBs : B ≤ w.heap.size) (hj : j < n) (hgt : j < i + m) (hroom : i + m + (n - j) ≤ c) :
    Calls Tryz.prog 51 #[.slice (some ⟨g, 0, none⟩) n c, .int .i64 i, .int .i64 j, .slice V m cV] w fun e w' => ∃ v', e = .returned v' ∧ w'.ownsRow B 72 2 v' (i + m + (n - j)) (flat2 .i64 (rs.take i ++ vs ++ rs.drop j)) ∧ Below B w w' := by
  obtain ⟨i0, hin, hz0, hz1, hz2⟩ := info_parts infoRg
  obtain ⟨L, hg, hB, hnc, hcm, hL, hT⟩ := own_parts hown
  have hlen : rs.length = n := by have := hown.1; rw [flat2_len] at this; omega
  have hlenV : vs.length = m := by have := hV.1; rw [flat2_len] at this; omega
  have hB0 : Below B w w := Below.refl _ _
  obtain ⟨X1, hX1⟩ : ∃ X1, X1 = flat2 .i64 (rs.drop j) := ⟨_, rfl⟩
  have hX1l : X1.length = (n - j) * 2 := by rw [hX1, flat2_len, List.length_drop, hlen]
  have hX1c : ∀ q v, X1[q]? = some v → L[j * 2 + q]? = some v := fun q v hj => by
    rw [hX1, flat2_drop, ← hT, List.getElem?_drop, List.getElem?_take] at hj
    split at hj
    · exact hj
    · cases hj
  have hX1o : ∀ v ∈ X1, v.oneCell' = true := by rw [hX1]; exact oneCells_flat2 _ _
  obtain ⟨X2, hX2⟩ : ∃ X2, X2 = flat2 .i64 vs := ⟨_, rfl⟩
  have hX2l : X2.length = m * 2 := by rw [hX2, flat2_len, hlenV]
  have hX2o : ∀ v ∈ X2, v.oneCell' = true := by rw [hX2]; exact oneCells_flat2 _ _
  have hgl := (Array.getElem?_eq_some_iff.1 hg).1
  -- the source, wherever the first row lies behind a change of g alone
  have hsrc : ∀ w' : World, (∀ b, b ≠ g → b < w.heap.size → w'.heap[b]? = w.heap[b]?) → 0 < X2.length → ∃ ad, V = some ad ∧ ∀ q v, X2[q]? = some v → w'.cell? (ad.add q) = some v := fun w' hw hp => by
    obtain ⟨bV, cV', hv, _, hbl⟩ := hV.form (by omega)
    have hv1 : V = some ⟨bV, 0, none⟩ := by injection hv
    subst hv1
    obtain ⟨LV, hgV, _, _, _, _, hTV⟩ := own_parts hV
    refine ⟨_, rfl, fun q v hq => heap_cell ((hw bV (hne bV rfl) hbl).trans hgV) 0 q v ?_⟩
    rw [hX2, ← hTV, List.getElem?_take] at hq
    split at hq
    · simpa using hq
    · cases hq
  have HX1 := Lib.hid hX1
  have HX2 := Lib.hid hX2
  have hflen : (flat2 .i64 (rs.take i ++ vs ++ rs.drop j)).length = (i + m + (n - j)) * 2 := by rw [flat2_len]; simp; omega
  obtain ⟨Z, hZ⟩ : ∃ Z, Z = flat2 .i64 (rs.take i ++ vs ++ rs.drop j) := ⟨_, rfl⟩
  rw [← hZ] at hflen ⊢
  have HZ := Lib.hid hZ
  clear hZ
  have hLi : i < n → L.take (i * 2) = flat2 .i64 (rs.take i) := fun h => by rw [flat2_take, ← hT, List.take_take, Nat.min_eq_left (by omega)]
  have HLi := Lib.hid hLi
  have Hsrc := Lib.hid hsrc
  clear hX1 hX2 hT hLi hsrc
  have hij' : ¬ ((i : Int) = (j : Int)) := by omega
  simp only [maxLen] at hcm
  obtain ⟨bV, cV', hv, _, hbl⟩ := hV.form (by omega)
  have hv1 : V = some ⟨bV, 0, none⟩ := by injection hv
  subst hv1
  obtain ⟨LV, hgV, _, hmV, _, hLV, hTV⟩ := own_parts hV
  have hbg : bV ≠ g := hne bV rfl
  obtain ⟨T, hTd⟩ : ∃ T, i + m + (n - j) = T := ⟨_, rfl⟩
  have hTj : T - (i + m) = n - j := by omega
  have hTI : (i : Int) + (m : Int) + ((n - j : Nat) : Int) = (T : Int) := by omega
  have hmin2 : Nat.min m (T - i) = m := by show min m (T - i) = m; omega
  have hmin1 : Nat.min (n - j) (n - j) = n - j := Nat.min_self _
  rw [hTd] at hflen hroom ⊢
  have hw1 : IntKind.i64.wrap ((i : Int) + (m : Int)) = (i : Int) + (m : Int) := by rw [IntKind.wrap_i64]; omega
  have hb1 : (0 : Int) ≤ (i : Int) + (m : Int) := by omega
  have htn : ((i : Int) + (m : Int)).toNat = i + m := by omega
  have hb4 : ¬ (c = j) := by omega
  have hb5 : (i : Int) + (m : Int) ≤ (T : Int) := by omega
  have hb8 : j ≤ n := by omega
  have hb9 : i ≤ T := by omega
  have hbB : i ≤ j := by omega
  have hbC : ¬ ((j : Int) = (n : Int)) := by omega
  have hb2 : ¬ (c = i + m) := by omega
  have hb6 : ¬ (c = i) := by omega
  have hb7 : ¬ (i : Int) + (m : Int) ≤ (j : Int) := by omega
  have hbD : ¬ (c : Int) < (T : Int) := by omega
  have hov : ∀ (wx : World) la ca, wx.heap = w.heap → (callFunc 86 #[.slice (some ⟨g, (i + m) * 2, none⟩) la ca, .slice (some ⟨bV, 0, none⟩) m cV]).run Tryz.prog wx = .ok (.value (.bool false)) wx := fun wx la ca hx => by
    rw [run_callFunc_extern Tryz.func86 (by kernel_rfl) (by kernel_rfl) (by kernel_rfl) (e := Extern.SlicesOverlaps.overlaps #[22, 22] #[4]) (by kernel_rfl),
      Lib.run_overlaps_apart wx 22 4 72 Tryz.underlying22 2 sizRg ⟨g, (i + m) * 2, none⟩ ⟨bV, 0, none⟩ la ca m cV (fun e => hbg e.symm) _ _ _ _ (heap_shape (by rw [hx]; exact hg)) (heap_shape (by rw [hx]; exact hgV)) (by omega) (heap_frozen (by rw [hx]; exact hg) _) (heap_frozen (by rw [hx]; exact hg) _)]
    rfl
  go_enter Tryz.func51, Tryz.ntmps51
  go_wp2_with fail
  go_quiet (fail)
  have hov1 := fun la ca => hov (w.drewN nq) la ca rfl
  clear hov
  go_wp2_with (simp only [hov1])
  clear hov1
  go_region_law (refine step_copy_sz rfl _ _ 22 22 rfl 72 2 Tryz.underlying22 szRg (by decide) (some ⟨g, (i + m) * 2, none⟩) (some ⟨g, j * 2, none⟩) (n - j) (c - (i + m)) (n - j) (c - j) (by simp [Act.eval, Act.put]) (by simp [Act.eval, Act.put]) g ((i + m) * 2) L 72 hg X1 (by rw [hmin1]; exact hX1l) (fun _ => ⟨rfl, _, rfl, fun q v hq => heap_cell (w := w) hg _ _ _ (hX1c q v hq)⟩) (by rw [hX1l, hL]; omega) hX1o B w (below_drew (below_drawn hB0 nq)) hB ?_; intro w1 HGw1 hBw1 hgrw1)
  obtain ⟨S1, hS1⟩ : ∃ S1, S1 = splice L ((i + m) * 2) X1 := ⟨_, rfl⟩
  have hsl1 : S1.length = c * 2 := by rw [hS1, splice_len _ _ _ (by rw [hX1l, hL]; omega), hL]
  have hsl2 : (splice S1 (i * 2) X2).length = c * 2 := by rw [splice_len _ _ _ (by rw [hX2l, hsl1]; omega), hsl1]
  have hfin : (splice S1 (i * 2) X2).take (T * 2) = Z := by
    rw [HZ.out, flat2_append, flat2_append, ← HX1.out, ← HX2.out, ← HLi.out (by omega)]
    have := splice_up L X1 X2 (i * 2) (m * 2) hX2l (by rw [hX1l, hL]; omega)
    rw [hX1l] at this
    rw [← this, hS1, show (i + m) * 2 = i * 2 + m * 2 by omega, show i * 2 + m * 2 + (n - j) * 2 = T * 2 by omega]
  rw [← hS1] at HGw1
  have Hfin := Lib.hid hfin
  clear hfin hS1
  obtain ⟨w2, hrunw2, hGw2, hBw2, hgrw2⟩ := copy_any (P := Tryz.prog) w1 22 22 3 72 2 Tryz.underlying22 szRg (by decide) (some ⟨g, i * 2, none⟩) (some ⟨bV, 0, none⟩) (T - i) (c - i) m cV g (i * 2) S1 72 HGw1.out X2 (by rw [hmin2]; exact hX2l) (fun hp => ⟨rfl, Hsrc.out w1 (fun b h1 h2 => hgrw1.block b h2 (fun e => h1 (Option.some.inj e))) hp⟩) (by rw [hX2l, hsl1]; omega) hX2o B w hBw1 hB
  have HG2 := Lib.hid hGw2
  clear hGw2
  go_wp2_with fail
  go_ret
  exact ⟨_, rfl, own_make _ HG2.out hB hroom (by simp only [maxLen]; exact hcm) hsl2 Hfin.out hflen, hBw2⟩
set_option maxHeartbeats 4000000 in
theorem Replace_grow (g n c i j : Nat) (V : Option Addr) (m cV B BV : Nat) (rs vs : List (Int × Int)) (w : World) (hown : w.ownsRow B 72 2 (.slice (some ⟨g, 0, none⟩) n c) n (flat2 .i64 rs)) (hV : w.ownsRow BV 72 2 (.slice V m cV) m (flat2 .i64 vs)) (hne : ∀ b, V = some ⟨b, 0, none⟩ → b ≠ g) (hij : i < j) (hm2 : m ≤ 2) (hn : n ≤ 1000) (hBs : B ≤ w.heap.size) (hj : j < n) (hroom : c < i + m + (n - j)) :
    Calls Tryz.prog 51 #[.slice (some ⟨g, 0, none⟩) n c, .int .i64 i, .int .i64 j, .slice V m cV] w fun e w' => ∃ v', e = .returned v' ∧ w'.ownsRow B 72 2 v' (i + m + (n - j)) (flat2 .i64 (rs.take i ++ vs ++ rs.drop j)) ∧ Below B w w' := by
  obtain ⟨i0, hin, hz0, hz1, hz2⟩ := info_parts infoRg
  obtain ⟨L, hg, hB, hnc, hcm, hL, hT⟩ := own_parts hown
  have hlen : rs.length = n := by have := hown.1; rw [flat2_len] at this; omega
  have hlenV : vs.length = m := by have := hV.1; rw [flat2_len] at this; omega
  have hB0 : Below B w w := Below.refl _ _
  obtain ⟨X1, hX1⟩ : ∃ X1, X1 = flat2 .i64 (rs.drop j) := ⟨_, rfl⟩
  have hX1l : X1.length = (n - j) * 2 := by rw [hX1, flat2_len, List.length_drop, hlen]
  have hX1c : ∀ q v, X1[q]? = some v → L[j * 2 + q]? = some v := fun q v hj => by
    rw [hX1, flat2_drop, ← hT, List.getElem?_drop, List.getElem?_take] at hj
    split at hj
    · exact hj
    · cases hj
  have hX1o : ∀ v ∈ X1, v.oneCell' = true := by rw [hX1]; exact oneCells_flat2 _ _
  obtain ⟨X2, hX2⟩ : ∃ X2, X2 = flat2 .i64 vs := ⟨_, rfl⟩
  have hX2l : X2.length = m * 2 := by rw [hX2, flat2_len, hlenV]
  have hX2o : ∀ v ∈ X2, v.oneCell' = true := by rw [hX2]; exact oneCells_flat2 _ _
  have hgl := (Array.getElem?_eq_some_iff.1 hg).1
  -- the source, wherever the first row lies behind a change of g alone
  have hsrc : ∀ w' : World, (∀ b, b ≠ g → b < w.heap.size → w'.heap[b]? = w.heap[b]?) → 0 < X2.length → ∃ ad, V = some ad ∧ ∀ q v, X2[q]? = some v → w'.cell? (ad.add q) = some v := fun w' hw hp => by
    obtain ⟨bV, cV', hv, _, hbl⟩ := hV.form (by omega)
    have hv1 : V = some ⟨bV, 0, none⟩ := by injection hv
    subst hv1
    obtain ⟨LV, hgV, _, _, _, _, hTV⟩ := own_parts hV
    refine ⟨_, rfl, fun q v hq => heap_cell ((hw bV (hne bV rfl) hbl).trans hgV) 0 q v ?_⟩
    rw [hX2, ← hTV, List.getElem?_take] at hq
    split at hq
    · simpa using hq
    · cases hq
  have HX1 := Lib.hid hX1
  have HX2 := Lib.hid hX2
  have hflen : (flat2 .i64 (rs.take i ++ vs ++ rs.drop j)).length = (i + m + (n - j)) * 2 := by rw [flat2_len]; simp; omega
  obtain ⟨Z, hZ⟩ : ∃ Z, Z = flat2 .i64 (rs.take i ++ vs ++ rs.drop j) := ⟨_, rfl⟩
  rw [← hZ] at hflen ⊢
  have HZ := Lib.hid hZ
  clear hZ
  have hLi : i < n → L.take (i * 2) = flat2 .i64 (rs.take i) := fun h => by rw [flat2_take, ← hT, List.take_take, Nat.min_eq_left (by omega)]
  have HLi := Lib.hid hLi
  have Hsrc := Lib.hid hsrc
  clear hX1 hX2 hT hLi hsrc
  have hij' : ¬ ((i : Int) = (j : Int)) := by omega
  simp only [maxLen] at hcm
  obtain ⟨bV, cV', hv, _, hbl⟩ := hV.form (by omega)
  have hv1 : V = some ⟨bV, 0, none⟩ := by injection hv
  subst hv1
  obtain ⟨LV, hgV, _, hmV, _, hLV, hTV⟩ := own_parts hV
  have hbg : bV ≠ g := hne bV rfl
  obtain ⟨T, hTd⟩ : ∃ T, i + m + (n - j) = T := ⟨_, rfl⟩
  have hTj : T - (i + m) = n - j := by omega
  have hTI : (i : Int) + (m : Int) + ((n - j : Nat) : Int) = (T : Int) := by omega
  obtain ⟨N, hN⟩ : ∃ N : Nat, (T : Int) - (i : Int) = (N : Int) := ⟨T - i, by omega⟩
  have hNn : i + N = T := by omega
  have hmin2 : Nat.min m (T - i) = m := by show min m (T - i) = m; omega
  have hmin1 : Nat.min (n - j) (n - j) = n - j := Nat.min_self _
  rw [hTd] at hflen hroom ⊢
  have hw1 : IntKind.i64.wrap ((i : Int) + (m : Int)) = (i : Int) + (m : Int) := by rw [IntKind.wrap_i64]; omega
  have hb1 : (0 : Int) ≤ (i : Int) + (m : Int) := by omega
  have htn : ((i : Int) + (m : Int)).toNat = i + m := by omega
  have hb4 : ¬ (c = j) := by omega
  have hb5 : (i : Int) + (m : Int) ≤ (T : Int) := by omega
  have hb8 : j ≤ n := by omega
  have hb9 : i ≤ T := by omega
  have hbB : i ≤ j := by omega
  have hbC : ¬ ((j : Int) = (n : Int)) := by omega
  have hbD : (c : Int) < (T : Int) := by omega
  go_enter Tryz.func51, Tryz.ntmps51
  go_wp2_with fail
  go_quiet (fail)
  obtain ⟨w1, cap, L1, hrun, hG1, hL1, hT1, hcap, hcapm, hgr1⟩ := append_zeros_any (P := Tryz.prog) (w.drewN nq) 22 3 22 72 i0 (.agg #[.int .i64 0, .int .i64 0]) 2 16 .i64 .i64 Tryz.underlying22 Tryz.underlying3 hin hz0 hz1 hz2 rfl (by decide) g i c L hg (by rw [hL]; omega) N (by omega) (by omega) (by omega) (by omega)
  rw [hNn] at hcap hrun
  have hB1 : Below B w w1 := (below_drawn hB0 nq).grown hgr1 hBs (fun q e => by cases e)
  have hg1 : w1.heap[g]? = some (.cells L.toArray 72 (0, 0)) := (hgr1.block g hgl (fun e => by cases e)).trans hg
  obtain ⟨gN, hgN⟩ : ∃ gN, gN = (w.drewN nq).heap.size := ⟨_, rfl⟩
  have hgNw : gN = w.heap.size := hgN
  rw [← hgN] at hrun hG1
  have hgg : g < gN := by omega
  have hBN : B ≤ gN := by omega
  obtain ⟨w2, hrunw2, hGw2, hBw2, hgrw2⟩ := copy_any (P := Tryz.prog) w1 22 22 3 72 2 Tryz.underlying22 szRg (by decide) (some ⟨gN, i * 2, none⟩) (some ⟨bV, 0, none⟩) (T - i) (cap - i) m cV gN (i * 2) L1 72 hG1 X2 (by rw [hmin2]; exact hX2l) (fun hp => ⟨rfl, Hsrc.out w1 (fun b h1 h2 => hgr1.block b h2 (fun e => by cases e)) hp⟩) (by rw [hX2l, hL1]; omega) hX2o B w hB1 hBN
  have hg2 : w2.heap[g]? = some (.cells L.toArray 72 (0, 0)) := (hgrw2.block g (Array.getElem?_eq_some_iff.1 hg1).1 (fun e => by injection e with e; omega)).trans hg1
  obtain ⟨S1, hS1⟩ : ∃ S1, S1 = splice L1 (i * 2) X2 := ⟨_, rfl⟩
  have hsl1 : S1.length = cap * 2 := by rw [hS1, splice_len _ _ _ (by rw [hX2l, hL1]; omega), hL1]
  have hsl2 : (splice S1 ((i + m) * 2) X1).length = cap * 2 := by rw [splice_len _ _ _ (by rw [hX1l, hsl1]; omega), hsl1]
  have hfin : (splice S1 ((i + m) * 2) X1).take (T * 2) = Z := by
    rw [HZ.out, flat2_append, flat2_append, ← HX1.out, ← HX2.out, ← HLi.out (by omega), ← hT1]
    have := splice_dn L1 X1 X2 (i * 2) (m * 2) hX2l (by rw [hX1l, hL1]; omega)
    rw [hX1l] at this
    rw [← this, hS1, show (i + m) * 2 = i * 2 + m * 2 by omega, show i * 2 + m * 2 + (n - j) * 2 = T * 2 by omega]
  rw [← hS1] at hGw2
  have HG2 := Lib.hid hGw2
  have Hfin := Lib.hid hfin
  clear hfin hS1 hG1 hGw2 hT1 hgN hgNw hNn
  have hb2 : ¬ (cap = i + m) := by omega
  have hb6 : ¬ (cap = i) := by omega
  have hbE : (i : Int) + (m : Int) ≤ (T : Int) := by omega
  simp only [maxLen] at hcapm
  go_wp2_with (at_builtin; refine Lib.wpList_append_run _ rfl _ _ _ _ rfl _ _ rfl rfl _ _ hrun ?_)
  go_region_law (refine step_copy_sz rfl _ _ 22 22 rfl 72 2 Tryz.underlying22 szRg (by decide) (some ⟨gN, (i + m) * 2, none⟩) (some ⟨g, j * 2, none⟩) (n - j) (cap - (i + m)) (n - j) (c - j) (by simp [Act.eval, Act.put]) (by simp [Act.eval, Act.put]) gN ((i + m) * 2) S1 72 HG2.out X1 (by rw [hmin1]; exact hX1l) (fun _ => ⟨rfl, _, rfl, fun q v hq => heap_cell (w := w2) hg2 _ _ _ (hX1c q v hq)⟩) (by rw [hX1l, hsl1]; omega) hX1o B w (below_drew hBw2) hBN ?_; intro w3 HGw3 hBw3 hgrw3)
  go_wp2_with fail
  go_ret
  exact ⟨_, rfl, own_make _ HGw3.out hBN hcap (by simp only [maxLen]; exact hcapm) hsl2 Hfin.out hflen, hBw3⟩
end Go.Proofs.YtpkgfkhaiifooaaGreatDoor
