/- What fits, and which groups have a page, by the program. -/
import Derived.Test.YtfblbkhiaglelaaDoorRgT
import Derived.Test.YtfblbkhiaglelaaDoorRd4
namespace Go.Proofs.YtfblbkhiaglelaaDoor
open Go Go.Proofs Go.RowKit
set_option linter.unusedSimpArgs false
set_option linter.unusedVariables false
set_option maxRecDepth 100000

/-- The best gap so far: its page and its length. -/
def fitS (n : Int) (s g : Int × Int) : Int × Int := if n ≤ g.2 - g.1 + 1 ∧ g.2 - g.1 + 1 < s.2 then (g.1, g.2 - g.1 + 1) else s
def fitK (G : List (Int × Int)) (n : Int) : Nat → Int × Int
  | 0 => (0, 65)
  | k + 1 => fitS n (fitK G n k) (G.getD k (0, 0))
def fitR (rs : List (Int × Int)) (n : Int) : Int × Int :=
  if (gapR rs).2 ≠ 0 then (0, (gapR rs).2) else if n < 1 ∨ 64 < n then (0, 2) else if 64 < (fitK (gapR rs).1 n (gapR rs).1.length).2 then (0, 5) else ((fitK (gapR rs).1 n (gapR rs).1.length).1, 0)
theorem fitK_succ (G : List (Int × Int)) (n : Int) (k : Nat) (x y : Int) (h : G.getD k (0, 0) = (x, y)) : fitK G n (k + 1) = fitS n (fitK G n k) (x, y) := by rw [fitK, h]
theorem gapR_v (rs : List (Int × Int)) : RgV (gapR rs).1 := by
  unfold gapR
  split
  · intro j hj; simp at hj
  · simp only; exact regs_v _
theorem regK_leU (f : Nat → Bool) : ∀ k, (regK f k).length ≤ k
  | 0 => by simp [regK]
  | k + 1 => by
    have h := regK_leU f k
    rw [regK, regA]
    split
    · omega
    · split
      · simp; omega
      · simp; omega
theorem gapR_le (rs : List (Int × Int)) : (gapR rs).1.length ≤ 64 := by
  unfold gapR
  split
  · simp
  · simp only; exact regK_leU _ 64
set_option maxHeartbeats 2000000 in
theorem Fit_any (A : Option Addr) (n c : Nat) (rs : List (Int × Int)) (x : Int) (w : World) (hr : Rd w 2 A n (flat2 .i64 rs)) (hn : n ≤ 1000000) (hx1 : -9223372036854775808 ≤ x) (hx2 : x ≤ 9223372036854775807) :
    Calls Tryd.prog 12 #[.slice A n c, .int .i64 x] w fun e w' => e = .returned (.tuple #[.int .i64 (fitR rs x).1, .int .i64 (fitR rs x).2]) ∧ Below w.heap.size w w' := by
  have HG := Lib.hid (Gaps_any A n c rs w hr hn)
  have hv := gapR_v rs
  have hl := gapR_le rs
  obtain ⟨FR, hFR⟩ : ∃ f, fitR rs x = f := ⟨_, rfl⟩
  have hFR' := hFR
  rw [hFR]
  unfold fitR at hFR'
  obtain ⟨⟨G, E⟩, hGE⟩ : ∃ g, gapR rs = g := ⟨_, rfl⟩
  rw [hGE] at HG hv hl hFR'
  clear hGE hFR
  simp only at HG hv hl hFR'
  unfold RgRes at HG
  by_cases hE : E = 0
  · subst hE
    rw [if_neg (by simp)] at hFR'
    by_cases hx : x < 1 ∨ 64 < x
    · rw [if_pos hx] at hFR'
      have HV := Lib.hid hFR'
      clear hv hl hFR'
      rcases hx with hx | hx
      all_goals
        go_enter Tryd.func12, Tryd.ntmps12
        go_wp2_with (go_at_call 10; refine HG.out.mono ?_; rintro e w1 ⟨v, rfl, hown, hb1⟩)
        go_ret2
        exact ⟨by rw [← HV.out]; rfl, hb1⟩
    · rw [if_neg hx] at hFR'
      have h1 : ¬ x < 1 := by omega
      have h2 : ¬ 64 < x := by omega
      clear hx
      have HV := Lib.hid hv
      have HF : Hid (∀ k, fitK G x (k + 1) = fitS x (fitK G x k) (G.getD k (0, 0))) := Lib.hid (fun _ => rfl)
      have HL := Lib.hid (show ∃ N, G.length = N from ⟨_, rfl⟩)
      obtain ⟨N, hN⟩ := HL.out
      have H0 : Hid (fitK G x 0 = (0, 65)) := Lib.hid rfl
      have HVN : Hid (∀ k, k < N → rgE G k = 0) := Lib.hid (fun k h => HV.out k (by omega))
      rw [hN] at HG hl hFR'
      have HV1 : Hid (64 < (fitK G x N).2 → FR = (0, 5)) := Lib.hid (fun h => by rw [← hFR', if_pos h])
      have HV2 : Hid (¬ 64 < (fitK G x N).2 → FR = ((fitK G x N).1, 0)) := Lib.hid (fun h => by rw [← hFR', if_neg h])
      clear hv hN HL HV hFR'
      go_enter Tryd.func12, Tryd.ntmps12
      go_wp2_with (go_at_call 10; refine HG.out.mono ?_; rintro e w1 ⟨v, rfl, hown, hb1⟩; obtain ⟨A1, c1, rfl, hr1⟩ := own_slice hown)
      clear HG hown hr
      go_loopw [8, 9, 29] (fun p l i wr => ∃ k : Nat, k ≤ N ∧ i = .int .i64 k ∧ p = .int .i64 (fitK G x k).1 ∧ l = .int .i64 (fitK G x k).2 ∧ Below w1.heap.size w1 wr) (fun _ _ i _ => N - (intOf i).toNat)
      case atStart => exact ⟨0, by omega, rfl, rfl, rfl, Below.refl _ _⟩
      case round =>
        obtain ⟨k, hk, rfl, rfl, rfl, hB⟩ := hrel
        by_cases hlt : k < N
        · obtain ⟨b, off, a, d, rfl, hb, hg, c1, c2⟩ := (hr1.below hB (Nat.le_refl _)).pr hlt
          obtain ⟨q1, q2, q3, _⟩ := rgE_one (HVN.out k hlt)
          have HS := Lib.hid (fitK_succ G x k a d hg)
          rw [hg] at q1 q2 q3
          simp only at q1 q2 q3
          generalize fitK G x k = S at *
          obtain ⟨P, L⟩ := S
          simp only
          unfold fitS at HS
          simp only at HS
          clear hg hr1
          by_cases e1 : x ≤ d - a + 1
          · by_cases e2 : d - a + 1 < L
            · rw [if_pos ⟨e1, e2⟩] at HS
              go_wp2_with fail
              go_roundw
              case rel => exact ⟨k + 1, by omega, by go_num, by rw [HS.out], by rw [HS.out], by (repeat' (first | exact Below.refl _ _ | assumption | refine balloc ?_ _ | refine below_drawn ?_ _ | refine below_drew ?_ | refine bnext ?_ hb24 | refine bnext ?_ hb23 | refine bnext ?_ hb22 | refine bnext ?_ hb21 | refine bnext ?_ hb20 | refine bnext ?_ hb19 | refine bnext ?_ hb18 | refine bnext ?_ hb17 | refine bnext ?_ hb16 | refine bnext ?_ hb15 | refine bnext ?_ hb14 | refine bnext ?_ hb13 | refine bnext ?_ hb12 | refine bnext ?_ hb11 | refine bnext ?_ hb10 | refine bnext ?_ hb9 | refine bnext ?_ hb8 | refine bnext ?_ hb7 | refine bnext ?_ hb6 | refine bnext ?_ hb5 | refine bnext ?_ hb4 | refine bnext ?_ hb3 | refine bnext ?_ hb2 | refine bnext ?_ hb1))⟩
              case measure => simp [intOf]; omega
            · rw [if_neg (fun h => e2 h.2)] at HS
              go_wp2_with fail
              go_roundw
              case rel => exact ⟨k + 1, by omega, by go_num, by rw [HS.out], by rw [HS.out], by (repeat' (first | exact Below.refl _ _ | assumption | refine balloc ?_ _ | refine below_drawn ?_ _ | refine below_drew ?_ | refine bnext ?_ hb24 | refine bnext ?_ hb23 | refine bnext ?_ hb22 | refine bnext ?_ hb21 | refine bnext ?_ hb20 | refine bnext ?_ hb19 | refine bnext ?_ hb18 | refine bnext ?_ hb17 | refine bnext ?_ hb16 | refine bnext ?_ hb15 | refine bnext ?_ hb14 | refine bnext ?_ hb13 | refine bnext ?_ hb12 | refine bnext ?_ hb11 | refine bnext ?_ hb10 | refine bnext ?_ hb9 | refine bnext ?_ hb8 | refine bnext ?_ hb7 | refine bnext ?_ hb6 | refine bnext ?_ hb5 | refine bnext ?_ hb4 | refine bnext ?_ hb3 | refine bnext ?_ hb2 | refine bnext ?_ hb1))⟩
              case measure => simp [intOf]; omega
          · rw [if_neg (fun h => e1 h.1)] at HS
            go_wp2_with fail
            go_roundw
            case rel => exact ⟨k + 1, by omega, by go_num, by rw [HS.out], by rw [HS.out], by (repeat' (first | exact Below.refl _ _ | assumption | refine balloc ?_ _ | refine below_drawn ?_ _ | refine below_drew ?_ | refine bnext ?_ hb24 | refine bnext ?_ hb23 | refine bnext ?_ hb22 | refine bnext ?_ hb21 | refine bnext ?_ hb20 | refine bnext ?_ hb19 | refine bnext ?_ hb18 | refine bnext ?_ hb17 | refine bnext ?_ hb16 | refine bnext ?_ hb15 | refine bnext ?_ hb14 | refine bnext ?_ hb13 | refine bnext ?_ hb12 | refine bnext ?_ hb11 | refine bnext ?_ hb10 | refine bnext ?_ hb9 | refine bnext ?_ hb8 | refine bnext ?_ hb7 | refine bnext ?_ hb6 | refine bnext ?_ hb5 | refine bnext ?_ hb4 | refine bnext ?_ hb3 | refine bnext ?_ hb2 | refine bnext ?_ hb1))⟩
            case measure => simp [intOf]; omega
        · obtain rfl : k = N := by omega
          clear hr1 HF H0 HVN
          generalize fitK G x k = S at *
          obtain ⟨P, L⟩ := S
          simp only at HV1 HV2 ⊢
          by_cases h5 : 64 < L
          · have HV := Lib.hid (HV1.out h5)
            clear HV1 HV2
            go_wp2_with fail
            go_ret2
            exact ⟨by rw [HV.out]; rfl, bnext hb1 hB⟩
          · have HV := Lib.hid (HV2.out (by omega))
            clear HV1 HV2
            go_wp2_with fail
            go_ret2
            exact ⟨by rw [HV.out]; rfl, bnext hb1 hB⟩
  · rw [if_pos hE] at hFR'
    have HV := Lib.hid hFR'
    have hE' : (E != 0) = true := by simpa using hE
    have hE2 : (E == 0) = false := by simpa using hE
    clear hE hv hl hFR'
    go_enter Tryd.func12, Tryd.ntmps12
    go_wp2_with (go_at_call 10; refine HG.out.mono ?_; rintro e w1 ⟨v, rfl, hown, hb1⟩)
    go_ret2
    exact ⟨by rw [← HV.out]; rfl, hb1⟩
/-- The groups below k that have a page. -/
def grpK (rs : List (Int × Int)) (k : Nat) : List Int := ((List.range k).filter fun g : Nat => anyIn rs (8 * (g : Int)) (8 * (g : Int) + 7)).map fun g : Nat => (g : Int)
theorem grpK_succ (rs : List (Int × Int)) (k : Nat) : grpK rs (k + 1) = grpK rs k ++ if anyIn rs (8 * (k : Int)) (8 * (k : Int) + 7) = true then [(k : Int)] else [] := by
  unfold grpK
  rw [List.range_succ, List.filter_append, List.map_append]
  by_cases h : anyIn rs (8 * (k : Int)) (8 * (k : Int) + 7) = true
  · simp [h]
  · simp [h]
theorem grpK_le (rs : List (Int × Int)) (k : Nat) : (grpK rs k).length ≤ k := by
  unfold grpK
  rw [List.length_map]
  have := List.length_filter_le (fun g : Nat => anyIn rs (8 * (g : Int)) (8 * (g : Int) + 7)) (List.range k)
  simpa using this
def grpR (rs : List (Int × Int)) : List Int × Int := if (regE rs).1 ≠ 0 then ([], (regE rs).1) else (grpK rs 8, 0)
/-- A list of numbers and an error as results. -/
def IntRes (w w' : World) (l : List Int) (er : Int) (e : Ending) : Prop :=
  ∃ A c, e = .returned (.tuple #[.slice A l.length c, .int .i64 er]) ∧ Rd w' 1 A l.length (l.map (Value.int .i64)) ∧ Below w.heap.size w w'
theorem infoIntU : (Tryd.prog.info? 3).map (fun i => (i.zero, i.size, i.bytes)) = some (some (.int .i64 0), 1, 8) := by kernel_rfl
theorem cell_one_newU (w : World) (x : Value) (t : TypeId) : ∀ j u, [x][j]? = some u → (w.alloc (.cells #[x] t)).cell? ((⟨w.heap.size, 0, none⟩ : Addr).add j) = some u := by
  intro j u hu
  rcases j with _ | j
  · simp at hu
    subst hu
    exact (Bk.new w #[x] t).cell 0
  · simp at hu
set_option maxHeartbeats 2000000 in
theorem Groups_any (A : Option Addr) (n c : Nat) (rs : List (Int × Int)) (w : World) (hr : Rd w 2 A n (flat2 .i64 rs)) (hn : n ≤ 1000000) :
    Calls Tryd.prog 15 #[.slice A n c] w fun e w' => IntRes w w' (grpR rs).1 (grpR rs).2 e := by
  have HC := Lib.hid (rCheckP_any A n c rs w hr hn)
  obtain ⟨GR, hGR⟩ : ∃ f, grpR rs = f := ⟨_, rfl⟩
  have hGR' := hGR
  rw [hGR]
  unfold grpR at hGR'
  clear hGR
  by_cases hE : (regE rs).1 = 0
  · have hv := regE_zero rs hE
    rw [hE] at HC
    rw [hE, if_neg (by simp)] at hGR'
    have HV := Lib.hid hGR'.symm
    clear hGR'
    obtain ⟨j0, hj, hy0, hy1, hy2⟩ := info_parts infoIntU
    have HP := Lib.hid (fun w1 h => pages_any A n c rs w1 h hn hv)
    have HA : Hid (∀ k : Nat, k < 8 → (bits .and .u64 (setN rs rs.length : Int) (spanN (8 * k) (8 * k + 7) : Int) != 0) = anyIn rs (8 * (k : Int)) (8 * (k : Int) + 7)) := Lib.hid (fun k hk => by
      have h1 := setN_and rs hv (8 * (k : Int)) (8 * (k : Int) + 7) (by omega) (by omega) (by omega)
      rw [show (8 * (k : Int)).toNat = 8 * k by omega, show (8 * (k : Int) + 7).toNat = 8 * k + 7 by omega] at h1
      rw [u64_and_nat _ _ (setN_lt rs rs.length) (spanN_lt _ _)]
      rcases h2 : anyIn rs (8 * (k : Int)) (8 * (k : Int) + 7) with _ | _
      · rw [h1.2 h2]; rfl
      · rw [bne_iff_ne]
        intro h3
        have h4 := h1.1 (by omega)
        rw [h2] at h4
        cases h4)
    have HSp : Hid (∀ (k : Nat) (w : World), k < 8 → Calls Tryd.prog 38 #[.int .i64 ((k : Int) * 8), .int .i64 ((k : Int) * 8 + 8 - 1)] w fun e w' => e = .returned (.int .u64 (spanN (8 * k) (8 * k + 7))) ∧ w = w') := Lib.hid (fun k w hk => by
      have := span_any (8 * k) (8 * k + 7) w (by omega) (by omega)
      rw [show ((8 * k : Nat) : Int) = (k : Int) * 8 by omega, show ((8 * k + 7 : Nat) : Int) = (k : Int) * 8 + 8 - 1 by omega] at this
      exact this.mono fun e w' h => ⟨h.1, h.2.symm⟩)
    have HK := Lib.hid (grpK_succ rs)
    have HLE := Lib.hid (grpK_le rs)
    generalize setN rs rs.length = S at *
    clear hE hv
    go_enter Tryd.func15, Tryd.ntmps15
    go_wp2_with (first
      | (go_at_call 28; refine HC.out.mono ?_; rintro e w1 ⟨rfl, hb1⟩)
      | (go_at_call 30; refine (HP.out _ (hr.below hb1 (Nat.le_refl _))).mono ?_; rintro e w2 ⟨rfl, hb2⟩))
    have hB0 := bnext hb1 hb2
    have hsz0 := hB0.size
    clear hr HC HP hb1 hb2
    go_loopw [7, 19] (fun v i wr => ∃ k : Nat, k ≤ 8 ∧ i = .int .i64 k ∧ wr.ownsRow w.heap.size 3 1 v (grpK rs k).length ((grpK rs k).map (Value.int .i64)) ∧ Below w.heap.size w wr) (fun _ i _ => 8 - (intOf i).toNat)
    case atStart => exact ⟨0, by omega, rfl, World.ownsRow_nil _ _ _ _, hB0⟩
    case round =>
      clear hB0 hsz0
      obtain ⟨k, hk, rfl, hown, hB⟩ := hrel
      by_cases hlt : k < 8
      · have hkI : (k : Int) < 8 := by omega
        have HAk := HA.out k hlt
        have HSk := Lib.hid (fun w => HSp.out k w hlt)
        have hle := HLE.out k
        have hsz := hB.size
        have HS := Lib.hid (HK.out k)
        generalize spanN (8 * k) (8 * k + 7) = X at *
        rcases hany : anyIn rs (8 * (k : Int)) (8 * (k : Int) + 7) with _ | _
        · rw [hany] at HAk HS
          simp only [Bool.false_eq_true, if_false, List.append_nil] at HS
          have HAk2 : (bits .and .u64 (S : Int) (X : Int) == 0) = true := by simpa using HAk
          clear hany
          go_wp2_with (go_at_call 38; refine (HSk.out _).mono ?_; rintro e w' ⟨rfl, rfl⟩)
          go_roundw
          case rel => exact ⟨k + 1, by omega, by go_num, by rw [HS.out]; exact hown, hB⟩
          case measure => simp [intOf]; omega
        · rw [hany] at HAk HS
          simp only [if_true] at HS
          have HAk2 : (bits .and .u64 (S : Int) (X : Int) == 0) = false := by simpa using HAk
          clear hany
          go_wp2_with (first
            | (go_at_call 38; refine (HSk.out _).mono ?_; rintro e w' ⟨rfl, rfl⟩)
            | (at_builtin; refine wpList_append_own_at _ rfl _ _ 33 rfl w.heap.size 3 j0 (.int .i64 0) 1 8 Tryd.underlying33 hj hy0 hy1 hy2 rfl (by decide) u7 (grpK rs k).length ((grpK rs k).map (Value.int .i64)) rfl (hown.alloc _) ⟨wr.heap.size, 0, none⟩ 1 1 [.int .i64 (k : Int)] rfl rfl (cell_one_newU _ _ _) (by simp [Value.oneCell']) (by simp only [maxLen]; omega) (by omega) (by simp; omega) ?_; intro v1 w1 hown1 hgr1 _ hloc1; have hB1 := (balloc hB _).grown hgr1 (by simp; omega) (fun k e => (hown.lt k e).1); clear hgr1 hloc1))
          go_roundw
          case rel => exact ⟨k + 1, by omega, by go_num, by rw [HS.out, List.length_append, List.map_append]; exact hown1, hB1⟩
          case measure => simp [intOf]; omega
      · obtain rfl : k = 8 := by omega
        obtain ⟨A1, c1, rfl, r1⟩ := own_slice hown
        go_wp2_with fail
        go_ret2
        rw [HV.out]
        exact ⟨A1, c1, rfl, r1, hB⟩
  · rw [if_pos hE] at hGR'
    have HV := Lib.hid hGR'.symm
    clear hGR'
    have hE' : ((regE rs).1 != 0) = true := by simpa using hE
    have hE2 : ((regE rs).1 == 0) = false := by simpa using hE
    clear hE
    generalize (regE rs).1 = E at *
    go_enter Tryd.func15, Tryd.ntmps15
    go_wp2_with (go_at_call 28; refine HC.out.mono ?_; rintro e w1 ⟨rfl, hb1⟩)
    go_ret2
    rw [HV.out]
    exact ⟨none, 0, rfl, Rd.zero _, hb1⟩
end Go.Proofs.YtfblbkhiaglelaaDoor
