/- The groups of pages, by the reference. -/
import Derived.Test.YtfblbkhiaglelaaDoorRgV
namespace Go.Proofs.YtfblbkhiaglelaaDoor
open Go Go.Proofs Go.RowKit
set_option linter.unusedSimpArgs false
set_option linter.unusedVariables false
set_option maxRecDepth 100000

/-- Has the group g a page below 8 g + j? -/
def anyJ (f : Nat → Bool) (g j : Nat) : Bool := (List.range j).any fun i => f (8 * g + i)
theorem anyJ_succ (f : Nat → Bool) (g j : Nat) : anyJ f g (j + 1) = (anyJ f g j || f (8 * g + j)) := by
  unfold anyJ
  rw [List.range_succ, List.any_append]
  simp
def grpL (f : Nat → Bool) : Nat → List Int
  | 0 => []
  | k + 1 => grpL f k ++ if anyJ f k 8 = true then [(k : Int)] else []
theorem grpL_lt (f : Nat → Bool) : ∀ k, ∀ x ∈ grpL f k, x < (k : Int)
  | 0, x, h => by simp [grpL] at h
  | k + 1, x, h => by
    rw [grpL, List.mem_append] at h
    rcases h with h | h
    · have := grpL_lt f k x h; omega
    · split at h
      · simp at h; omega
      · simp at h
theorem grpL_len (f : Nat → Bool) : ∀ k, (grpL f k).length ≤ k
  | 0 => by simp [grpL]
  | k + 1 => by
    have := grpL_len f k
    rw [grpL, List.length_append]
    split <;> simp <;> omega
/-- The groups found below the page 8 g + j. -/
def grpP (f : Nat → Bool) (g j : Nat) : List Int := grpL f g ++ if anyJ f g j = true then [(g : Int)] else []
theorem grpP_zero (f : Nat → Bool) (g : Nat) : grpP f g 0 = grpL f g := by simp [grpP, anyJ]
theorem grpP_full (f : Nat → Bool) (g : Nat) : grpP f g 8 = grpL f (g + 1) := rfl
theorem grpP_len (f : Nat → Bool) (g j : Nat) : (grpP f g j).length ≤ g + 1 := by
  have := grpL_len f g
  unfold grpP
  rw [List.length_append]
  split <;> simp <;> omega
theorem grpP_no (f : Nat → Bool) (g j : Nat) (h : f (8 * g + j) = false) : grpP f g (j + 1) = grpP f g j := by
  unfold grpP
  rw [anyJ_succ, h, Bool.or_false]
theorem grpP_in (f : Nat → Bool) (g j : Nat) (h : anyJ f g j = true) : grpP f g (j + 1) = grpP f g j ∧ grpP f g j ≠ [] ∧ (grpP f g j)[(grpP f g j).length - 1]? = some (g : Int) := by
  unfold grpP
  rw [anyJ_succ, h, Bool.true_or]
  refine ⟨rfl, by simp, ?_⟩
  simp
theorem grpP_new (f : Nat → Bool) (g j : Nat) (h : f (8 * g + j) = true) (h' : anyJ f g j = false) : grpP f g (j + 1) = grpP f g j ++ [(g : Int)] ∧ (grpP f g j = [] ∨ ∃ z : Int, (grpP f g j)[(grpP f g j).length - 1]? = some z ∧ z < (g : Int) ∧ 0 < (grpP f g j).length) := by
  have hP : grpP f g j = grpL f g := by unfold grpP; rw [h']; simp
  refine ⟨by rw [hP]; unfold grpP; rw [anyJ_succ, h, Bool.or_true]; simp, ?_⟩
  rw [hP]
  by_cases he : grpL f g = []
  · exact .inl he
  · right
    have hl : 0 < (grpL f g).length := List.length_pos_iff.2 he
    refine ⟨(grpL f g)[(grpL f g).length - 1], List.getElem?_eq_getElem (by omega), grpL_lt f g _ (List.getElem_mem _), hl⟩
theorem grpL_eq (rs : List (Int × Int)) : ∀ k, k ≤ 8 → grpL (hasP rs) k = grpK rs k
  | 0, _ => by simp [grpL, grpK]
  | k + 1, h => by
    rw [grpL, grpK_succ, grpL_eq rs k (by omega)]
    have : anyJ (hasP rs) k 8 = anyIn rs (8 * (k : Int)) (8 * (k : Int) + 7) := by
      rw [Bool.eq_iff_iff, anyIn_iff rs _ _ (by omega)]
      unfold anyJ
      rw [List.any_eq_true]
      constructor
      · rintro ⟨i, hi, h1⟩
        rw [List.mem_range] at hi
        exact ⟨8 * k + i, by omega, by omega, h1⟩
      · rintro ⟨p, h1, h2, h3⟩
        exact ⟨p - 8 * k, List.mem_range.2 (by omega), by rw [show 8 * k + (p - 8 * k) = p by omega]; exact h3⟩
    rw [this]
def GrpRel (w2 : World) (f : Nat → Bool) (v i : Value) (wr : World) : Prop :=
  ∃ p g j : Nat, p ≤ 64 ∧ p = 8 * g + j ∧ j < 8 ∧ i = .int .i64 p ∧ wr.ownsRow w2.heap.size 3 1 v (grpP f g j).length ((grpP f g j).map (Value.int .i64)) ∧ Below w2.heap.size w2 wr
theorem GrpRel_next {w2 wr : World} {f : Nat → Bool} {v : Value} {p g j : Nat} (hp : p + 1 ≤ 64) (h : p = 8 * g + j) (hj : j < 8) (hown : wr.ownsRow w2.heap.size 3 1 v (grpP f g (j + 1)).length ((grpP f g (j + 1)).map (Value.int .i64))) (hB : Below w2.heap.size w2 wr) :
    GrpRel w2 f v (.int .i64 ((p + 1 : Nat) : Int)) wr := by
  by_cases h7 : j = 7
  · subst h7
    rw [grpP_full, ← grpP_zero] at hown
    exact ⟨p + 1, g + 1, 0, hp, by omega, by omega, rfl, hown, hB⟩
  · exact ⟨p + 1, g, j + 1, hp, by omega, by omega, rfl, hown, hB⟩
set_option maxHeartbeats 4000000 in
theorem rGroups_any (A : Option Addr) (n c : Nat) (rs : List (Int × Int)) (w : World) (hr : Rd w 2 A n (flat2 .i64 rs)) (hn : n ≤ 1000000) :
    Calls Tryd.prog 16 #[.slice A n c] w fun e w' => IntRes w w' (grpR rs).1 (grpR rs).2 e := by
  have HC := Lib.hid (rCheckR_any A n c rs w hr hn)
  obtain ⟨GR, hGR⟩ : ∃ f, grpR rs = f := ⟨_, rfl⟩
  have hGR' := hGR
  rw [hGR]
  unfold grpR at hGR'
  clear hGR
  by_cases hE : (regE rs).1 = 0
  · have hv := regE_zero rs hE
    rw [hE] at HC
    rw [hE, if_neg (by simp), ← grpL_eq rs 8 (Nat.le_refl _)] at hGR'
    have HV := Lib.hid hGR'.symm
    clear hGR'
    obtain ⟨j0, hj, hy0, hy1, hy2⟩ := info_parts infoIntU
    have HS := Lib.hid (fun w1 h => rset_any A n c rs w1 h hn hv)
    generalize hasP rs = f at *
    clear hE hv
    go_enter Tryd.func16, Tryd.ntmps16
    go_wp2_with (first
      | (go_at_call 32; refine HC.out.mono ?_; rintro e w1 ⟨rfl, hb1⟩)
      | (go_at_call 33; refine (HS.out _ (hr.below hb1 (Nat.le_refl _))).mono ?_; rintro e w2 ⟨v, rfl, hown, hb2⟩; obtain ⟨A2, c2, rfl, r2⟩ := own_slice hown))
    have hB0 := bnext hb1 hb2
    have hsz0 := hB0.size
    clear hr HC HS hb1 hb2 hown
    go_loopw [7, 8] (GrpRel w2 f) (fun _ i _ => 64 - (intOf i).toNat)
    case atStart => exact ⟨0, 0, 0, by omega, by omega, by omega, rfl, World.ownsRow_nil _ _ _ _, Below.refl _ _⟩
    case round =>
      obtain ⟨p, g, j, hp, hpg, hj8, rfl, hown, hB⟩ := hrel
      by_cases hlt : p < 64
      · have hpI : (p : Int) < 64 := by omega
        obtain ⟨b, off, rfl, hb, hc⟩ := (r2.below hB (Nat.le_refl _)).bool hlt
        rw [bl_get f p hlt] at hc
        have hle := grpP_len f g j
        have hsz := hB.size
        have hq : (p : Int) / 8 = (g : Int) := by omega
        have hq2 : (p : Int).tdiv 8 = (g : Int) := by rw [Int.tdiv_eq_ediv_of_nonneg (by omega)]; omega
        have HN := Lib.hid (fun v wr' h1 h2 => GrpRel_next (w2 := w2) (wr := wr') (f := f) (v := v) (show p + 1 ≤ 64 by omega) hpg hj8 h1 h2)
        have hg8 : g < 8 := by omega
        rcases hf : f p with _ | _
        · rw [hf] at hc
          have HP := Lib.hid (grpP_no f g j (by rw [← hpg]; exact hf))
          clear hf hpg
          go_wp2_with fail
          go_roundw
          case rel => exact HN.out _ _ (by rw [HP.out]; exact hown) hB
          case measure => simp [intOf]; omega
        · rw [hf] at hc
          rcases ha : anyJ f g j with _ | _
          · obtain ⟨h1, h2⟩ := grpP_new f g j (by rw [← hpg]; exact hf) ha
            have HP := Lib.hid h1
            rcases h2 with h2 | ⟨z, h2, h3, h4⟩
            · rw [h2] at hown
              have HE := Lib.hid h2
              simp only [List.length_nil, List.map_nil] at hown
              obtain ⟨A7, c7, rfl, _⟩ := own_slice hown
              clear h1 h2 ha hf hpg
              go_wp2_with (at_builtin; refine wpList_append_own_at _ rfl _ _ 33 rfl w2.heap.size 3 j0 (.int .i64 0) 1 8 Tryd.underlying33 hj hy0 hy1 hy2 rfl (by decide) (.slice A7 0 c7) 0 [] rfl (hown.alloc _) ⟨wr.heap.size, 0, none⟩ 1 1 [.int .i64 (g : Int)] rfl rfl (cell_one_newU _ _ _) (by simp [Value.oneCell']) (by simp only [maxLen]; omega) (by omega) (by simp; omega) ?_; intro v1 w1 hown1 hgr1 _ hloc1; have hB1 := (balloc hB _).grown hgr1 (by simp; omega) (fun k e => (hown.lt k e).1); clear hgr1 hloc1)
              go_roundw
              case rel => exact HN.out _ _ (by rw [HP.out, HE.out]; exact hown1) hB1
              case measure => simp [intOf]; omega
            · obtain ⟨q, cap, rfl, hq1, hq3⟩ := hown.form h4
              have hcl := hown.cellAt ((grpP f g j).length - 1) (by omega)
              rw [List.getElem?_map, h2] at hcl
              simp only [Option.map_some] at hcl
              obtain ⟨L, hL⟩ : ∃ L, (grpP f g j).length = L := ⟨_, rfl⟩
              rw [hL] at hcl h4 hle ⊢
              have HL := Lib.hid hL
              have hI4 : ((L : Int) - 1).toNat = L - 1 := by omega
              have hI5 : (1 : Int) ≤ (L : Int) := by omega
              have hI6 : (L : Int) - 1 < (L : Int) := by omega
              have e0 : ((L : Int) == 0) = false := by simp; omega
              rw [hL] at hown
              clear h1 h2 ha hf hpg hL
              go_wp2_with (at_builtin; refine wpList_append_own_at _ rfl _ _ 33 rfl w2.heap.size 3 j0 (.int .i64 0) 1 8 Tryd.underlying33 hj hy0 hy1 hy2 rfl (by decide) _ L ((grpP f g j).map (Value.int .i64)) rfl (hown.alloc _) ⟨wr.heap.size, 0, none⟩ 1 1 [.int .i64 (g : Int)] rfl rfl (cell_one_newU _ _ _) (by simp [Value.oneCell']) (by simp only [maxLen]; omega) (by omega) (by simp; omega) ?_; intro v1 w1 hown1 hgr1 _ hloc1; have hB1 := (balloc hB _).grown hgr1 (by simp; omega) (fun k e => (hown.lt k e).1); clear hgr1 hloc1)
              go_roundw
              case rel => exact HN.out _ _ (by rw [HP.out, List.length_append, HL.out, List.map_append]; exact hown1) hB1
              case measure => simp [intOf]; omega
          · obtain ⟨h1, h0, h2⟩ := grpP_in f g j ha
            have HP := Lib.hid h1
            have h4 : 0 < (grpP f g j).length := List.length_pos_iff.2 h0
            obtain ⟨q, cap, rfl, hq1, hq3⟩ := hown.form h4
            have hcl := hown.cellAt ((grpP f g j).length - 1) (by omega)
            rw [List.getElem?_map, h2] at hcl
            simp only [Option.map_some] at hcl
            obtain ⟨L, hL⟩ : ∃ L, (grpP f g j).length = L := ⟨_, rfl⟩
            have HL := Lib.hid hL
            rw [hL] at hcl h4 hle hown ⊢
            have hI4 : ((L : Int) - 1).toNat = L - 1 := by omega
            have hI5 : (1 : Int) ≤ (L : Int) := by omega
            have hI6 : (L : Int) - 1 < (L : Int) := by omega
            have e0 : ((L : Int) == 0) = false := by simp; omega
            clear h1 h2 ha hf hpg hL h0
            go_wp2_with fail
            go_roundw
            case rel => exact HN.out _ _ (by rw [HP.out, HL.out]; exact hown) hB
            case measure => simp [intOf]; omega
      · obtain rfl : p = 64 := by omega
        have hg : g = 8 := by omega
        have hj0 : j = 0 := by omega
        subst hg hj0
        rw [grpP_zero] at hown
        obtain ⟨A1, c1, rfl, r1⟩ := own_slice hown
        clear hpg
        go_wp2_with fail
        go_ret2
        rw [HV.out]
        exact ⟨A1, c1, rfl, r1, bnext hB0 hB⟩
  · rw [if_pos hE] at hGR'
    have HV := Lib.hid hGR'.symm
    clear hGR'
    have hE' : ((regE rs).1 != 0) = true := by simpa using hE
    have hE2 : ((regE rs).1 == 0) = false := by simpa using hE
    clear hE
    generalize (regE rs).1 = E at *
    go_enter Tryd.func16, Tryd.ntmps16
    go_wp2_with (go_at_call 32; refine HC.out.mono ?_; rintro e w1 ⟨rfl, hb1⟩)
    go_ret2
    rw [HV.out]
    exact ⟨none, 0, rfl, Rd.zero _, hb1⟩
end Go.Proofs.YtfblbkhiaglelaaDoor
