/- RegionParts: pages that are mapped one by one are mapped as at once. -/
import Derived.Test.YtfblbkhiaglelaaRgT
import Derived.Test.YtfblbkhiaglelaaRgR
import Derived.Test.YtfblbkhiaglelaaLawChanges24
namespace Go.Proofs.Ytfblbkhiaglelaa
open Go Go.Proofs Go.RowKit
set_option linter.unusedSimpArgs false
set_option linter.unusedVariables false
set_option maxRecDepth 100000

def perm (t c j : Nat) : Nat := (j * (2 * t + 1) + c) % 64
theorem perm_lt (t c j : Nat) : perm t c j < 64 := Nat.mod_lt _ (by omega)
theorem inj_all : ((List.range 32).all fun t => (List.range 64).all fun d => d == 0 || (d * (2 * t + 1)) % 64 != 0) = true := by decide +kernel
theorem sur_all : ((List.range 32).all fun t => (List.range 64).all fun r => (List.range 64).any fun j => (j * (2 * t + 1)) % 64 == r) = true := by decide +kernel
theorem perm_inj (t c i j : Nat) (ht : t < 32) (hij : i < j) (hj : j < 64) (h : perm t c i = perm t c j) : False := by
  have h1 := List.all_eq_true.1 (List.all_eq_true.1 inj_all t (List.mem_range.2 ht)) (j - i) (List.mem_range.2 (by omega))
  simp only [Bool.or_eq_true, beq_iff_eq, bne_iff_ne, ne_eq] at h1
  rcases h1 with h1 | h1
  · omega
  · apply h1
    unfold perm at h
    rw [Nat.sub_mul]
    have : i * (2 * t + 1) ≤ j * (2 * t + 1) := Nat.mul_le_mul_right _ (by omega)
    omega
theorem perm_sur (t c p : Nat) (ht : t < 32) (hc : c < 64) (hp : p < 64) : ∃ j, j < 64 ∧ perm t c j = p := by
  have h1 := List.all_eq_true.1 (List.all_eq_true.1 sur_all t (List.mem_range.2 ht)) ((p + 64 - c) % 64) (List.mem_range.2 (by omega))
  obtain ⟨j, hj, h2⟩ := List.any_eq_true.1 h1
  refine ⟨j, List.mem_range.1 hj, ?_⟩
  have h3 := beq_iff_eq.1 h2
  unfold perm
  omega
/-- The pages of the regions that the first i rounds have met. -/
def metF (rs : List (Int × Int)) (t c i q : Nat) : Bool := hasP rs q && (List.range i).any (fun j => perm t c j == q)
theorem metF_no (rs : List (Int × Int)) (t c i : Nat) (h : hasP rs (perm t c i) = false) : regs (metF rs t c (i + 1)) = regs (metF rs t c i) := by
  refine regs_congr _ _ (fun q hq => ?_)
  unfold metF
  rw [List.range_succ, List.any_append]
  by_cases he : perm t c i = q
  · subst he
    rw [h, Bool.false_and, Bool.false_and]
  · have hf : (perm t c i == q) = false := beq_eq_false_iff_ne.2 he
    simp [hf]
theorem metF_on (rs : List (Int × Int)) (t c i : Nat) (ht : t < 32) (hi : i < 64) (h : hasP rs (perm t c i) = true) :
    mapR (regs (metF rs t c i)) (perm t c i) (perm t c i) 64 = (regs (metF rs t c (i + 1)), 0) := by
  have hv := regs_v (metF rs t c i)
  have hp := perm_lt t c i
  have hbe : begE (regs (metF rs t c i)) (perm t c i) (perm t c i) = 0 := by
    unfold begE rngE
    rw [hv.ok]
    simp
    omega
  have hno : metF rs t c i (perm t c i) = false := by
    unfold metF
    rw [h, Bool.true_and, Bool.eq_false_iff]
    intro hc
    obtain ⟨j, hj, he⟩ := List.any_eq_true.1 hc
    exact perm_inj t c j i ht (List.mem_range.1 hj) hi (beq_iff_eq.1 he)
  have hany : anyIn (regs (metF rs t c i)) (perm t c i) (perm t c i) = false := by
    rw [Bool.eq_false_iff]
    intro hc
    obtain ⟨q, h1, h2, h3⟩ := (anyIn_iff _ _ _ (by omega)).1 hc
    obtain rfl : q = perm t c i := by omega
    rw [regs_has _ _ hp, hno] at h3
    cases h3
  unfold mapR
  rw [if_neg (by simp [hbe]), if_neg (by simp [hany]), if_neg (by have := cntP_le (addF (regs (metF rs t c i)) (perm t c i) (perm t c i)); omega)]
  congr 1
  refine regs_congr _ _ (fun q hq => ?_)
  unfold addF inR
  rw [regs_has _ q hq]
  unfold metF
  rw [List.range_succ, List.any_append]
  by_cases he : perm t c i = q
  · subst he
    simp [h]
  · have : (decide ((perm t c i : Int) ≤ (q : Int)) && decide ((q : Int) ≤ (perm t c i : Int))) = false := by
      rw [Bool.and_eq_false_iff]; simp only [decide_eq_false_iff_not]; omega
    rw [this]
    have hf : (perm t c i == q) = false := beq_eq_false_iff_ne.2 he
    simp [hf]
theorem metF_end (rs : List (Int × Int)) (t c : Nat) (ht : t < 32) (hc : c < 64) (hv : RgV rs) : regs (metF rs t c 64) = rs := by
  refine (regs_of hv (fun p hp => ?_)).symm
  obtain ⟨j, hj, he⟩ := perm_sur t c p ht hc hp
  unfold metF
  have : (List.range 64).any (fun j => perm t c j == p) = true := List.any_eq_true.2 ⟨j, List.mem_range.2 hj, beq_iff_eq.2 he⟩
  rw [this, Bool.and_true]
theorem metF_zero (rs : List (Int × Int)) (t c : Nat) : regs (metF rs t c 0) = [] := by
  refine (regs_of (rs := []) (fun j hj => absurd hj (Nat.not_lt_zero _)) (fun p hp => ?_)).symm
  simp [hasP_nil, metF]
def PtR (w : World) (A1 : Option Addr) (rs : List (Int × Int)) (t c : Nat) (v i : Value) (wr : World) : Prop :=
  ∃ k : Nat, k ≤ 64 ∧ i = .int .i64 k ∧ (∃ A2 c2, v = .slice A2 (regs (metF rs t c k)).length c2 ∧ Rd wr 2 A2 (regs (metF rs t c k)).length (flat2 .i64 (regs (metF rs t c k)))) ∧ Rd wr 2 A1 rs.length (flat2 .i64 rs) ∧ Below w.heap.size w wr
set_option maxHeartbeats 4000000 in
theorem parts_true (A : Option Addr) (n c : Nat) (zs : List Int) (by' : Int) (w : World) (hr : Rd w 1 A n (zs.map (Value.int .i64))) (hn : n ≤ maxLen) :
    Calls Try.prog 4 #[.slice A n c, .int .i64 by'] w fun e w' => e = .returned (.bool true) ∧ Below w.heap.size w w' := by
  obtain ⟨t, htI⟩ : ∃ t : Nat, by' % 32 = t := ⟨(by' % 32).toNat, by omega⟩
  have ht : t < 32 := by omega
  obtain ⟨d, hdI⟩ : ∃ d : Nat, wrap64 (by'.tdiv 32) % 64 = d := ⟨(wrap64 (by'.tdiv 32) % 64).toNat, by omega⟩
  have hd : d < 64 := by omega
  have HM1 := Lib.hid (fun w => Mod_any by' 32 w (by omega) (by omega))
  have HM2 := Lib.hid (fun w => Mod_any (wrap64 (by'.tdiv 32)) 64 w (by omega) (by omega))
  rw [htI] at HM1
  rw [hdI] at HM2
  clear htI hdI
  go_enter Try.func4, Try.ntmps4
  go_wp2_with fail
  go_at_call 18
  refine (Regions_any A n c zs _ hr hn).mono ?_
  rintro e w1 ⟨f, v, rfl, hown, B1⟩
  obtain ⟨rs, hrs, hv, hl1⟩ : ∃ rs, regs f = rs ∧ RgV rs ∧ rs.length ≤ 64 := ⟨_, rfl, regs_v f, regs_le f⟩
  rw [hrs] at hown
  obtain ⟨A1, c1, rfl, r1⟩ := own_slice hown
  have HH := Lib.hid (fun p (hp : p < 64) w h => by have := Has_rg A1 rs.length c1 rs ((p : Nat) : Int) w h (by omega); rw [hasRg_ok rs p hv hp] at this; exact this)
  have HZ := Lib.hid (metF_end rs t d ht hd hv)
  have HN := Lib.hid (metF_no rs t d)
  have HO := Lib.hid (fun i => metF_on rs t d i ht)
  clear hown hrs hv
  go_wp2_with (go_at_call 19; refine (HM1.out _).mono ?_; rintro e wx ⟨rfl, rfl⟩)
  go_loopw [6, 8] (PtR w A1 rs t d) (fun _ i _ => 64 - (intOf i).toNat)
  case atStart => exact ⟨0, by omega, rfl, ⟨none, 0, by rw [metF_zero]; rfl, by rw [metF_zero]; exact Rd.zero _⟩, r1, B1⟩
  case round =>
    clear r1 B1
    obtain ⟨k, hk, rfl, ⟨A2, c2, rfl, m7⟩, r7, B7⟩ := hrel
    have hle := regs_le (metF rs t d k)
    by_cases hlt : k < 64
    · have hkI : (k : Int) < 64 := by omega
      have hpl := perm_lt t d k
      obtain ⟨m, hm, hmb⟩ : ∃ m : Nat, k * (2 * t + 1) = m ∧ m ≤ 4095 := ⟨_, rfl, by have := Nat.mul_le_mul (show k ≤ 63 by omega) (show 2 * t + 1 ≤ 63 by omega); omega⟩
      have hkS : (k : Int) * (2 * (t : Int) + 1) = (m : Int) := by rw [← hm, Int.natCast_mul, Int.natCast_add, Int.natCast_mul]; rfl
      have hpt : ((m : Int) + (d : Int)).tmod 64 = (perm t d k : Int) := by
        rw [Int.tmod_eq_emod_of_nonneg (by omega)]
        unfold perm
        rw [hm]
        omega
      have H1 := Lib.hid (HH.out (perm t d k) hpl)
      have HN1 := Lib.hid (HN.out k)
      have HO1 := Lib.hid (HO.out k hlt)
      have hpI : (perm t d k : Int) < 64 := by omega
      generalize perm t d k = p at *
      rcases hh : hasP rs p with _ | _
      · rw [hh] at H1
        have HR := Lib.hid (HN1.out hh)
        clear hh HO1 HN1 hm
        go_wp2_with (go_at_call 19; refine (HM2.out _).mono ?_; rintro e wx ⟨rfl, rfl⟩)
        refine (H1.out _ r7).mono ?_
        rintro e w8 ⟨rfl, b8⟩
        go_wp2_with fail
        go_roundw
        case rel => exact ⟨k + 1, by omega, by go_num, ⟨A2, c2, by rw [HR.out], by rw [HR.out]; exact m7.below b8 (Nat.le_refl _)⟩, r7.below b8 (Nat.le_refl _), bnext B7 b8⟩
        case measure => simp [intOf]; omega
      · rw [hh] at H1
        have HR := Lib.hid (HO1.out hh)
        have HMp := Lib.hid (fun w h => Map_any A2 (regs (metF rs t d k)).length c2 (regs (metF rs t d k)) p p 64 w h (by omega))
        rw [HR.out] at HMp
        clear hh HO1 HN1 hm HR
        go_wp2_with (go_at_call 19; refine (HM2.out _).mono ?_; rintro e wx ⟨rfl, rfl⟩)
        refine (H1.out _ r7).mono ?_
        rintro e w8 ⟨rfl, b8⟩
        have m8 := m7.below b8 (Nat.le_refl _)
        have r8 := r7.below b8 (Nat.le_refl _)
        go_wp2_with fail
        go_at_call 13
        refine (HMp.out _ m8).mono ?_
        intro e w9 h9
        obtain ⟨A9, c9, rfl, m9, b9⟩ := h9.open
        clear h9
        go_wp2_with fail
        go_roundw
        case rel => exact ⟨k + 1, by omega, by go_num, ⟨A9, c9, rfl, m9⟩, r8.below b9 (Nat.le_refl _), bnext (bnext B7 b8) b9⟩
        case measure => simp [intOf]; omega
    · obtain rfl : k = 64 := by omega
      rw [HZ.out] at m7 ⊢
      clear HZ HN HO HH
      go_wp2_with fail
      go_at_call 15
      refine (SameRanges_eq A2 A1 _ c2 c1 rs _ m7 r7 (by omega)).mono ?_
      rintro e w8 ⟨rfl, b8⟩
      go_wp2_with fail
      go_at_call 9
      refine (awake_true _).mono ?_
      rintro e w11 ⟨rfl, b11⟩
      go_wp2_with fail
      go_ret
      exact ⟨rfl, bnext (bnext B7 b8) b11⟩
end Go.Proofs.Ytfblbkhiaglelaa
