/- A part of a range by two numbers. -/
import Derived.Test.YtfblbkhiaglelaaRgT
import Derived.Test.YtfblbkhiaglelaaRgR
import Derived.Test.YtfblbkhiaglelaaLawChanges24
import Derived.Deep.QuietTactic
import Derived.BigQuiet
namespace Go.Proofs.Ytfblbkhiaglelaa
open Go Go.Proofs Go.RowKit
set_option linter.unusedSimpArgs false
set_option linter.unusedVariables false
set_option maxRecDepth 100000

set_option maxHeartbeats 2000000 in
theorem cut_any (a b x y : Int) (w : World) (h0 : 0 ≤ a) (h1 : a ≤ b) (h2 : b ≤ 63) :
    Calls Try.prog 22 #[.agg #[.int .i64 a, .int .i64 b], .int .i64 x, .int .i64 y] w fun e w' => ∃ F T : Int, e = .returned (.agg #[.int .i64 F, .int .i64 T]) ∧ a ≤ F ∧ F ≤ T ∧ T ≤ b ∧ Below w.heap.size w w' := by
  have hm0 : 0 ≤ wrap64 (x.tdiv 8) % (b - a + 1) := Int.emod_nonneg _ (by omega)
  have hm1 : wrap64 (x.tdiv 8) % (b - a + 1) < b - a + 1 := Int.emod_lt_of_pos _ (by omega)
  have HM := Lib.hid (fun w => (Mod_any (wrap64 (x.tdiv 8)) (b - a + 1) w (by omega) (by omega)).mono (fun e w' h => (⟨h.1, h.2.symm⟩ : e = Ending.returned (.int .i64 (wrap64 (x.tdiv 8) % (b - a + 1))) ∧ w' = w)))
  generalize wrap64 (x.tdiv 8) % (b - a + 1) = m at *
  have hk0 : 0 ≤ wrap64 (y.tdiv 8) % (b - (a + m) + 1) := Int.emod_nonneg _ (by omega)
  have hk1 : wrap64 (y.tdiv 8) % (b - (a + m) + 1) < b - (a + m) + 1 := Int.emod_lt_of_pos _ (by omega)
  have HK := Lib.hid (fun w => Mod_any (wrap64 (y.tdiv 8)) (b - (a + m) + 1) w (by omega) (by omega))
  generalize wrap64 (y.tdiv 8) % (b - (a + m) + 1) = k at *
  have hw1 : IntKind.i64.wrap (b - a) = b - a := by rw [IntKind.wrap_i64]; omega
  have hw2 : IntKind.i64.wrap (b - a + 1) = b - a + 1 := by rw [IntKind.wrap_i64]; omega
  have hw3 : IntKind.i64.wrap (a + m) = a + m := by rw [IntKind.wrap_i64]; omega
  go_enter Try.func22, Try.ntmps22
  go_wp2_with fail
  go_quiet ((go_at_call 19; exact Calls.quiet_of_same (HM.out _)))
  go_wp2_with (go_at_call 19; refine (HK.out _).mono ?_; rintro e wx ⟨rfl, rfl⟩)
  exact bodyPost_ret (v := .agg #[.int .i64 (a + m), .int .i64 (a + m + k)]) (by simp [results, Try.results22, go_sem]) rfl ⟨a + m, a + m + k, rfl, by omega, by omega, by omega, below_put2 (below_drawn (balloc (balloc (Below.refl _ _) _) _) _) (by omega) _ _ _ _⟩
/-- A range inside the pages, none of which is mapped. -/
theorem undo1 (rs : List (Int × Int)) (F T : Int) (hv : RgV rs) (h0 : 0 ≤ F) (h1 : F ≤ T) (h2 : T ≤ 63) (hno : ∀ p : Nat, F ≤ (p : Int) → (p : Int) ≤ T → hasP rs p = false) :
    ∃ L, L.length ≤ 64 ∧ mapR rs F T 64 = (L, 0) ∧ unmR L F T = (rs, 0) := by
  have hb : ∀ l, RgV l → begE l F T = 0 := fun l h => by unfold begE rngE; rw [h.ok]; simp; omega
  have hany : anyIn rs F T = false := by
    rw [Bool.eq_false_iff]
    intro hc
    obtain ⟨q, q1, q2, q3⟩ := (anyIn_iff _ _ _ h2).1 hc
    rw [hno q q1 q2] at q3
    cases q3
  have hL := regs_v (addF rs F T)
  refine ⟨regs (addF rs F T), regs_le _, ?_, ?_⟩
  · unfold mapR
    rw [if_neg (by simp [hb rs hv]), if_neg (by simp [hany]), if_neg (by have := cntP_le (addF rs F T); omega)]
  · unfold unmR
    have hall : allIn (regs (addF rs F T)) F T = true := (allIn_iff _ _ _ h2).2 (fun p p1 p2 => by
      rw [regs_has _ p (by omega)]
      unfold addF inR
      rw [decide_eq_true p1, decide_eq_true p2]; simp)
    rw [if_neg (by simp [hb _ hL]), if_neg (by simp [hall])]
    refine congrArg (fun z => (z, (0 : Int))) (regs_of hv (fun p hp => ?_)).symm
    unfold subF
    rw [regs_has _ p hp]
    unfold addF
    rcases hi : inR F T p with _ | _
    · simp
    · have : F ≤ (p : Int) ∧ (p : Int) ≤ T := by simpa [inR] using hi
      rw [hno p this.1 this.2]; simp
theorem undo2 (rs : List (Int × Int)) (F T : Int) (hv : RgV rs) (h0 : 0 ≤ F) (h1 : F ≤ T) (h2 : T ≤ 63) (hyes : ∀ p : Nat, F ≤ (p : Int) → (p : Int) ≤ T → hasP rs p = true) :
    ∃ L, L.length ≤ 64 ∧ unmR rs F T = (L, 0) ∧ mapR L F T 64 = (rs, 0) := by
  have hb : ∀ l, RgV l → begE l F T = 0 := fun l h => by unfold begE rngE; rw [h.ok]; simp; omega
  have hall : allIn rs F T = true := (allIn_iff _ _ _ h2).2 hyes
  have hL := regs_v (subF rs F T)
  have hany : anyIn (regs (subF rs F T)) F T = false := by
    rw [Bool.eq_false_iff]
    intro hc
    obtain ⟨q, q1, q2, q3⟩ := (anyIn_iff _ _ _ h2).1 hc
    rw [regs_has _ q (by omega)] at q3
    unfold subF inR at q3
    rw [decide_eq_true q1, decide_eq_true q2] at q3
    simp at q3
  refine ⟨regs (subF rs F T), regs_le _, ?_, ?_⟩
  · unfold unmR
    rw [if_neg (by simp [hb rs hv]), if_neg (by simp [hall])]
  · unfold mapR
    rw [if_neg (by simp [hb _ hL]), if_neg (by simp [hany]), if_neg (by have := cntP_le (addF (regs (subF rs F T)) F T); omega)]
    refine congrArg (fun z => (z, (0 : Int))) (regs_of hv (fun p hp => ?_)).symm
    unfold addF
    rw [regs_has _ p hp]
    unfold subF
    rcases hi : inR F T p with _ | _
    · simp
    · have : F ≤ (p : Int) ∧ (p : Int) ≤ T := by simpa [inR] using hi
      rw [hyes p this.1 this.2]; simp
theorem part_in {l : List (Int × Int)} {i : Nat} {a b F T : Int} (hv : RgV l) (hi : i < l.length) (hg : l.getD i (0, 0) = (a, b)) (hF : a ≤ F) (hT : T ≤ b) (p : Nat) (p1 : F ≤ (p : Int)) (p2 : (p : Int) ≤ T) : hasP l p = true :=
  (hasP_iff l p).2 ⟨i, hi, by rw [hg]; show a ≤ (p : Int); omega, by rw [hg]; show (p : Int) ≤ b; omega⟩
end Go.Proofs.Ytfblbkhiaglelaa
