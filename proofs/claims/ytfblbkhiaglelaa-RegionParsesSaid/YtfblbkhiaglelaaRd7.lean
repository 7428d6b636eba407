/- The text of regions: a number of a text, by the reference. -/
import Derived.Test.YtfblbkhiaglelaaRd6
namespace Go.Proofs.Ytfblbkhiaglelaa
open Go Go.Proofs Go.RowKit
set_option linter.unusedSimpArgs false
set_option linter.unusedVariables false
set_option maxRecDepth 100000

theorem rdig_t (s : List UInt8) (a : Nat) (w : World) (hs : s.length ≤ 1000) (h : isD (s.getD a 0) = true) :
    Calls Try.prog 58 #[.string ⟨s.toArray⟩, .int .i64 a] w fun e w' => e = .returned (.bool true) ∧ w = w' := by
  have hlt : a < s.length := by
    by_cases hl : a < s.length
    · exact hl
    · rw [gd_out s a (by omega), isD_zero] at h; cases h
  have hx := byte_at s a hlt
  obtain ⟨h1, h2⟩ := isD_b h
  obtain ⟨c, hc⟩ : ∃ c, (s.getD a 0).toNat = c := ⟨_, rfl⟩
  rw [hc] at hx h1 h2
  have hI : (a : Int) < (s.length : Int) := by omega
  have e1 : (48 : Int) ≤ (c : Int) := by omega
  have e2 : (c : Int) ≤ 57 := by omega
  clear hc h
  go_enter Try.func58, Try.ntmps58
  go_wp2_with fail
  go_ret
  exact ⟨rfl, rfl⟩
theorem rdig_f (s : List UInt8) (a : Nat) (w : World) (hs : s.length ≤ 1000) (ha : a ≤ 2000) (h : isD (s.getD a 0) = false) :
    Calls Try.prog 58 #[.string ⟨s.toArray⟩, .int .i64 a] w fun e w' => e = .returned (.bool false) ∧ w = w' := by
  by_cases hlt : a < s.length
  · have hx := byte_at s a hlt
    have h1 : ¬ (48 ≤ (s.getD a 0).toNat ∧ (s.getD a 0).toNat ≤ 57) := fun h' => by rw [isD_t h'.1 h'.2] at h; cases h
    obtain ⟨c, hc⟩ : ∃ c, (s.getD a 0).toNat = c := ⟨_, rfl⟩
    rw [hc] at hx h1
    have hI : (a : Int) < (s.length : Int) := by omega
    clear hc h
    by_cases h2 : c < 48
    · have e1 : ¬ (48 : Int) ≤ (c : Int) := by omega
      clear h1
      go_enter Try.func58, Try.ntmps58
      go_wp2_with fail
      go_ret
      exact ⟨rfl, rfl⟩
    · have e1 : (48 : Int) ≤ (c : Int) := by omega
      have e2 : ¬ (c : Int) ≤ 57 := by omega
      clear h1
      go_enter Try.func58, Try.ntmps58
      go_wp2_with fail
      go_ret
      exact ⟨rfl, rfl⟩
  · have hI : ¬ (a : Int) < (s.length : Int) := by omega
    clear h
    go_enter Try.func58, Try.ntmps58
    go_wp2_with fail
    go_ret
    exact ⟨rfl, rfl⟩
def NumA (s : List UInt8) (a : Nat) (R : Nat × Nat × Bool) : Ending := .returned (.tuple #[.int .i64 R.1, .int .i64 ((a + R.2.1 : Nat) : Int), .bool R.2.2])
set_option maxHeartbeats 1000000 in
theorem rnumber_any (s : List UInt8) (a : Nat) (w : World) (hs : s.length ≤ 1000) (ha : a ≤ s.length) :
    Calls Try.prog 50 #[.string ⟨s.toArray⟩, .int .i64 a] w fun e w' => e = NumA s a (numL (s.drop a)) ∧ w = w' := by
  by_cases h0 : isD (s.getD a 0) = true
  · have hlt : a < s.length := by
      by_cases hl : a < s.length
      · exact hl
      · rw [gd_out s a (by omega), isD_zero] at h0; cases h0
    have hx := byte_at s a hlt
    have H0 := Lib.hid (rdig_t s a w hs h0)
    obtain ⟨h1, h2⟩ := isD_b h0
    have HN1 := Lib.hid (numL_1 s a h0)
    have HN2 := Lib.hid (numL_2 s a h0)
    obtain ⟨c, hc⟩ : ∃ c, (s.getD a 0).toNat = c := ⟨_, rfl⟩
    rw [hc] at hx h1 h2 HN1 HN2
    obtain ⟨n, rfl⟩ : ∃ n, c = n + 48 := ⟨c - 48, by omega⟩
    rw [show n + 48 - 48 = n by omega] at HN1 HN2
    have hI : (a : Int) < (s.length : Int) := by omega
    have hn9 : n ≤ 9 := by omega
    have hw : IntKind.u8.wrap (((n + 48 : Nat) : Int) - 48) = (n : Int) := by
      rw [show ((n + 48 : Nat) : Int) - 48 = (n : Int) by omega]
      simp [IntKind.wrap, IntKind.bits, IntKind.signed]; omega
    clear hc h0
    by_cases hz : n = 0
    · subst hz
      have HV := Lib.hid (HN1.out (.inl (by omega)))
      clear HN1 HN2
      go_enter Try.func50, Try.ntmps50
      go_wp2_with (go_at_call 58; refine H0.out.mono ?_; rintro e w' ⟨rfl, rfl⟩)
      go_ret3
      exact ⟨by rw [HV.out]; rfl, rfl⟩
    · have hnI : (0 : Int) < (n : Int) := by omega
      rcases h3 : isD (s.getD (a + 1) 0) with _ | _
      · have HV := Lib.hid (HN1.out (.inr h3))
        have H1 := Lib.hid (rdig_f s (a + 1) w hs (by omega) h3)
        rw [show ((a + 1 : Nat) : Int) = (a : Int) + 1 by omega] at H1
        clear HN1 HN2 h3
        go_enter Try.func50, Try.ntmps50
        go_wp2_with (first | (go_at_call 58; (with_reducible refine H0.out.mono ?_); rintro e w' ⟨rfl, rfl⟩) | (go_at_call 58; (with_reducible refine H1.out.mono ?_); rintro e w' ⟨rfl, rfl⟩))
        go_ret3
        exact ⟨by rw [HV.out]; rfl, rfl⟩
      · have HV := Lib.hid (HN2.out (by omega) h3)
        have H1 := Lib.hid (rdig_t s (a + 1) w hs h3)
        rw [show ((a + 1 : Nat) : Int) = (a : Int) + 1 by omega] at H1
        have hlt2 : a + 1 < s.length := by
          by_cases hl : a + 1 < s.length
          · exact hl
          · rw [gd_out s (a + 1) (by omega), isD_zero] at h3; cases h3
        have hx2 := byte_at s (a + 1) hlt2
        obtain ⟨h4, h5⟩ := isD_b h3
        obtain ⟨d, hd⟩ : ∃ d, (s.getD (a + 1) 0).toNat = d := ⟨_, rfl⟩
        rw [hd] at hx2 h4 h5 HV
        obtain ⟨m, rfl⟩ : ∃ m, d = m + 48 := ⟨d - 48, by omega⟩
        rw [show m + 48 - 48 = m by omega] at HV
        have hm9 : m ≤ 9 := by omega
        have hI2 : (a : Int) + 1 < (s.length : Int) := by omega
        have hI3 : ((a : Int) + 1).toNat = a + 1 := by omega
        have hI4 : (0 : Int) ≤ (a : Int) + 1 := by omega
        clear HN1 HN2 h3 hd
        go_enter Try.func50, Try.ntmps50
        go_wp2_with (first | (go_at_call 58; (with_reducible refine H0.out.mono ?_); rintro e w' ⟨rfl, rfl⟩) | (go_at_call 58; (with_reducible refine H1.out.mono ?_); rintro e w' ⟨rfl, rfl⟩))
        go_ret3
        exact ⟨by rw [HV.out]; unfold NumA; simp only; rw [Int.natCast_add, Int.natCast_mul, Int.natCast_add]; rfl, rfl⟩
  · have h0 : isD (s.getD a 0) = false := by simpa using h0
    have HV := Lib.hid (numL_0 s a h0)
    have H0 := Lib.hid (rdig_f s a w hs (by omega) h0)
    clear h0
    go_enter Try.func50, Try.ntmps50
    go_wp2_with (go_at_call 58; refine H0.out.mono ?_; rintro e w' ⟨rfl, rfl⟩)
    go_ret3
    exact ⟨by rw [HV.out]; rfl, rfl⟩
end Go.Proofs.Ytfblbkhiaglelaa
