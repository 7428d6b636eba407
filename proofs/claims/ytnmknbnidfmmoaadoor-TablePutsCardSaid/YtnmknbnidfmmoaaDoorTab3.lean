/- Which page tables are valid: the program. -/
import Derived.Test.YtnmknbnidfmmoaaDoorTab2
import Derived.IntWalk
namespace Go.Proofs.YtnmknbnidfmmoaaDoor
open Go Go.Proofs Go.RowKit
set_option linter.unusedSimpArgs false
set_option linter.unusedVariables false
set_option maxRecDepth 100000

theorem isFrame_t (n : Int) (w : World) (h0 : 0 ≤ n) (h1 : n < 256) :
    Calls Tryd.prog 43 #[.int .i64 n] w fun e w' => e = .returned (.bool true) ∧ w = w' := by
  go_enter Tryd.func43, Tryd.ntmps43
  go_wp2
  go_ret
  exact ⟨rfl, rfl⟩
theorem isFrame_f (n : Int) (w : World) (h : n < 0 ∨ 256 ≤ n) :
    Calls Tryd.prog 43 #[.int .i64 n] w fun e w' => e = .returned (.bool false) ∧ w = w' := by
  rcases h with h | h
  · have d1 : decide (0 ≤ n) = false := by simp; omega
    go_enter Tryd.func43, Tryd.ntmps43
    go_wp2
    go_ret
    exact ⟨rfl, rfl⟩
  · have d1 : decide (0 ≤ n) = true := by simp; omega
    have d2 : decide (n < 256) = false := by simp; omega
    go_enter Tryd.func43, Tryd.ntmps43
    go_wp2
    go_ret
    exact ⟨rfl, rfl⟩
theorem isFrame_any (n : Int) (w : World) :
    Calls Tryd.prog 43 #[.int .i64 n] w fun e w' => e = .returned (.bool (decide (0 ≤ n ∧ n < 256))) ∧ w = w' := by
  by_cases h : 0 ≤ n ∧ n < 256
  · rw [decide_eq_true h]; exact isFrame_t n w h.1 h.2
  · rw [decide_eq_false h]; exact isFrame_f n w (by omega)

/-- Whether one of the first k leaves is there. -/
def thB (ls : List Int) (k : Nat) : Bool := (List.range k).any fun j => ls.getD j 0 != -1
theorem thB_succ (ls : List Int) (k : Nat) : thB ls (k + 1) = (thB ls k || (ls.getD k 0 != -1)) := by simp [thB, List.range_succ]
theorem st_of (r : Int) (ls : List Int) (hb : ∀ i, i < 8 → -1 ≤ ls.getD i 0) (hr : -1 ≤ r) : fst0 (stE r ls) 8 = if thB ls 8 = true ∧ r = -1 then 9 else 0 := by
  by_cases h : thB ls 8 = true ∧ r = -1
  · rw [if_pos h]
    obtain ⟨h1, h2⟩ := h
    have key : ∀ n, n ≤ 8 → thB ls n = true → fst0 (stE r ls) n = 9 := by
      intro n
      induction n with
      | zero => intro _ h; simp [thB] at h
      | succ n ih =>
        intro hn h
        rw [thB_succ] at h
        unfold fst0
        by_cases h3 : thB ls n = true
        · rw [ih (by omega) h3]; rfl
        · have h4 : ls.getD n 0 ≠ -1 := by simp [h3] at h; simpa using h
          have h5 := hb n (by omega)
          have h6 : stE r ls n = 9 := by unfold stE; rw [if_pos (by omega)]
          have h7 : fst0 (stE r ls) n = 0 := by
            refine (fst0_zero _ _).2 fun k hk => ?_
            unfold stE
            rw [if_neg]
            intro hc
            apply h3
            simp only [thB, List.any_eq_true, List.mem_range]
            refine ⟨k, hk, bne_iff_ne.2 ?_⟩
            intro he
            rw [he] at hc
            omega
          rw [if_neg (by simp [h7]), h6]
    exact key 8 (by omega) h1
  · rw [if_neg h]
    refine (fst0_zero _ _).2 fun k hk => ?_
    unfold stE
    rw [if_neg]
    intro hc
    apply h
    refine ⟨?_, by omega⟩
    simp only [thB, List.any_eq_true, List.mem_range]
    refine ⟨k, hk, bne_iff_ne.2 ?_⟩
    intro he
    rw [he] at hc
    omega

set_option maxHeartbeats 2000000 in
theorem checkFrames_any (r : Int) (A B : Option Addr) (c m d : Nat) (ls : List Int) (w : World) (h1 : ls.length = 8) (hA : Rd w 1 A 8 (iw ls)) (hc8 : 8 ≤ c) :
    Calls Tryd.prog 46 #[tabV r A 8 c B m d] w fun e w' => e = .returned (.int .i64 (frmE r ls)) ∧ Below w.heap.size w w' := by
  unfold tabV
  have kT := Bk.new w #[.int .i64 r, .slice A 8 c, .slice B m d] 25
  have hB1 := balloc (Below.refl _ w) (.cells #[.int .i64 r, .slice A 8 c, .slice B m d] 25)
  have hA1 := hA.alloc (.cells #[.int .i64 r, .slice A 8 c, .slice B m d] 25)
  by_cases hr : r < -1 ∨ 256 ≤ r
  · have hv : frmE r ls = 2 := by
      have : badF r = 2 := by unfold badF; rw [if_pos hr]
      unfold frmE; rw [orE_l _ (by omega), this]
    rw [hv]
    have hi := isFrame_f r
    have hr1 : (r != -1) = true := by simp; omega
    go_enter Tryd.func46, Tryd.ntmps46
    go_wp2_with (go_at_call 43; refine (isFrame_f r _ (by omega)).mono ?_; rintro e w' ⟨rfl, rfl⟩)
    go_ret
    exact ⟨rfl, hB1⟩
  have Hr : Hid (badF r = 0) := Lib.hid (by unfold badF; rw [if_neg hr])
  have Hr0 : Hid (-1 ≤ r) := Lib.hid (by omega)
  have hr2 : (r != -1) = false ∨ (r != -1) = true ∧ 0 ≤ r ∧ r < 256 := by
    by_cases h : r = -1
    · left; simp [h]
    · right; exact ⟨by simpa using h, by omega, by omega⟩
  clear hr
  generalize hw1 : w.alloc (.cells #[.int .i64 r, .slice A 8 c, .slice B m d] 25) = w1 at *
  obtain ⟨cT, fT, lT⟩ := kT.facts
  have hrest : ∀ (hw1 : True), True := fun _ => trivial
  rcases hr2 with hr2 | ⟨hr2, hr3, hr4⟩
  all_goals
    go_enter Tryd.func46, Tryd.ntmps46
    go_wp2_with (go_at_call 43; refine (isFrame_t r _ hr3 hr4).mono ?_; rintro e w' ⟨rfl, rfl⟩)
    clear hw1
    go_loop [22] (fun i => ∃ k : Nat, k ≤ 8 ∧ i = .int .i64 k ∧ Hid (fst0 (fun i => badF (ls.getD i 0)) k = 0)) (fun i => 8 - (intOf i).toNat)
    case atStart => exact ⟨0, by omega, rfl, Lib.hid rfl⟩
    case round =>
      obtain ⟨k, hk, rfl, Hno⟩ := hrel
      by_cases hlt : k < 8
      · obtain ⟨g, off, z, rfl, hg, hz, hc⟩ := hA1.numb hlt
        by_cases hz1 : z = -1
        · have Hn2 := Lib.hid (fst0_step (fun i => badF (ls.getD i 0)) k Hno.out (by simp only [hz, hz1]; rfl))
          have hz2 : (z != -1) = false := by simp [hz1]
          clear hz1 hz
          go_wp2_with fail
          go_round
          case rel => exact ⟨k + 1, by omega, by go_num, Hn2⟩
          case measure => simp [intOf]; omega
        · have hz2 : (z != -1) = true := by simp [hz1]
          by_cases hz3 : 0 ≤ z ∧ z < 256
          · have Hn2 := Lib.hid (fst0_step (fun i => badF (ls.getD i 0)) k Hno.out (by simp only [hz]; unfold badF; rw [if_neg (by omega)]))
            clear hz1 hz
            go_wp2_with (go_at_call 43; refine (isFrame_t z _ hz3.1 hz3.2).mono ?_; rintro e w' ⟨rfl, rfl⟩)
            go_round
            case rel => exact ⟨k + 1, by omega, by go_num, Hn2⟩
            case measure => simp [intOf]; omega
          · have hv : frmE r ls = 2 := by
              have hb : badF (ls.getD k 0) = 2 := by rw [hz]; unfold badF; rw [if_pos (by omega)]
              unfold frmE
              have : lsE ls = 2 := by
                unfold lsE
                rw [fst0_hit _ k 8 Hno.out (by simp only [hb]; omega) hlt, hb]
              rw [orE_r _ Hr.out, this, orE_l _ (by omega)]
            have Hv := Lib.hid hv
            clear hv hz1 hz
            go_wp2_with (go_at_call 43; refine (isFrame_f z _ (by omega)).mono ?_; rintro e w' ⟨rfl, rfl⟩)
            go_ret
            exact ⟨by rw [Hv.out]; rfl, hB1⟩
      · obtain rfl : k = 8 := by omega
        have Hl : Hid (lsE ls = 0) := Lib.hid (by unfold lsE; exact Hno.out)
        have Hb : Hid (∀ i, i < 8 → -1 ≤ ls.getD i 0) := Lib.hid (fun i hi => (badF_zero ((fst0_zero _ _).1 Hno.out i hi)).1)
        go_wp2_with fail
        clear Hno hk hlt
        go_loop [5, 37] (fun s i => ∃ k : Nat, k ≤ 8 ∧ s = .bool (thB ls k) ∧ i = .int .i64 k ∧ Hid (fst0 (dupE r ls) k = 0)) (fun _ i => 8 - (intOf i).toNat)
        case atStart => exact ⟨0, by omega, rfl, rfl, Lib.hid rfl⟩
        case round =>
          obtain ⟨k, hk, rfl, rfl, Hno⟩ := hrel
          by_cases hlt : k < 8
          · obtain ⟨g, off, z, rfl, hg, hz, hc⟩ := hA1.numb hlt
            have Hz := Lib.hid hz
            by_cases hz1 : z = -1
            · have Hn2 := Lib.hid (fst0_step (dupE r ls) k Hno.out (by unfold dupE; rw [if_neg (by omega)]))
              have Ht : Hid (thB ls (k + 1) = thB ls k) := Lib.hid (by rw [thB_succ, hz, hz1]; simp)
              have hz2 : (z == -1) = true := by simp [hz1]
              clear hz1 hz
              go_wp2_with fail
              go_round
              case rel => exact ⟨k + 1, by omega, by rw [Ht.out], by go_num, Hn2⟩
              case measure => simp [intOf]; omega
            · have hz2 : (z == -1) = false := by simp [hz1]
              have hz0 : 0 ≤ z := by have := Hb.out k hlt; omega
              have Ht : Hid (thB ls (k + 1) = true) := Lib.hid (by rw [thB_succ, hz]; simp [hz1])
              have Hhit : Hid ((z = r ∨ ∃ j, j < k ∧ ls.getD j 0 = z) → frmE r ls = 7) := Lib.hid (fun h => by
                have hd : dupE r ls k = 7 := by unfold dupE; rw [if_pos (by rw [hz]; exact ⟨hz0, h⟩)]
                unfold frmE
                rw [orE_r _ Hr.out, orE_r _ Hl.out, fst0_hit _ k 8 Hno.out (by omega) hlt, hd, orE_l _ (by omega)])
              clear hz1 hz
              by_cases hzr : z = r
              · have hz3 : (z == r) = true := by simp [hzr]
                have Hv := Lib.hid (Hhit.out (.inl hzr))
                clear hzr
                go_wp2_with fail
                go_ret
                exact ⟨by rw [Hv.out]; rfl, hB1⟩
              · have hz3 : (z == r) = false := by simp [hzr]
                have Hzr := Lib.hid hzr
                clear hzr
                have hk2 : k ≤ c := by omega
                have hk3 : (k : Int) ≤ (c : Int) := by omega
                go_wp2_with fail
                go_loop [53] (fun i => ∃ m : Nat, m ≤ k ∧ i = .int .i64 m ∧ Hid (∀ j, j < m → ls.getD j 0 ≠ z)) (fun i => k - (intOf i).toNat)
                case atStart => exact ⟨0, by omega, rfl, Lib.hid (fun j h => by omega)⟩
                case round =>
                  obtain ⟨m2, hm, rfl, Hj⟩ := hrel
                  by_cases hlm : m2 < k
                  · obtain ⟨g', off', y, e', hg', hy, hc'⟩ := hA1.numb (show m2 < 8 by omega)
                    injection e' with e'
                    injection e' with e1 e2
                    subst e1 e2
                    by_cases hzy : z = y
                    · have hz4 : (z == y) = true := by simp [hzy]
                      have Hv := Lib.hid (Hhit.out (.inr ⟨m2, hlm, by rw [hy, hzy]⟩))
                      clear hzy hy
                      go_wp2_with fail
                      go_ret
                      exact ⟨by rw [Hv.out]; rfl, hB1⟩
                    · have hz4 : (z == y) = false := by simp [hzy]
                      have Hj2 : Hid (∀ j, j < m2 + 1 → ls.getD j 0 ≠ z) := Lib.hid (fun j h => by
                        rcases Nat.lt_or_ge j m2 with h' | h'
                        · exact Hj.out j h'
                        · rw [show j = m2 by omega, hy]; exact fun e => hzy e.symm)
                      clear hzy hy
                      go_wp2_with fail
                      go_round
                      case rel => exact ⟨m2 + 1, by omega, by go_num, Hj2⟩
                      case measure => simp [intOf]; omega
                  · obtain rfl : m2 = k := by omega
                    have Hn2 := Lib.hid (fst0_step (dupE r ls) m2 Hno.out (by
                      unfold dupE
                      rw [if_neg]
                      rintro ⟨_, h | ⟨j, h1, h2⟩⟩
                      · exact Hzr.out (by rw [← Hz.out]; exact h)
                      · exact Hj.out j h1 (by rw [h2, Hz.out])))
                    go_wp2_with fail
                    go_round
                    case rel => exact ⟨m2 + 1, by omega, by rw [Ht.out], by go_num, Hn2⟩
                    case measure => simp [intOf]; omega
          · obtain rfl : k = 8 := by omega
            have Hf : Hid (frmE r ls = if thB ls 8 = true ∧ r = -1 then 9 else 0) := Lib.hid (by
              unfold frmE
              rw [orE_r _ Hr.out, orE_r _ Hl.out, orE_r _ Hno.out, st_of r ls Hb.out Hr0.out])
            clear Hno
            rcases hth : thB ls 8 with _ | _
            · have Hv : Hid (frmE r ls = 0) := Lib.hid (by rw [Hf.out, hth]; rfl)
              clear Hf
              go_wp2_with fail
              go_ret
              exact ⟨by rw [Hv.out]; rfl, hB1⟩
            · by_cases hre : r = -1
              · have hre2 : (r == -1) = true := by simp [hre]
                have Hv : Hid (frmE r ls = 9) := Lib.hid (by rw [Hf.out, if_pos ⟨hth, hre⟩])
                clear hre Hf
                go_wp2_with fail
                go_ret
                exact ⟨by rw [Hv.out]; rfl, hB1⟩
              · have hre2 : (r == -1) = false := by simp [hre]
                have Hv : Hid (frmE r ls = 0) := Lib.hid (by rw [Hf.out, if_neg (fun h => hre h.2)])
                clear hre Hf
                go_wp2_with fail
                go_ret
                exact ⟨by rw [Hv.out]; rfl, hB1⟩
end Go.Proofs.YtnmknbnidfmmoaaDoor
