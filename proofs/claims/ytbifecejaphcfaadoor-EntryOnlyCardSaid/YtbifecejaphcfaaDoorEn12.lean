/- Entries of a page table: the number at the beginning of a text, by the reference. -/
import Derived.Test.YtbifecejaphcfaaDoorEn11
namespace Go.Proofs.YtbifecejaphcfaaDoor
open Go Go.Proofs Go.RowKit
set_option linter.unusedSimpArgs false
set_option linter.unusedVariables false

/-- How many digits a text begins with, at most four. -/
def dcnt (l : List UInt8) : Nat := ((l.take 4).takeWhile isD).length
theorem dcnt_of (l : List UInt8) (k : Nat) (hk : k ≤ l.length) (h4 : k ≤ 4) (hall : (l.take k).all isD = true) (hstop : k = l.length ∨ k = 4 ∨ ∃ c, l[k]? = some c ∧ isD c = false) : dcnt l = k := by
  unfold dcnt
  have e : l.take 4 = l.take k ++ (l.drop k).take (4 - k) := by
    conv => lhs; rw [show 4 = k + (4 - k) by omega, List.take_add]
  rw [e, List.takeWhile_append_of_pos (by simpa using hall)]
  rw [List.length_append, List.length_take, Nat.min_eq_left hk]
  have : ((l.drop k).take (4 - k)).takeWhile isD = [] := by
    rcases hstop with h | h | ⟨c, h1, h2⟩
    · rw [List.drop_of_length_le (by omega)]; simp
    · rw [show 4 - k = 0 by omega]; simp
    · by_cases h5 : k = 4
      · rw [show 4 - k = 0 by omega]; simp
      · obtain ⟨m, hm⟩ : ∃ m, 4 - k = m + 1 := ⟨3 - k, by omega⟩
        have hd : l.drop k = c :: l.drop (k + 1) := by
          have hlt : k < l.length := (List.getElem?_eq_some_iff.1 h1).1
          rw [List.drop_eq_getElem_cons hlt]
          congr 1
          exact (List.getElem?_eq_some_iff.1 h1).2
        rw [hm, hd, List.take_succ_cons, List.takeWhile_cons, h2]
        rfl
  rw [this]
  simp
/-- The number, and how many digits it has; 0 digits if there is none. -/
def numP (l : List UInt8) : Nat × Nat := if 3 < dcnt l ∨ (1 < dcnt l ∧ l.getD 0 0 = 48) then (0, 0) else (numV (l.take (dcnt l)), dcnt l)
theorem take_snoc (s : ByteArray) (k : Nat) (h : k < s.size) : s.data.toList.take (k + 1) = s.data.toList.take k ++ [s[k]] := by
  rw [List.take_succ_eq_append_getElem (by simpa using h)]; rfl

set_option maxHeartbeats 1000000 in
theorem rnumber_any (s : ByteArray) (w : World) (hs : s.size ≤ 100000) :
    Calls Tryd.prog 45 #[.string s] w fun e w' => e = .returned (.tuple #[.int .i64 (numP s.data.toList).1, .int .i64 (numP s.data.toList).2]) ∧ w = w' := by
  have hsl : s.data.toList.length = s.size := by simp
  have HSL := Lib.hid hsl
  clear hsl
  go_enter Tryd.func45, Tryd.ntmps45
  go_wp2
  go_loop [4, 5] (fun n i => ∃ k : Nat, k ≤ s.size ∧ k ≤ 4 ∧ i = .int .i64 k ∧ n = .int .i64 (numV (s.data.toList.take k)) ∧ Hid ((s.data.toList.take k).all isD = true)) (fun _ i => 5 - (intOf i).toNat)
  case atStart => exact ⟨0, by omega, by omega, rfl, rfl, Lib.hid rfl⟩
  case round =>
    obtain ⟨k, hk, hk4, rfl, rfl, Hall⟩ := hrel
    have hbd := numV_lt _ Hall.out
    have hlen : (s.data.toList.take k).length = k := by rw [List.length_take, HSL.out]; omega
    rw [hlen] at hbd
    have hbd2 : numV (s.data.toList.take k) < 10000 := by
      have : 10 ^ k ≤ 10 ^ 4 := Nat.pow_le_pow_right (by omega) hk4
      omega
    clear hbd hlen
    by_cases hgo : ∃ h : k < s.size, isD s[k] = true ∧ k < 4
    · obtain ⟨hlt, hd, hk3⟩ := hgo
      have HT := Lib.hid (take_snoc s k hlt)
      have HV := Lib.hid (numV_snoc (s.data.toList.take k) s[k])
      have HD := Lib.hid hd
      have hd2 := hd
      unfold isD at hd2
      simp at hd2
      obtain ⟨hd3, hd4⟩ := hd2
      have hd5 : (48 : Int) ≤ (s[k].toNat : Int) := by omega
      have hd6 : (s[k].toNat : Int) ≤ 57 := by omega
      generalize numV (s.data.toList.take k) = v at HV hbd2
      clear hd
      go_wp2_with fail
      go_round
      case rel =>
        refine ⟨k + 1, by omega, by omega, by go_num, ?_, Lib.hid (by rw [HT.out, List.all_append, Hall.out]; simp [HD.out])⟩
        rw [HT.out, HV.out]
        refine val_int ?_
        omega
      case measure => simp [intOf]; omega
    · have hdc : dcnt s.data.toList = k := by
        refine dcnt_of _ k (by rw [HSL.out]; exact hk) hk4 Hall.out ?_
        by_cases h1 : k < s.size
        · by_cases h2 : k < 4
          · right; right
            refine ⟨s[k], ?_, ?_⟩
            · rw [List.getElem?_eq_getElem (by rw [HSL.out]; exact h1)]; rfl
            · rw [Bool.eq_false_iff]; intro h3; exact hgo ⟨h1, h3, h2⟩
          · right; left; omega
        · left; rw [HSL.out]; omega
      have HP1 : Hid ((3 < k ∨ (1 < k ∧ s.data.toList.getD 0 0 = 48)) → numP s.data.toList = (0, 0)) := Lib.hid fun h => by unfold numP; rw [hdc, if_pos h]
      have HP2 : Hid (¬ (3 < k ∨ (1 < k ∧ s.data.toList.getD 0 0 = 48)) → numP s.data.toList = (numV (s.data.toList.take k), k)) := Lib.hid fun h => by unfold numP; rw [hdc, if_neg h]
      have H0 : Hid (∀ h : 0 < s.size, s.data.toList.getD 0 0 = s[0]) := Lib.hid fun h => by
        rw [List.getD_eq_getElem?_getD, List.getElem?_eq_getElem (by rw [HSL.out]; exact h)]; rfl
      have hstop : ¬ (k < s.size) ∨ (∃ h : k < s.size, (s[k].toNat < 48 ∨ (48 ≤ s[k].toNat ∧ 57 < s[k].toNat))) ∨ (∃ h : k < s.size, (48 ≤ s[k].toNat ∧ s[k].toNat ≤ 57) ∧ ¬ k < 4) := by
        by_cases h1 : k < s.size
        · by_cases h2 : isD s[k] = true
          · refine .inr (.inr ⟨h1, ?_, fun h3 => hgo ⟨h1, h2, h3⟩⟩)
            unfold isD at h2; simp at h2; exact h2
          · refine .inr (.inl ⟨h1, ?_⟩)
            unfold isD at h2; simp at h2; omega
        · exact .inl h1
      clear hgo hdc
      generalize numV (s.data.toList.take k) = v at HP2 hbd2
      rcases hstop with h1 | ⟨h1, h2 | ⟨h2, h3⟩⟩ | ⟨h1, ⟨h2, h3⟩, h4⟩
      all_goals
        go_wp2_with fail
        all_goals
          go_ret2
          first
            | (have h : 3 < (k : Int) := by assumption
               have hv := HP1.out (.inl (by omega))
               exact ⟨by rw [hv]; rfl, rfl⟩)
            | (have h : (k : Int) ≤ 1 := by assumption
               have hv := HP2.out (by omega)
               exact ⟨by rw [hv]; rfl, rfl⟩)
            | (have hz : 0 < s.size := by assumption
               have h5 : 1 < (k : Int) := by assumption
               have h6 : (k : Int) ≤ 3 ∧ ((s[0].toNat : Int) == 48) = false := by assumption
               have h7 : ¬ (s.data.toList.getD 0 0 = 48) := by
                 rw [H0.out hz]
                 intro h8
                 have h9 := h6.2
                 rw [h8] at h9
                 exact absurd h9 (by decide)
               have hv := HP2.out (fun h => h.elim (fun h => by omega) (fun h => h7 h.2))
               exact ⟨by rw [hv]; rfl, rfl⟩)
            | (have hz : 0 < s.size := by assumption
               have h5 : 1 < (k : Int) := by assumption
               have h6 : 3 < (k : Int) ∨ ((s[0].toNat : Int) == 48) = true := by assumption
               have h5' : (k : Int) ≤ 3 := by assumption
               have h7 : s.data.toList.getD 0 0 = 48 := by
                 rw [H0.out hz]
                 apply UInt8.toNat_inj.1
                 show s[0].toNat = 48
                 rcases h6 with h6 | h6
                 · omega
                 · have := beq_iff_eq.1 h6; omega
               have hv := HP1.out (.inr ⟨by omega, h7⟩)
               exact ⟨by rw [hv]; rfl, rfl⟩)
end Go.Proofs.YtbifecejaphcfaaDoor
