/- Which entry a text is, by the reference. -/
import Derived.Test.YtbifecejaphcfaaDoorEn14
namespace Go.Proofs.YtbifecejaphcfaaDoor
open Go Go.Proofs Go.RowKit
set_option linter.unusedSimpArgs false
set_option linter.unusedVariables false

theorem progR_nil : progR [] = ((0, 0, false, false, false), 3) := by decide
theorem progR_cons (c : UInt8) (t : List UInt8) (h : ¬ (c = 45 ∧ t = [])) : progR (c :: t) = if c = 115 then refS t else if c = 112 then refP t else errP 3 := by
  unfold progR
  rw [if_neg (by simpa using h), ref_s, ref_p]
  unfold Lib.hasPrefix Lib.trimPrefix Lib.hasPrefix
  by_cases h1 : c = 115
  · subst h1; simp
  · by_cases h2 : c = 112
    · subst h2; simp [h1]
    · simp [h1, h2, Ne.symm h1, Ne.symm h2]

theorem ext_drop (c : UInt8) (t : List UInt8) (i : Nat) (h : i ≤ t.length) : (⟨(c :: t).toArray⟩ : ByteArray).extract (1 + i) (t.length + 1) = ⟨(t.drop i).toArray⟩ := by
  apply ByteArray.ext
  rw [ByteArray.data_extract]
  show (c :: t).toArray.extract (1 + i) (t.length + 1) = (t.drop i).toArray
  rw [List.extract_toArray, List.extract_eq_take_drop]
  congr 1
  rw [Nat.add_comm 1 i, List.drop_succ_cons, List.take_of_length_le (by simp)]
theorem ext_one (c : UInt8) (t : List UInt8) : (⟨(c :: t).toArray⟩ : ByteArray).extract 1 (t.length + 1) = ⟨t.toArray⟩ := by
  have := ext_drop c t 0 (Nat.zero_le _)
  simpa using this
theorem rnumber_l (t : List UInt8) (w : World) (ht : t.length ≤ 100000) :
    Calls Tryd.prog 45 #[.string ⟨t.toArray⟩] w fun e w' => e = .returned (.tuple #[.int .i64 (numP t).1, .int .i64 (numP t).2]) ∧ w = w' :=
  rnumber_any ⟨t.toArray⟩ w (by show t.toArray.size ≤ _; simpa using ht)
theorem numP_le (t : List UInt8) : (numP t).2 ≤ t.length ∧ (numP t).2 ≤ 3 ∧ (numP t).1 < 1000 := by
  by_cases h0 : (numP t).2 = 0
  · refine ⟨by omega, by omega, ?_⟩
    unfold numP at h0 ⊢
    split at h0
    · rename_i hc; rw [if_pos hc]; omega
    · rename_i hc
      rw [if_neg hc]
      simp only at h0 ⊢
      rw [h0, List.take_zero]
      decide
  · obtain ⟨h1, h2, _, h4, h5⟩ := numR_some _ _ (numP_back t h0)
    have h6 := numV_lt _ h4
    have h7 : 10 ^ (t.take (numP t).2).length ≤ 10 ^ 3 := Nat.pow_le_pow_right (by omega) h2
    have hle : (numP t).2 ≤ t.length := by
      have hd : dcnt t ≤ t.length := ((List.takeWhile_prefix _).trans (List.take_prefix _ _)).length_le
      unfold numP
      split
      · exact Nat.zero_le _
      · exact hd
    rw [List.length_take, Nat.min_eq_left hle] at h2
    exact ⟨hle, h2, by omega⟩

set_option maxRecDepth 100000 in
set_option maxHeartbeats 4000000 in
theorem rParse_any (l : List UInt8) (w : World) (hl : l.length ≤ 10000) :
    Calls Tryd.prog 29 #[.string ⟨l.toArray⟩] w fun e w' => EnRes w w' (progR l) e := by
  rcases l with _ | ⟨c, t⟩
  · have HV := Lib.hid progR_nil
    go_enter Tryd.func29, Tryd.ntmps29
    go_wp2_with fail
    exact bodyPost_ret (v := .tuple #[.agg #[.int .i64 0, .int .i64 0, .bool false, .bool false, .bool false], .int .i64 3]) (by simp [results, Tryd.results29, go_sem]) rfl ⟨by rw [HV.out], balloc (Below.refl _ _) _⟩
  by_cases h45 : c = 45 ∧ t = []
  · obtain ⟨rfl, rfl⟩ := h45
    have HV : Hid (progR [45] = ((0, 0, false, false, false), 0)) := Lib.hid rfl
    go_enter Tryd.func29, Tryd.ntmps29
    go_wp2_with fail
    exact bodyPost_ret (v := .tuple #[.agg #[.int .i64 0, .int .i64 0, .bool false, .bool false, .bool false], .int .i64 0]) (by simp [results, Tryd.results29, go_sem]) rfl ⟨by rw [HV.out], balloc (Below.refl _ _) _⟩
  have hR := progR_cons c t h45
  have h45b : (c :: t == [45]) = false := by simpa using h45
  simp only [List.length_cons] at hl
  have hc0 : ((⟨(c :: t).toArray⟩ : ByteArray)[0]'(by show 0 < (c :: t).toArray.size; simp)) = c := rfl
  by_cases h1 : c = 115
  · rw [if_pos h1] at hR
    have HV := Lib.hid hR
    subst h1
    have hcI : (((⟨(115 :: t).toArray⟩ : ByteArray)[0]'(by show 0 < (115 :: t).toArray.size; simp)).toNat : Int) = 115 := rfl
    clear hR h45 hc0
    obtain ⟨hn1, hn2, hn3⟩ := numP_le t
    have hRS : refS t = if (numP t).2 = 0 ∨ t.drop (numP t).2 ≠ [] then errP 3 else if 255 < (numP t).1 then errP 2 else ((2, ((numP t).1 : Int), false, false, false), 0) := rfl
    have hnum := rnumber_l t
    rcases hq : numP t with ⟨v, i⟩
    rw [hq] at hn1 hn2 hn3 hRS hnum
    simp only at hn1 hn2 hn3 hRS hnum
    have hext := ext_drop 115 t i hn1
    generalize t.drop i = r at *
    have HNUM := Lib.hid hnum
    have HRS := Lib.hid hRS
    clear hq hnum hRS
    go_enter Tryd.func29, Tryd.ntmps29
    go_wp2_with fail
    rw [ext_one]
    refine (HNUM.out _ (by omega)).mono ?_
    rintro e w' ⟨rfl, rfl⟩
    go_wp2_with fail
    all_goals first
        | (have h : i = 0 := by assumption
           have hv : refS t = errP 3 := by rw [HRS.out, if_pos (.inl h)]
           exact bodyPost_ret (v := .tuple #[.agg #[.int .i64 0, .int .i64 0, .bool false, .bool false, .bool false], .int .i64 3]) (by simp [results, Tryd.results29, go_sem]) rfl ⟨by rw [HV.out, hv] <;> rfl, balloc (balloc (Below.refl _ _) _) _⟩)
        | (have h : ¬ r = [] := by assumption
           have hv : refS t = errP 3 := by rw [HRS.out, if_pos (.inr h)]
           exact bodyPost_ret (v := .tuple #[.agg #[.int .i64 0, .int .i64 0, .bool false, .bool false, .bool false], .int .i64 3]) (by simp [results, Tryd.results29, go_sem]) rfl ⟨by rw [HV.out, hv] <;> rfl, balloc (balloc (Below.refl _ _) _) _⟩)
        | (have h0 : ¬ i = 0 := by assumption
           have h1 : r = [] := by assumption
           have h2 : 255 < (v : Int) := by assumption
           have hv : refS t = errP 2 := by rw [HRS.out, if_neg (by simp [h0, h1]), if_pos (by omega)]
           exact bodyPost_ret (v := .tuple #[.agg #[.int .i64 0, .int .i64 0, .bool false, .bool false, .bool false], .int .i64 2]) (by simp [results, Tryd.results29, go_sem]) rfl ⟨by rw [HV.out, hv] <;> rfl, balloc (balloc (Below.refl _ _) _) _⟩)
        | (have h0 : ¬ i = 0 := by assumption
           have h1 : r = [] := by assumption
           have h2 : (v : Int) ≤ 255 := by assumption
           have hv : refS t = ((2, (v : Int), false, false, false), 0) := by rw [HRS.out, if_neg (by simp [h0, h1]), if_neg (by omega)]
           exact bodyPost_ret (v := .tuple #[.agg #[.int .i64 2, .int .i64 v, .bool false, .bool false, .bool false], .int .i64 0]) (by simp [results, Tryd.results29, go_sem]) rfl ⟨by rw [HV.out, hv] <;> rfl, balloc (balloc (Below.refl _ _) _) _⟩)
  rw [if_neg h1] at hR
  have h115 : ((((⟨(c :: t).toArray⟩ : ByteArray)[0]'(by show 0 < (c :: t).toArray.size; simp)).toNat : Int) == 115) = false := by
    rw [hc0]
    rw [Bool.eq_false_iff]
    intro h
    exact h1 (UInt8.toNat_inj.1 (by show c.toNat = 115; have := beq_iff_eq.1 h; omega))
  have h115' : ((((⟨(c :: t).toArray⟩ : ByteArray)[0]'(by show 0 < (c :: t).toArray.size; simp)).toNat : Int) != 115) = true := by simp only [bne, h115]; rfl
  by_cases h2 : c = 112
  · rw [if_pos h2] at hR
    have HV := Lib.hid hR
    subst h2
    have hcI : (((⟨(112 :: t).toArray⟩ : ByteArray)[0]'(by show 0 < (112 :: t).toArray.size; simp)).toNat : Int) = 112 := rfl
    clear hR h45 hc0 h115 h115' h1
    obtain ⟨hn1, hn2, hn3⟩ := numP_le t
    have hRS : refP t = if (numP t).2 = 0 then errP 3 else refQ (numP t).1 (t.drop (numP t).2) := rfl
    have hnum := rnumber_l t
    rcases hq : numP t with ⟨v, i⟩
    rw [hq] at hn1 hn2 hn3 hRS hnum
    simp only at hn1 hn2 hn3 hRS hnum
    have hext := ext_drop 112 t i hn1
    generalize t.drop i = r at *
    have HNUM := Lib.hid hnum
    obtain ⟨q1, q2, q3, q4⟩ := refQ_sfx v
    have hcs : r = [119] ∨ r = [119, 114] ∨ r = [99] ∨ r = [99, 114] ∨ (¬ r = [119] ∧ ¬ r = [119, 114] ∧ ¬ r = [99] ∧ ¬ r = [99, 114]) := by
      by_cases e1 : r = [119]
      · exact .inl e1
      by_cases e2 : r = [119, 114]
      · exact .inr (.inl e2)
      by_cases e3 : r = [99]
      · exact .inr (.inr (.inl e3))
      by_cases e4 : r = [99, 114]
      · exact .inr (.inr (.inr (.inl e4)))
      exact .inr (.inr (.inr (.inr ⟨e1, e2, e3, e4⟩)))
    clear hq hnum
    rcases hcs with rfl | rfl | rfl | rfl | ⟨e1, e2, e3, e4⟩
    · rw [q1] at hRS
      have HRS := Lib.hid hRS
      clear hRS q1 q2 q3 q4
      go_enter Tryd.func29, Tryd.ntmps29
      go_wp2_with fail
      rw [ext_one]
      refine (HNUM.out _ (by omega)).mono ?_
      rintro e w' ⟨rfl, rfl⟩
      go_wp2_with fail
      all_goals first
          | (have h : i = 0 := by assumption
             have hv : refP t = errP 3 := by rw [HRS.out, if_pos h]
             exact bodyPost_ret (v := .tuple #[.agg #[.int .i64 0, .int .i64 0, .bool false, .bool false, .bool false], .int .i64 3]) (by simp [results, Tryd.results29, go_sem]) rfl ⟨by rw [HV.out, hv] <;> rfl, balloc (balloc (Below.refl _ _) _) _⟩)
          | (have h0 : ¬ i = 0 := by assumption
             have h2 : 255 < (v : Int) := by assumption
             have hv : refP t = errP 2 := by rw [HRS.out, if_neg h0]; simp only [finP]; rw [if_pos (by omega)]
             exact bodyPost_ret (v := .tuple #[.agg #[.int .i64 0, .int .i64 0, .bool false, .bool false, .bool false], .int .i64 2]) (by simp [results, Tryd.results29, go_sem]) rfl ⟨by rw [HV.out, hv] <;> rfl, balloc (balloc (Below.refl _ _) _) _⟩)
          | (have h0 : ¬ i = 0 := by assumption
             have h2 : (v : Int) ≤ 255 := by assumption
             have hv : refP t = ((1, (v : Int), true, false, false), 0) := by rw [HRS.out, if_neg h0]; simp only [finP]; rw [if_neg (by omega)]
             exact bodyPost_ret (v := .tuple #[.agg #[.int .i64 1, .int .i64 v, .bool true, .bool false, .bool false], .int .i64 0]) (by simp [results, Tryd.results29, go_sem]) rfl ⟨by rw [HV.out, hv] <;> rfl, balloc (balloc (Below.refl _ _) _) _⟩)
    · rw [q2] at hRS
      have HRS := Lib.hid hRS
      clear hRS q1 q2 q3 q4
      go_enter Tryd.func29, Tryd.ntmps29
      go_wp2_with fail
      rw [ext_one]
      refine (HNUM.out _ (by omega)).mono ?_
      rintro e w' ⟨rfl, rfl⟩
      go_wp2_with fail
      all_goals first
          | (have h : i = 0 := by assumption
             have hv : refP t = errP 3 := by rw [HRS.out, if_pos h]
             exact bodyPost_ret (v := .tuple #[.agg #[.int .i64 0, .int .i64 0, .bool false, .bool false, .bool false], .int .i64 3]) (by simp [results, Tryd.results29, go_sem]) rfl ⟨by rw [HV.out, hv] <;> rfl, balloc (balloc (Below.refl _ _) _) _⟩)
          | (have h0 : ¬ i = 0 := by assumption
             have h2 : 255 < (v : Int) := by assumption
             have hv : refP t = errP 2 := by rw [HRS.out, if_neg h0]; simp only [finP]; rw [if_pos (by omega)]
             exact bodyPost_ret (v := .tuple #[.agg #[.int .i64 0, .int .i64 0, .bool false, .bool false, .bool false], .int .i64 2]) (by simp [results, Tryd.results29, go_sem]) rfl ⟨by rw [HV.out, hv] <;> rfl, balloc (balloc (Below.refl _ _) _) _⟩)
          | (have h0 : ¬ i = 0 := by assumption
             have h2 : (v : Int) ≤ 255 := by assumption
             have hv : refP t = ((1, (v : Int), true, false, true), 0) := by rw [HRS.out, if_neg h0]; simp only [finP]; rw [if_neg (by omega)]
             exact bodyPost_ret (v := .tuple #[.agg #[.int .i64 1, .int .i64 v, .bool true, .bool false, .bool true], .int .i64 0]) (by simp [results, Tryd.results29, go_sem]) rfl ⟨by rw [HV.out, hv] <;> rfl, balloc (balloc (Below.refl _ _) _) _⟩)
    · rw [q3] at hRS
      have HRS := Lib.hid hRS
      clear hRS q1 q2 q3 q4
      go_enter Tryd.func29, Tryd.ntmps29
      go_wp2_with fail
      rw [ext_one]
      refine (HNUM.out _ (by omega)).mono ?_
      rintro e w' ⟨rfl, rfl⟩
      go_wp2_with fail
      all_goals first
          | (have h : i = 0 := by assumption
             have hv : refP t = errP 3 := by rw [HRS.out, if_pos h]
             exact bodyPost_ret (v := .tuple #[.agg #[.int .i64 0, .int .i64 0, .bool false, .bool false, .bool false], .int .i64 3]) (by simp [results, Tryd.results29, go_sem]) rfl ⟨by rw [HV.out, hv] <;> rfl, balloc (balloc (Below.refl _ _) _) _⟩)
          | (have h0 : ¬ i = 0 := by assumption
             have h2 : 255 < (v : Int) := by assumption
             have hv : refP t = errP 2 := by rw [HRS.out, if_neg h0]; simp only [finP]; rw [if_pos (by omega)]
             exact bodyPost_ret (v := .tuple #[.agg #[.int .i64 0, .int .i64 0, .bool false, .bool false, .bool false], .int .i64 2]) (by simp [results, Tryd.results29, go_sem]) rfl ⟨by rw [HV.out, hv] <;> rfl, balloc (balloc (Below.refl _ _) _) _⟩)
          | (have h0 : ¬ i = 0 := by assumption
             have h2 : (v : Int) ≤ 255 := by assumption
             have hv : refP t = ((1, (v : Int), false, true, false), 0) := by rw [HRS.out, if_neg h0]; simp only [finP]; rw [if_neg (by omega)]
             exact bodyPost_ret (v := .tuple #[.agg #[.int .i64 1, .int .i64 v, .bool false, .bool true, .bool false], .int .i64 0]) (by simp [results, Tryd.results29, go_sem]) rfl ⟨by rw [HV.out, hv] <;> rfl, balloc (balloc (Below.refl _ _) _) _⟩)
    · rw [q4] at hRS
      have HRS := Lib.hid hRS
      clear hRS q1 q2 q3 q4
      go_enter Tryd.func29, Tryd.ntmps29
      go_wp2_with fail
      rw [ext_one]
      refine (HNUM.out _ (by omega)).mono ?_
      rintro e w' ⟨rfl, rfl⟩
      go_wp2_with fail
      all_goals first
          | (have h : i = 0 := by assumption
             have hv : refP t = errP 3 := by rw [HRS.out, if_pos h]
             exact bodyPost_ret (v := .tuple #[.agg #[.int .i64 0, .int .i64 0, .bool false, .bool false, .bool false], .int .i64 3]) (by simp [results, Tryd.results29, go_sem]) rfl ⟨by rw [HV.out, hv] <;> rfl, balloc (balloc (Below.refl _ _) _) _⟩)
          | (have h0 : ¬ i = 0 := by assumption
             have h2 : 255 < (v : Int) := by assumption
             have hv : refP t = errP 2 := by rw [HRS.out, if_neg h0]; simp only [finP]; rw [if_pos (by omega)]
             exact bodyPost_ret (v := .tuple #[.agg #[.int .i64 0, .int .i64 0, .bool false, .bool false, .bool false], .int .i64 2]) (by simp [results, Tryd.results29, go_sem]) rfl ⟨by rw [HV.out, hv] <;> rfl, balloc (balloc (Below.refl _ _) _) _⟩)
          | (have h0 : ¬ i = 0 := by assumption
             have h2 : (v : Int) ≤ 255 := by assumption
             have hv : refP t = ((1, (v : Int), false, true, true), 0) := by rw [HRS.out, if_neg h0]; simp only [finP]; rw [if_neg (by omega)]
             exact bodyPost_ret (v := .tuple #[.agg #[.int .i64 1, .int .i64 v, .bool false, .bool true, .bool true], .int .i64 0]) (by simp [results, Tryd.results29, go_sem]) rfl ⟨by rw [HV.out, hv] <;> rfl, balloc (balloc (Below.refl _ _) _) _⟩)
    · have hq : refQ v r = errP 3 := by unfold refQ; rw [if_pos (by simp [e1, e2, e3, e4])]
      have hv : refP t = errP 3 := by rw [hRS, hq]; simp
      have HVV := Lib.hid hv
      have b1 : (r == [119]) = false := by simpa using e1
      have b2 : (r == [119, 114]) = false := by simpa using e2
      have b3 : (r == [99]) = false := by simpa using e3
      have b4 : (r == [99, 114]) = false := by simpa using e4
      clear hRS q1 q2 q3 q4 hq hv e1 e2 e3 e4
      go_enter Tryd.func29, Tryd.ntmps29
      go_wp2_with fail
      rw [ext_one]
      refine (HNUM.out _ (by omega)).mono ?_
      rintro e w' ⟨rfl, rfl⟩
      go_wp2_with fail
      all_goals exact bodyPost_ret (v := .tuple #[.agg #[.int .i64 0, .int .i64 0, .bool false, .bool false, .bool false], .int .i64 3]) (by simp [results, Tryd.results29, go_sem]) rfl ⟨by rw [HV.out, HVV.out]; rfl, balloc (balloc (Below.refl _ _) _) _⟩
  · rw [if_neg h2] at hR
    have HV : Hid (progR (c :: t) = ((0, 0, false, false, false), 3)) := Lib.hid hR
    have h112 : ((((⟨(c :: t).toArray⟩ : ByteArray)[0]'(by show 0 < (c :: t).toArray.size; simp)).toNat : Int) == 112) = false := by
      rw [hc0]
      rw [Bool.eq_false_iff]
      intro h
      exact h2 (UInt8.toNat_inj.1 (by show c.toNat = 112; have := beq_iff_eq.1 h; omega))
    have h112' : ((((⟨(c :: t).toArray⟩ : ByteArray)[0]'(by show 0 < (c :: t).toArray.size; simp)).toNat : Int) != 112) = true := by simp only [bne, h112]; rfl
    clear hR h45 hc0 h1 h2
    go_enter Tryd.func29, Tryd.ntmps29
    go_wp2_with fail
    exact bodyPost_ret (v := .tuple #[.agg #[.int .i64 0, .int .i64 0, .bool false, .bool false, .bool false], .int .i64 3]) (by simp [results, Tryd.results29, go_sem]) rfl ⟨by rw [HV.out], balloc (Below.refl _ _) _⟩
end Go.Proofs.YtbifecejaphcfaaDoor
