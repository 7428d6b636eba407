/- Texts of regions: plain lists, no program in sight. -/
import Derived.Test.YtfblbkhiaglelaaDoorRg3
import Derived.Test.YtfblbkhiaglelaaDoorNumP
namespace Go.Proofs.YtfblbkhiaglelaaDoor
open Go
set_option linter.unusedSimpArgs false
set_option linter.unusedVariables false

/-- The text of a range, and of the first k ranges of a list. -/
def rgT (r : Int × Int) : List UInt8 := Lib.decDigits r.1.toNat ++ (if r.2 = r.1 then [] else [45] ++ Lib.decDigits r.2.toNat)
def txtK (rs : List (Int × Int)) : Nat → List UInt8
  | 0 => []
  | k + 1 => txtK rs k ++ (if 0 < k then [32] else []) ++ rgT (rs.getD k (0, 0))
def textG (rs : List (Int × Int)) : List UInt8 × Int := if (regE rs).1 ≠ 0 then ([], (regE rs).1) else (txtK rs rs.length, 0)

/-- A number of one or two digits at the head of a text: its value, how many digits, whether there is one. -/
def numL (t : List UInt8) : Nat × Nat × Bool :=
  if isD (t.getD 0 0) then
    (if 48 < (t.getD 0 0).toNat ∧ isD (t.getD 1 0) = true then (10 * ((t.getD 0 0).toNat - 48) + ((t.getD 1 0).toNat - 48), 2, true) else ((t.getD 0 0).toNat - 48, 1, true))
  else (0, 0, false)
theorem isD_zero : isD 0 = false := by decide
theorem numL_le (t : List UInt8) : (numL t).2.1 ≤ t.length := by
  unfold numL
  rcases t with _ | ⟨a, _ | ⟨b, t⟩⟩
  · simp [isD_zero]
  · split
    · split
      · rename_i h; simp [isD_zero] at h
      · simp
    · simp
  · split
    · split <;> simp
    · simp
/-- One range at the head of a text: its numbers, how many bytes, whether there is one. If not: where it fails. -/
def oneL (t : List UInt8) : Nat × Nat × Nat × Bool :=
  if (numL t).2.2 = false then (0, 0, (numL t).2.1, false)
  else if (t.drop (numL t).2.1).getD 0 0 = 45 then
    (if (numL (t.drop ((numL t).2.1 + 1))).2.2 = false then (0, 0, (numL t).2.1 + 1 + (numL (t.drop ((numL t).2.1 + 1))).2.1, false)
     else ((numL t).1, (numL (t.drop ((numL t).2.1 + 1))).1, (numL t).2.1 + 1 + (numL (t.drop ((numL t).2.1 + 1))).2.1, true))
  else ((numL t).1, (numL t).1, (numL t).2.1, true)
/-- The ranges of a text from a place on, and where they begin; or where it fails. -/
def parF (s : List UInt8) : Nat → Nat → List (Int × Int) → List Int → List (Int × Int) × List Int × Option Nat
  | 0, _, out, pl => (out, pl, none)
  | f + 1, at_, out, pl =>
    if (oneL (s.drop at_)).2.2.2 = false then ([], [], some (at_ + (oneL (s.drop at_)).2.2.1))
    else if s.length ≤ at_ + (oneL (s.drop at_)).2.2.1 then (out ++ [(((oneL (s.drop at_)).1 : Int), ((oneL (s.drop at_)).2.1 : Int))], pl ++ [(at_ : Int)], none)
    else if s.getD (at_ + (oneL (s.drop at_)).2.2.1) 0 = 32 then parF s f (at_ + (oneL (s.drop at_)).2.2.1 + 1) (out ++ [(((oneL (s.drop at_)).1 : Int), ((oneL (s.drop at_)).2.1 : Int))]) (pl ++ [(at_ : Int)])
    else ([], [], some (at_ + (oneL (s.drop at_)).2.2.1))
/-- Which regions a text is, or which fault. -/
def parG (s : List UInt8) : List (Int × Int) × Int × Int :=
  if 200 < s.length then ([], 4, 200) else if s.length = 0 then ([], 0, 0) else
    match parF s (s.length + 1) 0 [] [] with
    | (_, _, some p) => ([], 3, (p : Int))
    | (out, pl, none) => if (regE out).1 ≠ 0 then ([], (regE out).1, pl.getD (regE out).2.toNat 0) else (out, 0, 0)

/-- The text of regions is read as these regions. -/
def stopB (t : List UInt8) : Bool := !isD (t.getD 0 0)
theorem num_dec (n : Nat) (h : n < 64) (t : List UInt8) (ht : stopB t = true) : numL (Lib.decDigits n ++ t) = (n, (Lib.decDigits n).length, true) := by
  have ht' : isD (t.getD 0 0) = false := by simpa [stopB] using ht
  by_cases h1 : n < 10
  · rw [dig_small n h1]
    unfold numL
    have e1 : ([UInt8.ofNat (48 + n)] ++ t).getD 0 0 = UInt8.ofNat (48 + n) := rfl
    have e2 : ([UInt8.ofNat (48 + n)] ++ t).getD 1 0 = t.getD 0 0 := by simp [List.getD_eq_getElem?_getD]
    have e3 : (UInt8.ofNat (48 + n)).toNat = 48 + n := by rw [UInt8.toNat_ofNat']; omega
    have e4 : isD (UInt8.ofNat (48 + n)) = true := by unfold isD; rw [e3]; simp; omega
    rw [e1, e2, e4, ht', if_pos rfl, if_neg (by simp), e3]
    simp
  · rw [dig_big n h1, dig_small (n / 10) (by omega)]
    unfold numL
    have e1 : ([UInt8.ofNat (48 + n / 10)] ++ [UInt8.ofNat (48 + n % 10)] ++ t).getD 0 0 = UInt8.ofNat (48 + n / 10) := rfl
    have e2 : ([UInt8.ofNat (48 + n / 10)] ++ [UInt8.ofNat (48 + n % 10)] ++ t).getD 1 0 = UInt8.ofNat (48 + n % 10) := rfl
    have e3 : (UInt8.ofNat (48 + n / 10)).toNat = 48 + n / 10 := by rw [UInt8.toNat_ofNat']; omega
    have e5 : (UInt8.ofNat (48 + n % 10)).toNat = 48 + n % 10 := by rw [UInt8.toNat_ofNat']; omega
    have e4 : isD (UInt8.ofNat (48 + n / 10)) = true := by unfold isD; rw [e3]; simp; omega
    have e6 : isD (UInt8.ofNat (48 + n % 10)) = true := by unfold isD; rw [e5]; simp; omega
    rw [e1, e2, e4, e6, if_pos rfl, if_pos ⟨by rw [e3]; omega, rfl⟩, e3, e5]
    simp
    omega
theorem one_txt (r : Int × Int) (h0 : 0 ≤ r.1) (h1 : r.1 ≤ r.2) (h2 : r.2 ≤ 63) (t : List UInt8) (ht : stopB t = true) (ht2 : t.getD 0 0 ≠ 45) : oneL (rgT r ++ t) = (r.1.toNat, r.2.toNat, (rgT r).length, true) := by
  unfold rgT
  by_cases hc : r.2 = r.1
  · rw [if_pos hc, List.append_nil]
    unfold oneL
    rw [num_dec r.1.toNat (by omega) t ht, if_neg (by simp)]
    simp only
    rw [List.drop_left, if_neg ht2, hc]
  · rw [if_neg hc]
    have hst : stopB ([45] ++ Lib.decDigits r.2.toNat ++ t) = true := by simp [stopB, isD]
    have e : Lib.decDigits r.1.toNat ++ ([45] ++ Lib.decDigits r.2.toNat) ++ t = Lib.decDigits r.1.toNat ++ ([45] ++ Lib.decDigits r.2.toNat ++ t) := by simp
    rw [e]
    unfold oneL
    rw [num_dec r.1.toNat (by omega) _ hst, if_neg (by simp)]
    simp only
    rw [List.drop_left, if_pos (by simp)]
    have e2 : (Lib.decDigits r.1.toNat ++ ([45] ++ Lib.decDigits r.2.toNat ++ t)).drop ((Lib.decDigits r.1.toNat).length + 1) = Lib.decDigits r.2.toNat ++ t := by
      rw [← List.drop_drop, List.drop_left]
      simp
    rw [e2, num_dec r.2.toNat (by omega) t ht]
    simp
    omega
/-- What follows the first k ranges in the text. -/
def sufK (rs : List (Int × Int)) (n k : Nat) : List UInt8 := (txtK rs n).drop (txtK rs k).length
theorem txtK_pre (rs : List (Int × Int)) (k : Nat) : ∀ n, k ≤ n → ∃ t, txtK rs n = txtK rs k ++ t ∧ (t = [] ∨ (0 < k → t.getD 0 0 = 32))
  | 0, h => ⟨[], by rw [show k = 0 by omega]; simp, .inl rfl⟩
  | n + 1, h => by
    by_cases hk : k = n + 1
    · subst hk; exact ⟨[], by simp, .inl rfl⟩
    · obtain ⟨t, ht, h2⟩ := txtK_pre rs k n (by omega)
      refine ⟨t ++ (if 0 < n then [32] else []) ++ rgT (rs.getD n (0, 0)), by rw [txtK, ht]; simp, .inr fun h0 => ?_⟩
      rw [if_pos (by omega)]
      rcases t with _ | ⟨x, t⟩
      · rfl
      · rcases h2 with h2 | h2
        · cases h2
        · simpa using h2 h0
theorem parF_back (rs : List (Int × Int)) (hv : RgV rs) (n : Nat) (hn : n = rs.length) (s : List UInt8) (hs : s = txtK rs n) : ∀ (f k : Nat) (pl : List Int), k < n → n ≤ k + f →
    ∃ pl', parF s f ((txtK rs k).length + (if 0 < k then 1 else 0)) (rs.take k) pl = (rs, pl', none)
  | 0, k, pl, h1, h2 => by omega
  | f + 1, k, pl, h1, h2 => by
    obtain ⟨t, ht, htl⟩ := txtK_pre rs (k + 1) n (by omega)
    obtain ⟨a1, a2, a3, _⟩ := (rgE_iff rs k).1 (hv k (by omega))
    have hd : s.drop ((txtK rs k).length + (if 0 < k then 1 else 0)) = rgT (rs.getD k (0, 0)) ++ t := by
      rw [hs, ht, txtK]
      by_cases h0 : 0 < k
      · rw [if_pos h0, if_pos h0, List.append_assoc, List.append_assoc, ← List.drop_drop, List.drop_left]; rfl
      · rw [if_neg h0, if_neg h0, List.append_assoc, List.append_nil, Nat.add_zero, List.drop_left]
    have hst : stopB t = true ∧ t.getD 0 0 ≠ 45 := by
      rcases htl with rfl | h
      · exact ⟨by decide, by decide⟩
      · have := h (by omega)
        unfold stopB
        rw [this]
        exact ⟨by decide, by decide⟩
    have ho := one_txt (rs.getD k (0, 0)) a1 a2 a3 t hst.1 hst.2
    rw [parF, hd, ho]
    simp only
    rw [if_neg (by simp)]
    have hlen : s.length = (txtK rs k).length + (if 0 < k then 1 else 0) + (rgT (rs.getD k (0, 0))).length + t.length := by
      rw [hs, ht, txtK]
      by_cases h0 : 0 < k
      · simp [h0]; omega
      · simp [h0]; omega
    have hout : rs.take k ++ [(((rs.getD k (0, 0)).1.toNat : Int), ((rs.getD k (0, 0)).2.toNat : Int))] = rs.take (k + 1) := by
      rw [Int.toNat_of_nonneg (by omega), Int.toNat_of_nonneg (by omega), List.take_succ_eq_append_getElem (by omega)]
      congr 2
      simp [List.getD_eq_getElem?_getD, show k < rs.length by omega]
    rw [hout]
    by_cases hk : k + 1 = n
    · have htn : t = [] := by
        rw [← hk] at ht
        exact List.self_eq_append_right.1 ht
      rw [if_pos (by rw [hlen, htn]; simp), List.take_of_length_le (by omega)]
      exact ⟨_, rfl⟩
    · have htc : ∃ u, t = 32 :: u := by
        rcases t with _ | ⟨x, u⟩
        · exfalso
          obtain ⟨t2, ht2, _⟩ := txtK_pre rs (k + 2) n (by omega)
          have hl1 : (txtK rs n).length = (txtK rs (k + 1)).length := by rw [ht]; simp
          have hl2 : (txtK rs n).length = (txtK rs (k + 2)).length + t2.length := by rw [ht2]; simp
          have hl3 : (txtK rs (k + 2)).length = (txtK rs (k + 1)).length + 1 + (rgT (rs.getD (k + 1) (0, 0))).length := by rw [txtK, if_pos (by omega)]; simp; omega
          omega
        · rcases htl with h | h
          · cases h
          · have := h (by omega)
            simp at this
            exact ⟨u, by rw [this]⟩
      obtain ⟨u, rfl⟩ := htc
      rw [if_neg (by rw [hlen]; simp)]
      have hat : (txtK rs k).length + (if 0 < k then 1 else 0) + (rgT (rs.getD k (0, 0))).length = (txtK rs (k + 1)).length := by
        rw [txtK]
        by_cases h0 : 0 < k
        · simp [h0]; try omega
        · simp [h0]; try omega
      rw [hat, if_pos (by rw [hs, ht]; simp [List.getD_eq_getElem?_getD])]
      have ih := parF_back rs hv n hn s hs f (k + 1) (pl ++ [(((txtK rs k).length + (if 0 < k then 1 else 0) : Nat) : Int)]) (by omega) (by omega)
      rw [if_pos (by omega)] at ih
      exact ih
theorem dec_len2 (n : Nat) (h : n < 64) : 1 ≤ (Lib.decDigits n).length ∧ (Lib.decDigits n).length ≤ 2 := by
  by_cases h1 : n < 10
  · rw [dig_small n h1]; simp
  · rw [dig_big n h1, dig_small _ (by omega)]; simp
theorem rgT_len (r : Int × Int) (h0 : 0 ≤ r.1) (h1 : r.1 ≤ r.2) (h2 : r.2 ≤ 63) : 1 ≤ (rgT r).length ∧ (rgT r).length ≤ 5 := by
  unfold rgT
  have := dec_len2 r.1.toNat (by omega)
  have := dec_len2 r.2.toNat (by omega)
  split <;> simp <;> omega
/-- How long a text of regions is. -/
theorem txtK_len (rs : List (Int × Int)) (hv : RgV rs) : ∀ k, k ≤ rs.length → k ≤ (txtK rs k).length ∧ (txtK rs k).length ≤ 6 * k
  | 0, _ => by simp [txtK]
  | k + 1, h => by
    have ih := txtK_len rs hv k (by omega)
    obtain ⟨a1, a2, a3, _⟩ := (rgE_iff rs k).1 (hv k (by omega))
    have := rgT_len _ a1 a2 a3
    rw [txtK]
    split <;> simp only [List.length_append, List.length_cons, List.length_nil] <;> omega
/-- A valid list has at most 32 ranges. -/
theorem VF_len : ∀ {rs : List (Int × Int)} {lo : Int}, 0 ≤ lo → lo ≤ 65 → VF lo rs → 2 * (rs.length : Int) + lo ≤ 65
  | [], lo, _, h, _ => by simpa using h
  | r :: t, lo, h0, h1, hv => by
    obtain ⟨a1, a2, a3, a4⟩ := hv
    have := VF_len (by omega) (by omega) a4
    simp only [List.length_cons]
    omega
theorem RgV_len {rs : List (Int × Int)} (h : RgV rs) : rs.length ≤ 32 := by
  have := VF_len (Int.le_refl 0) (by omega) ((RgV_iff rs).1 h)
  omega
theorem text_backG (rs : List (Int × Int)) (hv : RgV rs) : (textG rs).2 = 0 ∧ parG (textG rs).1 = (rs, 0, 0) := by
  have h1 : textG rs = (txtK rs rs.length, 0) := by unfold textG; rw [hv.ok, if_neg (by simp)]
  rw [h1]
  refine ⟨rfl, ?_⟩
  have hl := txtK_len rs hv rs.length (Nat.le_refl _)
  have h32 := RgV_len hv
  unfold parG
  rw [if_neg (by simp only; omega)]
  by_cases h0 : rs.length = 0
  · have : rs = [] := List.eq_nil_of_length_eq_zero h0
    subst this
    rfl
  · simp only
    rw [if_neg (by omega)]
    obtain ⟨pl, hp⟩ := parF_back rs hv rs.length rfl _ rfl ((txtK rs rs.length).length + 1) 0 [] (by omega) (by omega)
    simp only [txtK, List.length_nil, List.take_zero] at hp
    rw [if_neg (by omega)] at hp
    rw [hp]
    simp only
    rw [hv.ok, if_neg (by simp)]
end Go.Proofs.YtfblbkhiaglelaaDoor
