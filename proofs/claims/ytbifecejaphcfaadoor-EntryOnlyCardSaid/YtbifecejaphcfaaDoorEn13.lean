/- Which entry a text is: plain lists, no program in sight. -/
import Derived.Test.YtbifecejaphcfaaDoorEn12
namespace Go.Proofs.YtbifecejaphcfaaDoor
open Go
set_option linter.unusedSimpArgs false
set_option linter.unusedVariables false

def errP (e : Int) : (Int × Int × Bool × Bool × Bool) × Int := ((0, 0, false, false, false), e)
def finP (k : Int) (o : Option Nat) (a b c : Bool) : (Int × Int × Bool × Bool × Bool) × Int :=
  match o with
  | none => errP 3
  | some n => if 255 < n then errP 2 else ((k, (n : Int), a, b, c), 0)
/-- As the program reads what comes behind a 'p'. -/
def progP (t : List UInt8) : (Int × Int × Bool × Bool × Bool) × Int :=
  if Lib.hasSuffix (Lib.trimSuffix t [114]) [119] = true then finP 1 (numR (Lib.trimSuffix (Lib.trimSuffix t [114]) [119])) true false (Lib.hasSuffix t [114])
  else if Lib.hasSuffix (Lib.trimSuffix t [114]) [99] = true then finP 1 (numR (Lib.trimSuffix (Lib.trimSuffix t [114]) [99])) false true (Lib.hasSuffix t [114])
  else errP 3
def progR (l : List UInt8) : (Int × Int × Bool × Bool × Bool) × Int :=
  if l = [45] then errP 0 else if Lib.hasPrefix l [115] = true then finP 2 (numR (Lib.trimPrefix l [115])) false false false else if Lib.hasPrefix l [112] = true then progP (Lib.trimPrefix l [112]) else errP 3
/-- As the reference reads it. -/
def refS (t : List UInt8) : (Int × Int × Bool × Bool × Bool) × Int :=
  if (numP t).2 = 0 ∨ t.drop (numP t).2 ≠ [] then errP 3 else if 255 < (numP t).1 then errP 2 else ((2, ((numP t).1 : Int), false, false, false), 0)
def refQ (n : Nat) (r : List UInt8) : (Int × Int × Bool × Bool × Bool) × Int :=
  if ¬ (r = [119] ∨ r = [119, 114]) ∧ ¬ (r = [99] ∨ r = [99, 114]) then errP 3 else if 255 < n then errP 2 else
    ((1, (n : Int), decide (r = [119] ∨ r = [119, 114]), decide (r = [99] ∨ r = [99, 114]), decide (r = [119, 114] ∨ r = [99, 114])), 0)
def refP (t : List UInt8) : (Int × Int × Bool × Bool × Bool) × Int := if (numP t).2 = 0 then errP 3 else refQ (numP t).1 (t.drop (numP t).2)

theorem suf_iff (t : List UInt8) (x : UInt8) : Lib.hasSuffix t [x] = true ↔ ∃ u, t = u ++ [x] := by
  unfold Lib.hasSuffix
  rw [List.isSuffixOf_iff_suffix]
  constructor
  · rintro ⟨u, h⟩; exact ⟨u, h.symm⟩
  · rintro ⟨u, h⟩; exact ⟨u, h.symm⟩
theorem suf_snoc (u : List UInt8) (x y : UInt8) : Lib.hasSuffix (u ++ [y]) [x] = decide (x = y) := by
  rw [Bool.eq_iff_iff, suf_iff]
  constructor
  · rintro ⟨v, h⟩
    have := List.append_inj_right' h rfl
    simp at this
    simp [this]
  · intro h
    simp at h
    exact ⟨u, by rw [h]⟩
theorem trim_snoc (u : List UInt8) (x : UInt8) : Lib.trimSuffix (u ++ [x]) [x] = u := by
  unfold Lib.trimSuffix
  rw [suf_snoc]
  simp
theorem trim_no (t : List UInt8) (x : UInt8) (h : Lib.hasSuffix t [x] = false) : Lib.trimSuffix t [x] = t := by
  unfold Lib.trimSuffix
  rw [h]
  simp

theorem numR_some (d : List UInt8) (n : Nat) (h : numR d = some n) : 1 ≤ d.length ∧ d.length ≤ 3 ∧ ¬ (1 < d.length ∧ d.getD 0 0 = 48) ∧ d.all isD = true ∧ n = numV d := by
  unfold numR at h
  split at h
  · cases h
  · rename_i hc
    injection h with h
    refine ⟨by omega, by omega, fun h2 => hc (.inr (.inr (.inl h2))), ?_, h.symm⟩
    rcases hb : d.all isD with _ | _
    · exact absurd (.inr (.inr (.inr hb))) hc
    · rfl
theorem numP_app (d sfx : List UInt8) (n : Nat) (h : numR d = some n) (hs : sfx = [] ∨ ∃ c r, sfx = c :: r ∧ isD c = false) : numP (d ++ sfx) = (n, d.length) := by
  obtain ⟨h1, h2, h3, h4, h5⟩ := numR_some d n h
  have hd : dcnt (d ++ sfx) = d.length := by
    refine dcnt_of _ _ (by simp) (by omega) (by rw [List.take_left']; exact h4; rfl) ?_
    rcases hs with rfl | ⟨c, r, rfl, hc⟩
    · left; simp
    · right; right; exact ⟨c, by simp, hc⟩
  have hg : (d ++ sfx).getD 0 0 = d.getD 0 0 := by
    cases d with
    | nil => simp at h1
    | cons a t => simp
  unfold numP
  rw [hd, hg, if_neg (fun h6 => h6.elim (fun h6 => by omega) h3), List.take_left' rfl, h5]
theorem numP_back (t : List UInt8) (h : (numP t).2 ≠ 0) : numR (t.take (numP t).2) = some (numP t).1 := by
  unfold numP at h ⊢
  split at h
  · exact absurd rfl h
  · rename_i hc
    rw [if_neg hc]
    simp only at h ⊢
    have hp : (t.take 4).takeWhile isD <+: t := (List.takeWhile_prefix _).trans (List.take_prefix _ _)
    have he : (t.take 4).takeWhile isD = t.take (dcnt t) := List.prefix_iff_eq_take.1 hp
    have hle : dcnt t ≤ t.length := hp.length_le
    have hall : (t.take (dcnt t)).all isD = true := by
      rw [← he]
      exact List.all_takeWhile
    have hl : (t.take (dcnt t)).length = dcnt t := by simp [hle]
    have hg : (t.take (dcnt t)).getD 0 0 = t.getD 0 0 := by
      rw [List.getD_eq_getElem?_getD, List.getElem?_take, if_pos (by omega), ← List.getD_eq_getElem?_getD]
    unfold numR
    rw [hl, hg, if_neg]
    rintro (h6 | h6 | h6 | h6)
    · omega
    · exact hc (.inl h6)
    · exact hc (.inr h6)
    · rw [hall] at h6; cases h6

theorem ref_s (t : List UInt8) : refS t = finP 2 (numR t) false false false := by
  unfold refS
  rcases hn : numR t with _ | n
  · rw [if_pos]
    · rfl
    · by_cases h0 : (numP t).2 = 0
      · exact .inl h0
      · refine .inr fun h1 => ?_
        have := numP_back t h0
        have hle : t.length ≤ (numP t).2 := by simpa using h1
        rw [List.take_of_length_le hle, hn] at this
        cases this
  · have := numP_app t [] n hn (.inl rfl)
    rw [List.append_nil] at this
    have h1 := (numR_some t n hn).1
    rw [this, if_neg (by simp; intro h; rw [h] at h1; simp at h1)]
    rfl
theorem prog_p (d : List UInt8) : progP (d ++ [119]) = finP 1 (numR d) true false false ∧ progP (d ++ [119, 114]) = finP 1 (numR d) true false true ∧ progP (d ++ [99]) = finP 1 (numR d) false true false ∧ progP (d ++ [99, 114]) = finP 1 (numR d) false true true := by
  have e1 : d ++ [119, 114] = (d ++ [119]) ++ [114] := by simp
  have e2 : d ++ [99, 114] = (d ++ [99]) ++ [114] := by simp
  refine ⟨?_, ?_, ?_, ?_⟩
  · unfold progP
    rw [trim_no _ 114 (by rw [suf_snoc]; decide), suf_snoc, suf_snoc, trim_snoc]
    simp
  · rw [e1]; unfold progP
    rw [trim_snoc, suf_snoc, suf_snoc, trim_snoc]
    simp
  · unfold progP
    rw [trim_no _ 114 (by rw [suf_snoc]; decide), suf_snoc, suf_snoc, suf_snoc, trim_snoc]
    simp
  · rw [e2]; unfold progP
    rw [trim_snoc, suf_snoc, suf_snoc, suf_snoc, trim_snoc]
    simp
theorem prog_not (t : List UInt8) (h : progP t ≠ errP 3) : ∃ d sfx n, t = d ++ sfx ∧ numR d = some n ∧ (sfx = [119] ∨ sfx = [119, 114] ∨ sfx = [99] ∨ sfx = [99, 114]) := by
  have key : ∀ (t1 : List UInt8) (tail : List UInt8), t = t1 ++ tail → (tail = [] ∨ tail = [114]) → Lib.trimSuffix t [114] = t1 → ∃ d sfx n, t = d ++ sfx ∧ numR d = some n ∧ (sfx = [119] ∨ sfx = [119, 114] ∨ sfx = [99] ∨ sfx = [99, 114]) := by
    intro t1 tail ht htl h1
    unfold progP at h
    rw [h1] at h
    by_cases hw : Lib.hasSuffix t1 [119] = true
    · rw [if_pos hw] at h
      obtain ⟨u, hu⟩ := (suf_iff _ _).1 hw
      subst hu
      rw [trim_snoc] at h
      rcases hn : numR u with _ | n
      · rw [hn] at h; exact absurd rfl h
      · refine ⟨u, [119] ++ tail, n, by rw [ht]; simp, hn, ?_⟩
        rcases htl with rfl | rfl <;> simp
    · rw [if_neg hw] at h
      by_cases hc : Lib.hasSuffix t1 [99] = true
      · rw [if_pos hc] at h
        obtain ⟨u, hu⟩ := (suf_iff _ _).1 hc
        subst hu
        rw [trim_snoc] at h
        rcases hn : numR u with _ | n
        · rw [hn] at h; exact absurd rfl h
        · refine ⟨u, [99] ++ tail, n, by rw [ht]; simp, hn, ?_⟩
          rcases htl with rfl | rfl <;> simp
      · rw [if_neg hc] at h
        exact absurd rfl h
  by_cases hr : Lib.hasSuffix t [114] = true
  · obtain ⟨u, hu⟩ := (suf_iff _ _).1 hr
    exact key u [114] hu (.inr rfl) (by rw [hu, trim_snoc])
  · have hr' : Lib.hasSuffix t [114] = false := by simpa using hr
    exact key t [] (by simp) (.inl rfl) (trim_no t 114 hr')
theorem refQ_sfx (n : Nat) : refQ n [119] = finP 1 (some n) true false false ∧ refQ n [119, 114] = finP 1 (some n) true false true ∧ refQ n [99] = finP 1 (some n) false true false ∧ refQ n [99, 114] = finP 1 (some n) false true true := by
  refine ⟨?_, ?_, ?_, ?_⟩ <;> · unfold refQ finP; simp
theorem ref_p (t : List UInt8) : refP t = progP t := by
  by_cases h : progP t = errP 3
  · rw [h]
    unfold refP
    by_cases h0 : (numP t).2 = 0
    · rw [if_pos h0]
    · rw [if_neg h0]
      have hb := numP_back t h0
      have ht : t = t.take (numP t).2 ++ t.drop (numP t).2 := (List.take_append_drop _ _).symm
      generalize t.take (numP t).2 = d at hb ht
      generalize t.drop (numP t).2 = r at ht
      generalize (numP t).1 = n at hb
      obtain ⟨p1, p2, p3, p4⟩ := prog_p d
      obtain ⟨q1, q2, q3, q4⟩ := refQ_sfx n
      rw [hb] at p1 p2 p3 p4
      rw [ht] at h
      by_cases e1 : r = [119]
      · subst e1; rw [q1, ← p1, h]
      by_cases e2 : r = [119, 114]
      · subst e2; rw [q2, ← p2, h]
      by_cases e3 : r = [99]
      · subst e3; rw [q3, ← p3, h]
      by_cases e4 : r = [99, 114]
      · subst e4; rw [q4, ← p4, h]
      unfold refQ
      rw [if_pos (by simp [e1, e2, e3, e4])]
  · obtain ⟨d, sfx, n, rfl, hn, hs⟩ := prog_not t h
    have h1 := (numR_some d n hn).1
    have hp := numP_app d sfx n hn (by
      right
      rcases hs with rfl | rfl | rfl | rfl
      · exact ⟨119, [], rfl, by decide⟩
      · exact ⟨119, [114], rfl, by decide⟩
      · exact ⟨99, [], rfl, by decide⟩
      · exact ⟨99, [114], rfl, by decide⟩)
    obtain ⟨p1, p2, p3, p4⟩ := prog_p d
    obtain ⟨q1, q2, q3, q4⟩ := refQ_sfx n
    rw [hn] at p1 p2 p3 p4
    unfold refP
    rw [hp, if_neg (by simp only; omega)]
    simp only [List.drop_left']
    rcases hs with rfl | rfl | rfl | rfl
    · rw [p1, q1]
    · rw [p2, q2]
    · rw [p3, q3]
    · rw [p4, q4]
end Go.Proofs.YtbifecejaphcfaaDoor
