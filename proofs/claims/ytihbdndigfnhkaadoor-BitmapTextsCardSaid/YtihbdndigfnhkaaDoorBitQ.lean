/- Runs and combinations: plain lists and numbers, no program in sight. -/
import Derived.Test.YtihbdndigfnhkaaDoorBitP
namespace Go.Proofs.YtihbdndigfnhkaaDoor
open Go
set_option linter.unusedSimpArgs false
set_option linter.unusedVariables false

/-- How many numbers from N - d on are alike. -/
def lngD (ws : List Nat) (inn : Bool) (N : Nat) : Nat → Nat
  | 0 => 0
  | d + 1 => if wbit ws (N - (d + 1)) = inn then lngD ws inn N d + 1 else 0
def lng (ws : List Nat) (inn : Bool) (N i : Nat) : Nat := lngD ws inn N (N - i)
theorem lng_end (ws : List Nat) (inn : Bool) (N : Nat) : lng ws inn N N = 0 := by simp [lng, lngD]
theorem lng_step (ws : List Nat) (inn : Bool) (N i : Nat) (h : i < N) : lng ws inn N i = if wbit ws i = inn then lng ws inn N (i + 1) + 1 else 0 := by
  unfold lng
  obtain ⟨d, hd⟩ : ∃ d, N - i = d + 1 := ⟨N - i - 1, by omega⟩
  rw [hd, lngD, show N - (d + 1) = i by omega, show N - (i + 1) = d by omega]
theorem lng_le (ws : List Nat) (inn : Bool) (N : Nat) : ∀ d, lngD ws inn N d ≤ d
  | 0 => by simp [lngD]
  | d + 1 => by
    have := lng_le ws inn N d
    rw [lngD]
    split <;> omega
def okB (ws : List Nat) (inn : Bool) (n at_ : Nat) : Bool := (List.range n).all fun j => wbit ws (at_ + j) == inn
theorem okB_iff (ws : List Nat) (inn : Bool) (n at_ : Nat) : okB ws inn n at_ = true ↔ ∀ j, j < n → wbit ws (at_ + j) = inn := by
  simp [okB, List.all_eq_true]
theorem lng_iff (ws : List Nat) (inn : Bool) (N : Nat) : ∀ (n i : Nat), i ≤ N → (n ≤ lng ws inn N i ↔ (i + n ≤ N ∧ okB ws inn n i = true))
  | 0, i, h => by simp [okB]; omega
  | n + 1, i, h => by
    rcases Nat.eq_or_lt_of_le h with h1 | h1
    · subst h1; rw [lng_end]; simp; omega
    · rw [lng_step ws inn N i h1, okB_iff]
      have ih := lng_iff ws inn N n (i + 1) (by omega)
      rw [okB_iff] at ih
      by_cases hb : wbit ws i = inn
      · rw [if_pos hb]
        constructor
        · intro h2
          obtain ⟨h3, h4⟩ := ih.1 (by omega)
          refine ⟨by omega, fun j hj => ?_⟩
          rcases j with _ | j
          · exact hb
          · have := h4 j (by omega)
            rwa [show i + 1 + j = i + (j + 1) by omega] at this
        · rintro ⟨h2, h3⟩
          have := ih.2 ⟨by omega, fun j hj => by
            have := h3 (j + 1) (by omega)
            rwa [show i + (j + 1) = i + 1 + j by omega] at this⟩
          omega
      · rw [if_neg hb]
        constructor
        · intro h2; omega
        · rintro ⟨_, h3⟩
          exact absurd (h3 0 (by omega)) hb
/-- The first aligned run from the k-th place on. -/
def runF (ws : List Nat) (inn : Bool) (N n al : Nat) : Nat → Nat → Option Nat
  | 0, _ => none
  | f + 1, k => if k * al + n ≤ N then (if okB ws inn n (k * al) = true then some (k * al) else runF ws inn N n al f (k + 1)) else none
theorem runF_hit (ws : List Nat) (inn : Bool) (N n al : Nat) : ∀ (f i q : Nat), i ≤ q → q < i + f → q * al + n ≤ N → (∀ j, i ≤ j → j < q → okB ws inn n (j * al) = false) → okB ws inn n (q * al) = true → runF ws inn N n al f i = some (q * al)
  | 0, i, q, h1, h2, _, _, _ => by omega
  | f + 1, i, q, h1, h2, h0, h3, h4 => by
    have hm : i * al ≤ q * al := Nat.mul_le_mul_right _ h1
    rw [runF, if_pos (by omega)]
    rcases Nat.eq_or_lt_of_le h1 with h | h
    · subst h; rw [if_pos h4]
    · rw [if_neg (by rw [h3 i (Nat.le_refl _) h]; simp)]
      exact runF_hit ws inn N n al f (i + 1) q h (by omega) h0 (fun j a b => h3 j (by omega) b) h4
theorem runF_none (ws : List Nat) (inn : Bool) (N n al : Nat) : ∀ (f i : Nat), (∀ j, i ≤ j → j * al + n ≤ N → okB ws inn n (j * al) = false) → runF ws inn N n al f i = none
  | 0, i, _ => rfl
  | f + 1, i, h => by
    rw [runF]
    split
    · rename_i hle
      rw [if_neg (by rw [h i (Nat.le_refl _) hle]; simp)]
      exact runF_none ws inn N n al f (i + 1) (fun j a b => h j (by omega) b)
    · rfl
def runR (N : Int) (ws : List Nat) (n al : Int) (inn : Bool) : Int × Int :=
  if chkE N ws ≠ 0 then (0, chkE N ws) else if n < 1 ∨ 1024 < n ∨ al < 1 ∨ 1024 < al then (0, 2) else
    match runF ws inn N.toNat n.toNat al.toNat (N.toNat + 1) 0 with
    | some q => ((q : Int), 0)
    | none => (0, 6)
theorem runR_hit (N : Nat) (ws : List Nat) (n al q : Nat) (inn : Bool) (hE : chkE N ws = 0) (h1 : 1 ≤ n) (h2 : n ≤ 1024) (h3 : 1 ≤ al) (h4 : al ≤ 1024) (h5 : q * al + n ≤ N) (h6 : ∀ j, j < q → okB ws inn n (j * al) = false) (h7 : okB ws inn n (q * al) = true) :
    runR N ws n al inn = (((q * al : Nat) : Int), 0) := by
  unfold runR
  have hq : q ≤ q * al := Nat.le_mul_of_pos_right _ h3
  rw [if_neg (by simp [hE]), if_neg (by omega)]
  simp only [Int.toNat_natCast]
  rw [runF_hit ws inn N n al (N + 1) 0 q (Nat.zero_le _) (by omega) h5 (fun j _ b => h6 j b) h7]
theorem runR_none (N : Nat) (ws : List Nat) (n al : Nat) (inn : Bool) (hE : chkE N ws = 0) (h1 : 1 ≤ n) (h2 : n ≤ 1024) (h3 : 1 ≤ al) (h4 : al ≤ 1024) (h6 : ∀ j, j * al + n ≤ N → okB ws inn n (j * al) = false) :
    runR N ws n al inn = (0, 6) := by
  unfold runR
  rw [if_neg (by simp [hE]), if_neg (by omega)]
  simp only [Int.toNat_natCast]
  rw [runF_none ws inn N n al (N + 1) 0 (fun j _ b => h6 j b)]

/-- The four combinations of bits, and of words. -/
def opB (op : Int) (x y : Bool) : Bool := if op = 1 then x || y else if op = 2 then x && y else if op = 3 then x && !y else x != y
def opW (op : Int) (x y : Nat) : Nat := if op = 1 then x ||| y else if op = 2 then x &&& y else if op = 3 then x &&& (18446744073709551615 - y) else x ^^^ y
theorem opW_lt (op : Int) (x y : Nat) (hx : x < 18446744073709551616) (hy : y < 18446744073709551616) : opW op x y < 18446744073709551616 := by
  unfold opW
  split
  · exact Nat.or_lt_two_pow (n := 64) hx hy
  · split
    · exact Nat.lt_of_le_of_lt Nat.and_le_left hx
    · split
      · exact Nat.lt_of_le_of_lt Nat.and_le_left hx
      · exact Nat.xor_lt_two_pow (n := 64) hx hy
theorem opW_bit (op : Int) (x y j : Nat) (hy : y < 18446744073709551616) (hj : j < 64) : (opW op x y).testBit j = opB op (x.testBit j) (y.testBit j) := by
  unfold opW opB
  split
  · exact Nat.testBit_or ..
  · split
    · exact Nat.testBit_and ..
    · split
      · rw [Nat.testBit_and, not_bit _ _ hy hj]
      · rw [Nat.testBit_xor]
def combR (N : Int) (ws : List Nat) (M : Int) (vs : List Nat) (op : Int) : Int × List Nat × Int :=
  if chkE N ws ≠ 0 then (0, [], chkE N ws) else if chkE M vs ≠ 0 then (0, [], chkE M vs) else if N ≠ M ∨ op < 1 ∨ 4 < op then (0, [], 2) else
    (N, wordsOf ((N.toNat + 63) / 64) (fun i => decide (i < N.toNat) && opB op (wbit ws i) (wbit vs i)), 0)
def combK (ws vs : List Nat) (op : Int) (k : Nat) : List Nat := (List.range ws.length).map fun j => if j < k then opW op (ws.getD j 0) (vs.getD j 0) else 0
theorem combK_zero (ws vs : List Nat) (op : Int) : combK ws vs op 0 = List.replicate ws.length 0 := by
  apply List.ext_getElem
  · simp [combK]
  · intro k h1 h2
    simp [combK]
theorem combK_succ (ws vs : List Nat) (op : Int) (k : Nat) (hk : k < ws.length) : combK ws vs op (k + 1) = (combK ws vs op k).set k (opW op (ws.getD k 0) (vs.getD k 0)) := by
  apply List.ext_getElem
  · simp [combK]
  · intro j h1 h2
    rw [List.getElem_set]
    simp only [combK, List.getElem_map, List.getElem_range]
    by_cases hj : k = j
    · subst hj; simp
    · rw [if_neg hj]
      by_cases hlt : j < k
      · rw [if_pos hlt, if_pos (by omega)]
      · rw [if_neg hlt, if_neg (by omega)]
theorem combK_small (ws vs : List Nat) (hs : wsmall ws) (hv : wsmall vs) (op : Int) (k : Nat) : wsmall (combK ws vs op k) := by
  intro x hx
  obtain ⟨j, _, rfl⟩ := List.mem_map.1 hx
  split
  · exact opW_lt _ _ _ (wsmall_get ws hs j) (wsmall_get vs hv j)
  · decide
theorem combK_all (N : Nat) (ws vs : List Nat) (hs : wsmall ws) (hv : wsmall vs) (op : Int) (hE : chkE N ws = 0) (hE' : chkE N vs = 0) :
    combK ws vs op ws.length = wordsOf ((N + 63) / 64) (fun i => decide (i < N) && opB op (wbit ws i) (wbit vs i)) := by
  obtain ⟨_, _, h2, h3⟩ := chk_zero N ws hE
  obtain ⟨_, _, h2', h3'⟩ := chk_zero N vs hE'
  have hl : ws.length = (N + 63) / 64 := by omega
  have hl' : (combK ws vs op ws.length).length = ws.length := by simp [combK]
  have := words_eq (combK ws vs op ws.length) (combK_small ws vs hs hv op _) (fun i => decide (i < N) && opB op (wbit ws i) (wbit vs i)) (by
    intro i hi
    rw [hl'] at hi
    have hj : i / 64 < ws.length := by omega
    have hg : (combK ws vs op ws.length).getD (i / 64) 0 = opW op (ws.getD (i / 64) 0) (vs.getD (i / 64) 0) := by
      simp [combK, List.getD_eq_getElem?_getD, List.getElem?_range hj, hj]
    show ((combK ws vs op ws.length).getD (i / 64) 0).testBit (i % 64) = _
    rw [hg, opW_bit _ _ _ _ (wsmall_get vs hv _) (by omega)]
    show opB op (wbit ws i) (wbit vs i) = _
    by_cases hN : i < N
    · simp [hN]
    · rw [h3 i (by omega) (by omega) hs, h3' i (by omega) (by omega) hv]
      simp [hN, opB])
  rw [hl', hl] at this
  rw [hl]
  exact this
theorem mem_get (ws : List Nat) (N i : Nat) (h : i < N) : ((List.range N).map (wbit ws)).getD i false = wbit ws i := by
  simp [List.getD_eq_getElem?_getD, List.getElem?_range h]

end Go.Proofs.YtihbdndigfnhkaaDoor
