/- Texts of sets: plain lists and numbers, no program in sight. -/
import Derived.Test.YtihbdndigfnhkaaDoorBitQ
import Derived.Test.YtihbdndigfnhkaaDoorNumP
namespace Go.Proofs.YtihbdndigfnhkaaDoor
open Go
set_option linter.unusedSimpArgs false
set_option linter.unusedVariables false

/-- The i-th digit of a set, as a number. -/
def nib (ws : List Nat) (i : Nat) : Nat := ws.getD (i / 16) 0 / 2 ^ (4 * (i % 16)) % 16
theorem nib_lt (ws : List Nat) (i : Nat) : nib ws i < 16 := Nat.mod_lt _ (by omega)
def bitN (b : Bool) : Nat := if b then 1 else 0
theorem testBit_num (x k : Nat) : bitN (x.testBit k) = x / 2 ^ k % 2 := by
  unfold bitN
  rw [Nat.testBit_eq_decide_div_mod_eq]
  by_cases h : x / 2 ^ k % 2 = 1
  · simp [h]
  · simp [h]; omega
theorem wbit_nib (ws : List Nat) (i j : Nat) (hj : j < 4) : wbit ws (4 * i + j) = (ws.getD (i / 16) 0).testBit (4 * (i % 16) + j) := by
  unfold wbit
  rw [show (4 * i + j) / 64 = i / 16 by omega, show (4 * i + j) % 64 = 4 * (i % 16) + j by omega]
theorem nib_bit (ws : List Nat) (i j : Nat) (hj : j < 4) : wbit ws (4 * i + j) = (nib ws i).testBit j := by
  rw [wbit_nib ws i j hj]
  unfold nib
  rw [show (16 : Nat) = 2 ^ 4 from rfl, Nat.testBit_mod_two_pow, Nat.testBit_div_two_pow]
  simp [hj, Nat.add_comm]
/-- The digit as the reference adds it up. -/
def refD (ws : List Nat) (i : Nat) : Nat → Nat
  | 0 => 0
  | k + 1 => refD ws i k + if wbit ws (i + k) = true then 2 ^ k else 0
theorem refD_lt (ws : List Nat) (i : Nat) : ∀ k, refD ws i k < 2 ^ k
  | 0 => by simp [refD]
  | k + 1 => by
    have := refD_lt ws i k
    rw [refD, Nat.pow_succ]
    split <;> omega
theorem refD_four (ws : List Nat) (i : Nat) : refD ws (4 * i) 4 = nib ws i := by
  have h := nib_lt ws i
  have e : ∀ j, j < 4 → wbit ws (4 * i + j) = (nib ws i).testBit j := nib_bit ws i
  simp only [refD]
  rw [e 0 (by omega), e 1 (by omega), e 2 (by omega), e 3 (by omega)]
  generalize nib ws i = x at h
  have key : ((List.range 16).all fun x => decide ((((0 + if x.testBit 0 = true then 2 ^ 0 else 0) + if x.testBit 1 = true then 2 ^ 1 else 0) + if x.testBit 2 = true then 2 ^ 2 else 0) + (if x.testBit 3 = true then 2 ^ 3 else 0) = x)) = true := by decide +kernel
  simpa using List.all_eq_true.1 key x (List.mem_range.2 h)
theorem refD_end (ws : List Nat) (i k : Nat) (hk : k ≤ 4) (h : ∀ j, k ≤ j → j < 4 → wbit ws (4 * i + j) = false) : refD ws (4 * i) k = nib ws i := by
  rw [← refD_four]
  obtain ⟨d, hd, rfl⟩ : ∃ d, d ≤ 4 ∧ k = 4 - d := ⟨4 - k, by omega, by omega⟩
  have h2 : d = 0 ∨ d = 1 ∨ d = 2 ∨ d = 3 ∨ d = 4 := by omega
  rcases h2 with rfl | rfl | rfl | rfl | rfl
  · rfl
  · show refD ws (4 * i) 3 = refD ws (4 * i) 4
    have a3 := h 3 (by omega) (by omega)
    simp [refD, a3]
  · show refD ws (4 * i) 2 = refD ws (4 * i) 4
    have a3 := h 3 (by omega) (by omega)
    have a2 := h 2 (by omega) (by omega)
    simp [refD, a3, a2]
  · show refD ws (4 * i) 1 = refD ws (4 * i) 4
    have a3 := h 3 (by omega) (by omega)
    have a2 := h 2 (by omega) (by omega)
    have a1 := h 1 (by omega) (by omega)
    simp [refD, a3, a2, a1]
  · show refD ws (4 * i) 0 = refD ws (4 * i) 4
    have a3 := h 3 (by omega) (by omega)
    have a2 := h 2 (by omega) (by omega)
    have a1 := h 1 (by omega) (by omega)
    have a0 : wbit ws (4 * i) = false := h 0 (by omega) (by omega)
    simp [refD, a3, a2, a1, a0]
def hexL : List UInt8 := [48, 49, 50, 51, 52, 53, 54, 55, 56, 57, 97, 98, 99, 100, 101, 102]
def hexC (d : Nat) : UInt8 := hexL.getD d 0
def digL (ws : List Nat) (k : Nat) : List UInt8 := (List.range k).map fun i => hexC (nib ws i)
theorem digL_len (ws : List Nat) (k : Nat) : (digL ws k).length = k := by simp [digL]
theorem digL_succ (ws : List Nat) (k : Nat) : digL ws (k + 1) = digL ws k ++ [hexC (nib ws k)] := by simp [digL, List.range_succ]
/-- The text of a set, or which error. -/
def textB (N : Int) (ws : List Nat) : List UInt8 × Int :=
  if chkE N ws ≠ 0 then ([], chkE N ws) else (Lib.decDigits N.toNat ++ [58] ++ digL ws ((N.toNat + 3) / 4), 0)

/-- The value of a digit. -/
def hexV (c : UInt8) : Int := Lib.indexByte hexL c
theorem hex_all : ((List.range 256).all fun c => decide (-1 ≤ hexV (UInt8.ofNat c)) && decide (hexV (UInt8.ofNat c) < 16)) = true := by decide +kernel
theorem hexV_bd (c : UInt8) : -1 ≤ hexV c ∧ hexV c < 16 := by
  have := List.all_eq_true.1 hex_all c.toNat (List.mem_range.2 c.toNat_lt)
  simp only [Bool.and_eq_true, decide_eq_true_eq, UInt8.ofNat_toNat] at this
  exact this
theorem hexC_all : ((List.range 16).all fun d => decide (hexV (hexC d) = (d : Int))) = true := by decide +kernel
theorem hexV_C (d : Nat) (h : d < 16) : hexV (hexC d) = (d : Int) := by simpa using List.all_eq_true.1 hexC_all d (List.mem_range.2 h)
def digN (ds : List UInt8) (i : Nat) : Nat := (hexV (ds.getD i 0)).toNat
theorem digN_lt (ds : List UInt8) (i : Nat) : digN ds i < 16 := by have := hexV_bd (ds.getD i 0); unfold digN; omega
/-- Whether the i-th digit of a text is one, and counts nothing from n on. -/
def digOK (n : Nat) (ds : List UInt8) (i : Nat) : Bool := decide (0 ≤ hexV (ds.getD i 0)) && (decide (4 * i + 4 ≤ n) || decide (digN ds i / 2 ^ (n - 4 * i) = 0))
def bitD (ds : List UInt8) (i : Nat) : Bool := (digN ds (i / 4)).testBit (i % 4)
/-- The first k digits as a set of words. -/
def parW (n : Nat) (ds : List UInt8) (k : Nat) : List Nat := wordsOf ((n + 63) / 64) fun i => decide (i < 4 * k) && bitD ds i
def allOK (n : Nat) (ds : List UInt8) (k : Nat) : Bool := (List.range k).all (digOK n ds)
theorem allOK_succ (n : Nat) (ds : List UInt8) (k : Nat) : allOK n ds (k + 1) = (allOK n ds k && digOK n ds k) := by simp [allOK, List.range_succ, List.all_append]
theorem allOK_no (n : Nat) (ds : List UInt8) (k m : Nat) (h : digOK n ds k = false) (hk : k < m) : allOK n ds m = false := by
  unfold allOK
  rw [Bool.eq_false_iff]
  intro h1
  have := List.all_eq_true.1 h1 k (List.mem_range.2 hk)
  rw [h] at this
  cases this
/-- The number of a text and its digits. -/
def sizB (l : List UInt8) : Option (Nat × List UInt8) :=
  if (Lib.cut l [58]).2.2 = true then (match numM 4 (Lib.cut l [58]).1 with
    | some n => if (Lib.cut l [58]).2.1.length = (n + 3) / 4 then some (n, (Lib.cut l [58]).2.1) else none
    | none => none) else none
def parB (l : List UInt8) : Int × List Nat × Int :=
  match sizB l with
  | none => (0, [], 3)
  | some (n, ds) => if allOK n ds ds.length = true then (if 1024 < n then (0, [], 2) else ((n : Int), parW n ds ds.length, 0)) else (0, [], 3)
end Go.Proofs.YtihbdndigfnhkaaDoor
