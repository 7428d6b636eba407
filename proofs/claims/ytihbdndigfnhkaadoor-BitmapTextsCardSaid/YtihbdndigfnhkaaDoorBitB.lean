/- The small functions of the statements of chapter 1. -/
import Derived.Test.YtihbdndigfnhkaaDoorBitA
namespace Go.Proofs.YtihbdndigfnhkaaDoor
open Go Go.Proofs Go.RowKit
set_option linter.unusedSimpArgs false
set_option linter.unusedVariables false
set_option maxRecDepth 100000

set_option maxHeartbeats 1000000 in
theorem runs_none (n al : Int) (inn : Bool) (w : World) (h : runR 70 shW n al inn = (0, 6)) :
    Calls Tryd.prog 36 #[.int .i64 n, .int .i64 al, .bool inn, .int .i64 (-1)] w fun e w' => e = .returned (.bool true) ∧ Below w.heap.size w w' := by
  have HR := Lib.hid h
  clear h
  go_enter Tryd.func36, Tryd.ntmps36
  go_wp2_with fail
  refine (shown_any _).mono ?_
  rintro e w1 ⟨A, m, c, rfl, hown1, hb1⟩
  have hm : m ≤ 1000000 := by have := hown1.1; rw [uw_len] at this; simp [shW] at this; omega
  go_wp2_with fail
  refine (Run_any 70 A m c shW n al inn _ ((Rd.own hown1).alloc _) sh_small hm).mono ?_
  rw [HR.out]
  rintro e w2 ⟨rfl, hb2⟩
  go_wp2_with fail
  go_ret
  exact ⟨rfl, bnext (balloc hb1 _) hb2⟩
set_option maxHeartbeats 1000000 in
theorem runs_some (n al : Int) (inn : Bool) (at_ : Nat) (w : World) (h : runR 70 shW n al inn = ((at_ : Int), 0)) :
    Calls Tryd.prog 36 #[.int .i64 n, .int .i64 al, .bool inn, .int .i64 at_] w fun e w' => e = .returned (.bool true) ∧ Below w.heap.size w w' := by
  have HR := Lib.hid h
  clear h
  have h0 : ¬ ((at_ : Int) < 0) := by omega
  go_enter Tryd.func36, Tryd.ntmps36
  go_wp2_with fail
  refine (shown_any _).mono ?_
  rintro e w1 ⟨A, m, c, rfl, hown1, hb1⟩
  have hm : m ≤ 1000000 := by have := hown1.1; rw [uw_len] at this; simp [shW] at this; omega
  go_wp2_with fail
  refine (Run_any 70 A m c shW n al inn _ ((Rd.own hown1).alloc _) sh_small hm).mono ?_
  rw [HR.out]
  rintro e w2 ⟨rfl, hb2⟩
  go_wp2_with fail
  go_ret
  exact ⟨rfl, bnext (balloc hb1 _) hb2⟩
set_option maxHeartbeats 1000000 in
theorem fails_any (l : List UInt8) (w : World) (hl : l.length ≤ 10000) (hC : CutOK w) :
    Calls Tryd.prog 39 #[.string ⟨l.toArray⟩] w fun e w' => e = .returned (.int .i64 (parB l).2.2) ∧ Below w.heap.size w w' := by
  go_enter Tryd.func39, Tryd.ntmps39
  go_wp2_with fail
  refine (Parse_any l _ hl hC).mono ?_
  rintro e w1 ⟨A, m, c, rfl, hown1, hb1⟩
  go_wp2_with fail
  go_ret
  exact ⟨rfl, balloc hb1 _⟩

/-- The set of a list of numbers, its first k ones. -/
def setW (n : Nat) (l : List Int) (k : Nat) : List Nat := wordsOf ((n + 63) / 64) fun i => decide (i < n) && (l.take k).contains (i : Int)
theorem setW_zero (n : Nat) (l : List Int) : setW n l 0 = List.replicate ((n + 63) / 64) 0 := by
  unfold setW
  rw [← listF_words_zero [] ((n + 63) / 64)]
  exact wordsOf_congr _ _ _ (fun i _ => by simp [listF])
theorem setW_chk (n : Nat) (l : List Int) (k : Nat) (hn : n ≤ 1024) : chkE n (setW n l k) = 0 := chkE_wordsOf n _ hn (fun i hi => by rw [decide_eq_false (by omega)]; rfl)
theorem setW_put (n : Nat) (l : List Int) (k z : Nat) (hn : n ≤ 1024) (hk : k < l.length) (hz : l[k] = (z : Int)) (hzn : z < n) : putR n (setW n l k) z ((z : Int) + 1) true = ((n : Int), setW n l (k + 1), 0) := by
  have h := put_ok n (setW n l k) z (z + 1) true (setW_chk n l k hn) (by omega) (by omega)
  rw [Int.natCast_add] at h
  rw [show ((1 : Nat) : Int) = 1 from rfl] at h
  rw [h]
  refine Prod.ext rfl (Prod.ext ?_ rfl)
  show _ = setW n l (k + 1)
  unfold setW
  refine wordsOf_congr _ _ _ (fun i hi => ?_)
  unfold putF
  by_cases hin : i < n
  · have e1 : wbit (wordsOf ((n + 63) / 64) fun i => decide (i < n) && (l.take k).contains (i : Int)) i = (l.take k).contains (i : Int) := by
      rw [wordsOf_bit _ _ _ hi, decide_eq_true hin]; rfl
    rw [decide_eq_true hin, e1, List.take_succ_eq_append_getElem hk, hz]
    by_cases hiz : i = z
    · subst hiz; simp
    · rw [if_neg (by omega)]
      have : ¬ ((i : Int) = (z : Int)) := by omega
      simp [this]
  · rw [decide_eq_false hin]; rfl
end Go.Proofs.YtihbdndigfnhkaaDoor
