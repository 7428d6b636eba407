/- Entries of a page table: the text of an entry. -/
import Derived.Test.YtbifecejaphcfaaDoorEn8
import Derived.Test.YtbifecejaphcfaaDoorShelf02
import Derived.Lib.AppendIntMem
namespace Go.Proofs.YtbifecejaphcfaaDoor
open Go Go.Proofs Go.RowKit
set_option linter.unusedSimpArgs false
set_option linter.unusedVariables false

/-- The library's table of the powers of ten lies as the library lays it. -/
def PowOK (w : World) : Prop := Lib.TabIs Tryd.prog w "internal/strconv.uint64pow10" .u64 Lib.pow10Tab
theorem PowOK.below {w w' : World} (h : PowOK w) (hb : Below w.heap.size w w') : PowOK w' := Lib.tabBelow_of_tabIs h w' hb
theorem PowOK.alloc {w : World} (h : PowOK w) (o : Obj) : PowOK (w.alloc o) := h.below ((Below.refl _ _).alloc (Nat.le_refl _) _)
theorem Itoa_any (n : Nat) (w : World) (hn : n ≤ 255) (hP : PowOK w) :
    Calls Tryd.prog 36 #[.int .i64 n] w fun e w' => e = .returned (.string ⟨(Lib.decDigits n).toArray⟩) ∧ Below w.heap.size w w' := by
  refine (Tryd.strconv_Itoa n (by omega) (by omega) w hP).mono ?_
  rintro e w' ⟨rfl, k, os, rfl⟩
  refine ⟨?_, Lib.below_grow _ _ (Nat.le_refl _) _ _⟩
  unfold Lib.itoa
  rw [if_neg (by omega), Int.toNat_natCast]

theorem dig_all : ((List.range 256).all fun n => decide ((Lib.decDigits n).length ≤ 3)) = true := by decide +kernel
theorem dig_len (n : Nat) (h : n ≤ 255) : (Lib.decDigits n).length ≤ 3 := by simpa using List.all_eq_true.1 dig_all n (List.mem_range.2 (by omega))
/-- The text of an entry. -/
def txtL (k n : Nat) (a c : Bool) : List UInt8 :=
  if k = 0 then [45] else if k = 2 then 115 :: Lib.decDigits n else 112 :: (Lib.decDigits n ++ [if a then 119 else 99] ++ if c then [114] else [])
def textR (k n : Int) (a b c : Bool) : List UInt8 × Int := if chk k n a b c ≠ 0 then ([], chk k n a b c) else (txtL k.toNat n.toNat a c, 0)

theorem ret_str {s t : ByteArray} {k : IntKind} {z : Int} (h : s = t) : Ending.returned (.tuple #[.string s, .int k z]) = .returned (.tuple #[.string t, .int k z]) := by rw [h]
set_option maxHeartbeats 1000000 in
theorem Text_any (k n : Int) (a b c : Bool) (w : World) (hL : LayOK w) (hP : PowOK w) :
    Calls Tryd.prog 13 #[.agg #[.int .i64 k, .int .i64 n, .bool a, .bool b, .bool c]] w fun e w' => e = .returned (.tuple #[.string ⟨(textR k n a b c).1.toArray⟩, .int .i64 (textR k n a b c).2]) ∧ Below w.heap.size w w' := by
  by_cases hz : chk k n a b c = 0
  · obtain ⟨h1, h2, h3⟩ := chk_ok k n a b c hz
    obtain ⟨n, rfl⟩ : ∃ q : Nat, n = q := ⟨n.toNat, by omega⟩
    have hv : textR k n a b c = (txtL k.toNat n a c, 0) := by unfold textR; rw [if_neg (by simp [hz])]; rfl
    rw [hv]
    have hzb : (chk k n a b c != 0) = false := by simpa using hz
    have hn : n ≤ 255 := by omega
    clear hz hv
    have hds := dig_len n hn
    generalize hd : Lib.decDigits n = ds at hds
    have HD := Lib.hid hd
    clear hd
    rcases h1 with rfl | rfl | rfl
    all_goals cases a <;> cases c
    all_goals
      go_enter Tryd.func13, Tryd.ntmps13
      go_wp2_with (first
        | (go_at_call 15; refine (Check_any _ _ _ _ _ _ (hL.alloc _)).mono ?_; rintro e w1 ⟨rfl, hb1⟩; obtain ⟨cB, fB, lB⟩ := ((Bk.new w _ 23).to hb1).facts)
        | (go_at_call 36; refine (Itoa_any n _ hn ((hP.alloc _).below hb1)).mono ?_; rw [HD.out]; rintro e w2 ⟨rfl, hb2⟩; clear cB fB lB; obtain ⟨cB, fB, lB⟩ := (((Bk.new w _ 23).to hb1).to hb2).facts))
      all_goals try (exfalso; omega)
      go_ret2
      refine ⟨ret_str (ByteArray.ext ?_), by (repeat' (first | exact Below.refl _ _ | assumption | refine balloc ?_ _ | refine below_drawn ?_ _ | refine below_drew ?_ | refine bnext ?_ hb24 | refine bnext ?_ hb23 | refine bnext ?_ hb22 | refine bnext ?_ hb21 | refine bnext ?_ hb20 | refine bnext ?_ hb19 | refine bnext ?_ hb18 | refine bnext ?_ hb17 | refine bnext ?_ hb16 | refine bnext ?_ hb15 | refine bnext ?_ hb14 | refine bnext ?_ hb13 | refine bnext ?_ hb12 | refine bnext ?_ hb11 | refine bnext ?_ hb10 | refine bnext ?_ hb9 | refine bnext ?_ hb8 | refine bnext ?_ hb7 | refine bnext ?_ hb6 | refine bnext ?_ hb5 | refine bnext ?_ hb4 | refine bnext ?_ hb3 | refine bnext ?_ hb2 | refine bnext ?_ hb1))⟩
      simp [txtL, HD.out]
  · have hv : textR k n a b c = ([], chk k n a b c) := by unfold textR; rw [if_pos hz]
    rw [hv]
    have hzb : (chk k n a b c != 0) = true := by simpa using hz
    clear hz hv
    go_enter Tryd.func13, Tryd.ntmps13
    go_wp2_with (go_at_call 15; refine (Check_any _ _ _ _ _ _ (hL.alloc _)).mono ?_; rintro e w1 ⟨rfl, hb1⟩)
    go_ret2
    exact ⟨rfl, by (repeat' (first | exact Below.refl _ _ | assumption | refine balloc ?_ _ | refine below_drawn ?_ _ | refine below_drew ?_ | refine bnext ?_ hb24 | refine bnext ?_ hb23 | refine bnext ?_ hb22 | refine bnext ?_ hb21 | refine bnext ?_ hb20 | refine bnext ?_ hb19 | refine bnext ?_ hb18 | refine bnext ?_ hb17 | refine bnext ?_ hb16 | refine bnext ?_ hb15 | refine bnext ?_ hb14 | refine bnext ?_ hb13 | refine bnext ?_ hb12 | refine bnext ?_ hb11 | refine bnext ?_ hb10 | refine bnext ?_ hb9 | refine bnext ?_ hb8 | refine bnext ?_ hb7 | refine bnext ?_ hb6 | refine bnext ?_ hb5 | refine bnext ?_ hb4 | refine bnext ?_ hb3 | refine bnext ?_ hb2 | refine bnext ?_ hb1))⟩
end Go.Proofs.YtbifecejaphcfaaDoor
