/- Entries of a page table: the text of an entry, by the reference. -/
import Derived.Test.YtbifecejaphcfaaDoorEn9
import Derived.Laws.IdiomStrings
namespace Go.Proofs.YtbifecejaphcfaaDoor
open Go Go.Proofs Go.RowKit
set_option linter.unusedSimpArgs false
set_option linter.unusedVariables false

theorem dig_small (m : Nat) (h : m < 10) : Lib.decDigits m = [UInt8.ofNat (48 + m)] := by rw [Lib.decDigits]; simp [h]
theorem dig_big (m : Nat) (h : ¬ m < 10) : Lib.decDigits m = Lib.decDigits (m / 10) ++ [UInt8.ofNat (48 + m % 10)] := by rw [Lib.decDigits]; simp [h]
def digOut (m : Nat) (out : List UInt8) : List UInt8 := if m = 0 then out else Lib.decDigits m ++ out
theorem digOut_step (m : Nat) (out : List UInt8) : digOut (m / 10) (UInt8.ofNat (48 + m % 10) :: out) = Lib.decDigits m ++ out := by
  unfold digOut
  by_cases h : m < 10
  · rw [if_pos (by omega), dig_small m h, show m % 10 = m by omega]; rfl
  · rw [if_neg (by omega), dig_big m h]; simp
theorem conv1 (w : World) (z : Int) (u : UInt8) (h : z = (u.toNat : Int)) :
    (convert 69 9 (.slice (some ⟨w.heap.size, 0, none⟩) 1 1)).run Tryd.prog (w.alloc (.cells #[.int .u8 z] 5)) = .ok (.string ⟨#[u]⟩) (w.alloc (.cells #[.int .u8 z] 5)) := by
  refine run_convert_bytes_back (P := Tryd.prog) _ 69 9 5 ⟨w.heap.size, 0, none⟩ 1 [u] Tryd.underlying69 Tryd.underlying5 Tryd.underlying9 ?_
  intro j hj
  obtain rfl : j = 0 := by simp at hj; omega
  rw [h]
  exact (Bk.new w #[.int .u8 (u.toNat : Int)] 5).cell 0
def measD (i s : Value) : Nat := (intOf i).toNat + match s with | .string b => (if b.size = 0 then 1 else 0) | _ => 0
def DigRel (n : Nat) (w : World) (i s : Value) (wr : World) : Prop :=
  ∃ (m : Nat) (out : List UInt8), i = .int .i64 m ∧ s = .string ⟨out.toArray⟩ ∧ m ≤ 255 ∧ ((out = [] ∧ m = n) ∨ (out ≠ [] ∧ digOut m out = Lib.decDigits n)) ∧ Below w.heap.size w wr

set_option maxHeartbeats 1000000 in
theorem digits_any (n : Nat) (w : World) (hn : n ≤ 255) :
    Calls Tryd.prog 37 #[.int .i64 n] w fun e w' => e = .returned (.string ⟨(Lib.decDigits n).toArray⟩) ∧ Below w.heap.size w w' := by
  have hdl := dig_len n hn
  go_enter Tryd.func37, Tryd.ntmps37
  go_wp2
  go_loopw [0, 3] (DigRel n w) (fun i s _ => measD i s)
  case atStart => exact ⟨n, [], rfl, rfl, hn, .inl ⟨rfl, rfl⟩, Below.refl _ _⟩
  case round =>
    obtain ⟨m, out, rfl, rfl, hm, hcase, hB⟩ := hrel
    have Hnext : Hid (¬ (m = 0 ∧ out ≠ []) → digOut (m / 10) (UInt8.ofNat (48 + m % 10) :: out) = Lib.decDigits n) := Lib.hid fun hne => by
      rw [digOut_step]
      rcases hcase with ⟨rfl, rfl⟩ | ⟨h1, h2⟩
      · simp
      · unfold digOut at h2
        rw [if_neg (fun h => hne ⟨h, h1⟩)] at h2
        exact h2
    have hol : out.length ≤ 3 := by
      rcases hcase with ⟨rfl, rfl⟩ | ⟨h1, h2⟩
      · simp
      · unfold digOut at h2
        split at h2
        · rw [h2]; exact hdl
        · have := congrArg List.length h2; simp at this; omega
    have hnil : out = [] ∨ out ≠ [] := by
      by_cases h : out = []
      · exact .inl h
      · exact .inr h
    by_cases hend : m = 0 ∧ out ≠ []
    · obtain ⟨hm0, ho⟩ := hend
      have hout : Lib.decDigits n = out := by
        rcases hcase with ⟨h1, _⟩ | ⟨_, h2⟩
        · exact absurd h1 ho
        · rw [← h2, hm0]; rfl
      have HO := Lib.hid hout
      have hm1 : ¬ 0 < m := by omega
      clear hcase Hnext hnil hout hm0
      have e1 : out.isEmpty = false := by simpa using ho
      go_wp2
      go_ret
      exact ⟨by rw [HO.out]; rfl, hB⟩
    · have hnx := Hnext.out hend
      have hu : (48 : Int) + (m : Int) % 10 = ((UInt8.ofNat (48 + m % 10)).toNat : Int) := by
        rw [UInt8.toNat_ofNat']; omega
      have hcv := conv1 wr (48 + (m : Int) % 10) _ hu
      have HN := Lib.hid hnx
      clear hnx Hnext hu hcase
      generalize UInt8.ofNat (48 + m % 10) = u at hcv HN
      by_cases hm0 : 0 < m
      · go_wp2_with fail
        go_roundw
        case rel =>
          refine ⟨m / 10, u :: out, by go_num, ?_, by omega, .inr ⟨by simp, HN.out⟩, balloc hB _⟩
          exact congrArg Value.string (ByteArray.ext (by simp))
        case measure =>
          have : ({ data := #[u] } ++ { data := out.toArray } : ByteArray).size = 1 + out.length := by rw [ByteArray.size_append]; show 1 + out.toArray.size = _; simp
          simp only [measD, intOf, this]
          split <;> split <;> omega
      · obtain rfl : out = [] := by
          rcases hnil with h | h
          · exact h
          · exact absurd ⟨by omega, h⟩ hend
        clear hend hnil
        go_wp2_with fail
        go_roundw
        case rel =>
          refine ⟨m / 10, [u], by go_num, ?_, by omega, .inr ⟨by simp, HN.out⟩, balloc hB _⟩
          exact congrArg Value.string (ByteArray.ext (by simp))
        case measure =>
          have : ({ data := #[u] } ++ { data := #[] } : ByteArray).size = 1 := by rw [ByteArray.size_append]; rfl
          have h0 : ({ data := #[] } : ByteArray).size = 0 := rfl
          have hmz : m = 0 := by omega
          subst hmz
          unfold measD
          simp only [this, h0]
          decide

set_option maxHeartbeats 1000000 in
theorem rText_any (k n : Int) (a b c : Bool) (w : World) :
    Calls Tryd.prog 14 #[.agg #[.int .i64 k, .int .i64 n, .bool a, .bool b, .bool c]] w fun e w' => e = .returned (.tuple #[.string ⟨(textR k n a b c).1.toArray⟩, .int .i64 (textR k n a b c).2]) ∧ Below w.heap.size w w' := by
  by_cases hz : chk k n a b c = 0
  · obtain ⟨h1, h2, h3⟩ := chk_ok k n a b c hz
    obtain ⟨n, rfl⟩ : ∃ q : Nat, n = q := ⟨n.toNat, by omega⟩
    have hv : textR k n a b c = (txtL k.toNat n a c, 0) := by unfold textR; rw [if_neg (by simp [hz])]; rfl
    rw [hv]
    have hzb : (chk k n a b c != 0) = false := by simpa using hz
    have hn : n ≤ 255 := by omega
    clear hz hv
    have hds := dig_len n hn
    generalize hd : Lib.decDigits n = ds at hds
    have HD := Lib.hid hd
    clear hd
    rcases h1 with rfl | rfl | rfl
    all_goals cases a <;> cases c
    all_goals
      go_enter Tryd.func14, Tryd.ntmps14
      go_wp2_with (first
        | (go_at_call 16; refine (rCheck_any _ _ _ _ _ _).mono ?_; rintro e w1 ⟨rfl, hb1⟩; obtain ⟨cB, fB, lB⟩ := ((Bk.new w _ 23).to hb1).facts)
        | (go_at_call 37; refine (digits_any n _ hn).mono ?_; rw [HD.out]; rintro e w2 ⟨rfl, hb2⟩; clear cB fB lB; obtain ⟨cB, fB, lB⟩ := (((Bk.new w _ 23).to hb1).to hb2).facts))
      all_goals try (exfalso; omega)
      go_ret2
      refine ⟨ret_str (ByteArray.ext ?_), by (repeat' (first | exact Below.refl _ _ | assumption | refine balloc ?_ _ | refine below_drawn ?_ _ | refine below_drew ?_ | refine bnext ?_ hb24 | refine bnext ?_ hb23 | refine bnext ?_ hb22 | refine bnext ?_ hb21 | refine bnext ?_ hb20 | refine bnext ?_ hb19 | refine bnext ?_ hb18 | refine bnext ?_ hb17 | refine bnext ?_ hb16 | refine bnext ?_ hb15 | refine bnext ?_ hb14 | refine bnext ?_ hb13 | refine bnext ?_ hb12 | refine bnext ?_ hb11 | refine bnext ?_ hb10 | refine bnext ?_ hb9 | refine bnext ?_ hb8 | refine bnext ?_ hb7 | refine bnext ?_ hb6 | refine bnext ?_ hb5 | refine bnext ?_ hb4 | refine bnext ?_ hb3 | refine bnext ?_ hb2 | refine bnext ?_ hb1))⟩
      simp [txtL, HD.out]
  · have hv : textR k n a b c = ([], chk k n a b c) := by unfold textR; rw [if_pos hz]
    rw [hv]
    have hzb : (chk k n a b c != 0) = true := by simpa using hz
    clear hz hv
    go_enter Tryd.func14, Tryd.ntmps14
    go_wp2_with (go_at_call 16; refine (rCheck_any _ _ _ _ _ _).mono ?_; rintro e w1 ⟨rfl, hb1⟩)
    go_ret2
    exact ⟨rfl, by (repeat' (first | exact Below.refl _ _ | assumption | refine balloc ?_ _ | refine below_drawn ?_ _ | refine below_drew ?_ | refine bnext ?_ hb24 | refine bnext ?_ hb23 | refine bnext ?_ hb22 | refine bnext ?_ hb21 | refine bnext ?_ hb20 | refine bnext ?_ hb19 | refine bnext ?_ hb18 | refine bnext ?_ hb17 | refine bnext ?_ hb16 | refine bnext ?_ hb15 | refine bnext ?_ hb14 | refine bnext ?_ hb13 | refine bnext ?_ hb12 | refine bnext ?_ hb11 | refine bnext ?_ hb10 | refine bnext ?_ hb9 | refine bnext ?_ hb8 | refine bnext ?_ hb7 | refine bnext ?_ hb6 | refine bnext ?_ hb5 | refine bnext ?_ hb4 | refine bnext ?_ hb3 | refine bnext ?_ hb2 | refine bnext ?_ hb1))⟩
end Go.Proofs.YtbifecejaphcfaaDoor
