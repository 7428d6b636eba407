/- Page tables: has. -/
import Derived.Test.YtnmknbnidfmmoaaDoorTab6
namespace Go.Proofs.YtnmknbnidfmmoaaDoor
open Go Go.Proofs Go.RowKit
set_option linter.unusedSimpArgs false
set_option linter.unusedVariables false
set_option maxRecDepth 100000

/-- Whether a frame is that of the root or of a leaf. -/
def hasB (r : Int) (ls : List Int) (frame : Int) : Bool := decide (frame = r ∨ frame ∈ ls)
theorem run_index8 (w : World) (ls : List Int) (h1 : ls.length = 8) (k : Nat) (hk : k < 8) :
    (Instr.index 65 (.agg (iw ls).toArray) (.int .i64 k)).run Tryd.prog w = .ok (.int .i64 (ls.getD k 0)) w := by
  have hu : Tryd.prog.underlying 65 = some (.array 8 3) := by kernel_rfl
  have hi : (Tryd.prog.info? 3).map (·.size) = some 1 := by kernel_rfl
  obtain ⟨i, hi, hsz⟩ := Option.map_eq_some_iff.1 hi
  have hu3 : (Tryd.prog.underlying 3).map (·.isRow) = some false := by kernel_rfl
  obtain ⟨d3, hu3, hd3⟩ := Option.map_eq_some_iff.1 hu3
  have ha : (isAgg 3).run Tryd.prog w = .ok false w := by
    unfold isAgg
    rw [Sem.run_bind, run_underlying hu3 w]
    cases d3 <;> simp_all
  have hl : k < ls.length := by omega
  have hlt : (k : Int) < 8 := by omega
  simp [Instr.index, asIntOf, run_underlying hu, sizeOf, typeInfo, hi, hsz, hlt, part, ha, iw, hl]
  intro h
  omega

set_option maxHeartbeats 1000000 in
theorem has_arr (r : Int) (ls : List Int) (es : List Nat) (b : Nat) (frame : Int) (w : World) (h1 : ls.length = 8) (h2 : es.length = 64) (kA : Bk w b (arrL r ls es).toArray 69) :
    Calls Tryd.prog 58 #[.pointer (some ⟨b, 0, none⟩), .int .i64 frame] w fun e w' => e = .returned (.bool (hasB r ls frame)) ∧ w = w' := by
  have c0 := arr_root kA
  have lA := kA.lt
  by_cases hf : frame = r
  · have hd : hasB r ls frame = true := by simp [hasB, hf]
    rw [hd]
    have hd2 : (frame == r) = true := by simp [hf]
    clear hf hd
    go_enter Tryd.func58, Tryd.ntmps58
    go_wp2_with fail
    go_ret
    exact ⟨rfl, rfl⟩
  have Hf : Hid (hasB r ls frame = decide (frame ∈ ls)) := Lib.hid (by simp [hasB, hf])
  have hd2 : (frame == r) = false := by simp [hf]
  have hc : w.rangeAt b 1 (iw ls) := by
    intro j v hv
    have hj : j < 8 := by have := (List.getElem?_eq_some_iff.1 hv).1; simp [iw_len, h1] at this; omega
    rw [arr_leaf h1 kA hj, ← hv]
    have : j < ls.length := by omega
    simp [iw, this]
  clear hf
  go_enter Tryd.func58, Tryd.ntmps58
  go_upto_region 3 with fail
  apply wp_region_lit
  iterate 9 go_step
  refine wpList_load_mid rfl 65 _ rfl b 1 rfl (iw ls) (.array 8 3) hc (by kernel_rfl) rfl (by rw [iw_len, h1]; kernel_rfl) ?_
  go_frame
  go_wp2_with fail
  go_loop [17] (fun i => ∃ k : Nat, k ≤ 8 ∧ i = .int .i64 k ∧ Hid (∀ j, j < k → ls.getD j 0 ≠ frame)) (fun i => 8 - (intOf i).toNat)
  case atStart => exact ⟨0, by omega, rfl, Lib.hid (fun j h => by omega)⟩
  case round =>
    obtain ⟨k, hk, rfl, Hno⟩ := hrel
    by_cases hlt : k < 8
    · have hix := run_index8 w ls h1 k hlt
      obtain ⟨z, hz⟩ : ∃ z, z = ls.getD k 0 := ⟨_, rfl⟩
      rw [← hz] at hix
      by_cases hzf : z = frame
      · have hd3 : (z == frame) = true := by simp [hzf]
        have Hv : Hid (hasB r ls frame = true) := Lib.hid (by
          rw [Hf.out, decide_eq_true_eq, ← hzf, hz]
          have hl : k < ls.length := by omega
          rw [List.getD_eq_getElem?_getD, List.getElem?_eq_getElem hl]
          exact List.getElem_mem hl)
        clear hz hzf
        go_wp2_with fail
        go_ret
        exact ⟨by rw [Hv.out]; rfl, rfl⟩
      · have hd3 : (z == frame) = false := by simp [hzf]
        have Hn2 : Hid (∀ j, j < k + 1 → ls.getD j 0 ≠ frame) := Lib.hid (fun j h => by
          rcases Nat.lt_or_ge j k with h' | h'
          · exact Hno.out j h'
          · rw [show j = k by omega, ← hz]; exact hzf)
        clear hz hzf
        go_wp2_with fail
        go_round
        case rel => exact ⟨k + 1, by omega, by go_num, Hn2⟩
        case measure => simp [intOf]; omega
    · have Hv : Hid (hasB r ls frame = false) := Lib.hid (by
        rw [Hf.out, decide_eq_false_iff_not]
        intro hm
        obtain ⟨j, hj, he⟩ := List.getElem_of_mem hm
        refine Hno.out j (by omega) ?_
        rw [List.getD_eq_getElem?_getD, List.getElem?_eq_getElem hj]
        exact he)
      obtain rfl : k = 8 := by omega
      go_wp2_with fail
      go_ret
      exact ⟨by rw [Hv.out]; rfl, rfl⟩
end Go.Proofs.YtnmknbnidfmmoaaDoor
