/- Page tables: isEmpty and release. -/
import Derived.Test.YtnmknbnidfmmoaaDoorTab12
import Derived.Defers
namespace Go.Proofs.YtnmknbnidfmmoaaDoor
open Go Go.Proofs Go.RowKit
set_option linter.unusedSimpArgs false
set_option linter.unusedVariables false
set_option maxRecDepth 100000

def emptyK (es : List Nat) (leaf k : Nat) : Bool := (List.range k).all fun i => unpK (es.getD (leaf * 8 + i) 0) == 0
theorem emptyK_succ (es : List Nat) (leaf k : Nat) : emptyK es leaf (k + 1) = (emptyK es leaf k && (unpK (es.getD (leaf * 8 + k) 0) == 0)) := by simp [emptyK, List.range_succ]
theorem emptyK_no (es : List Nat) (leaf k : Nat) (hk : k < 8) (h : unpK (es.getD (leaf * 8 + k) 0) ≠ 0) : emptyB es leaf = false := by
  unfold emptyB
  rw [Bool.eq_false_iff]
  intro hc
  have := List.all_eq_true.1 hc k (List.mem_range.2 hk)
  exact h (by simpa using this)

set_option maxHeartbeats 1000000 in
theorem isEmpty_arr (r : Int) (ls : List Int) (es : List Nat) (b q : Nat) (w : World) (h1 : ls.length = 8) (h2 : es.length = 64) (hq : q < 8) (hs : wsmall es) (hU : ∀ p, p < 64 → unpE (es.getD p 0) = 0) (kA : Bk w b (arrL r ls es).toArray 69) (hL : LayOK w) :
    Calls Tryd.prog 74 #[.pointer (some ⟨b, 0, none⟩), .int .i64 q] w fun e w' => e = .returned (.bool (emptyB es q)) ∧ Below w.heap.size w w' := by
  go_enter Tryd.func74, Tryd.ntmps74
  go_wp2_with fail
  go_loopw [8] (fun i wr => ∃ k : Nat, k ≤ 8 ∧ i = .int .i64 k ∧ Hid (emptyK es q k = true) ∧ Below w.heap.size w wr) (fun i _ => 8 - (intOf i).toNat)
  case atStart => exact ⟨0, by omega, rfl, Lib.hid rfl, Below.refl _ _⟩
  case round =>
    obtain ⟨k, hk, rfl, Hno, hBx⟩ := hrel
    by_cases hlt : k < 8
    · have kA2 := kA.to hBx
      have lA := kA2.lt
      have ce := arr_ent h1 h2 kA2 (show q * 8 + k < 64 by omega)
      have hxs := getD_small hs (q * 8 + k) (by omega)
      have hux := hU (q * 8 + k) (by omega)
      have hpI : ((q * 8 + k : Nat) : Int) < 64 := by omega
      have HS := Lib.hid (emptyK_succ es q k)
      have HN := Lib.hid (emptyK_no es q k hlt)
      obtain ⟨x, hx⟩ : ∃ x, x = es.getD (q * 8 + k) 0 := ⟨_, rfl⟩
      rw [← hx] at ce hxs hux HS HN
      clear hx
      have HK := Lib.hid (fun W => kind_any x W hxs hux)
      obtain ⟨kx, hkx⟩ : ∃ kx, kx = unpK x := ⟨_, rfl⟩
      rw [← hkx] at HK HS HN
      clear hkx
      have hPg := fun W => Page_nat q k W hq hlt
      have hLr := hL.below hBx
      obtain ⟨pp, hpp⟩ : ∃ pp, pp = q * 8 + k := ⟨_, rfl⟩
      rw [← hpp] at ce hpI hPg
      clear hpp
      by_cases hk0 : kx = 0
      · have d1 : (kx != 0) = false := by simp [hk0]
        have HS2 : Hid (emptyK es q (k + 1) = true) := Lib.hid (by rw [HS.out, Hno.out, hk0]; rfl)
        clear hk0 HS HN
        go_wp2_with (first
          | (go_at_call 70; refine (hPg _).mono ?_; rintro e w7 ⟨rfl, rfl⟩)
          | (go_at_call 59; refine (HK.out _ hLr).mono ?_; rintro e w8 ⟨rfl, hb8⟩))
        go_roundw
        case rel => exact ⟨k + 1, by omega, by go_num, HS2, bnext hBx hb8⟩
        case measure => simp [intOf]; omega
      · have d1 : (kx != 0) = true := by simp [hk0]
        have HV := Lib.hid (HN.out hk0)
        clear hk0 HS HN
        go_wp2_with (first
          | (go_at_call 70; refine (hPg _).mono ?_; rintro e w7 ⟨rfl, rfl⟩)
          | (go_at_call 59; refine (HK.out _ hLr).mono ?_; rintro e w8 ⟨rfl, hb8⟩))
        go_ret
        exact ⟨by rw [HV.out]; rfl, bnext hBx hb8⟩
    · obtain rfl : k = 8 := by omega
      have HV : Hid (emptyB es q = true) := Lib.hid Hno.out
      go_wp2_with fail
      go_ret
      exact ⟨by rw [HV.out]; rfl, hBx⟩

theorem rel1_no (B1 B2 B3 : Nat) (u : FrameMode) (w : World) (hc : w.cell? ⟨B3, 0, none⟩ = some (.int .i64 (-1))) :
    CallsD Tryd.prog 73 #[.pointer (some ⟨B3, 0, none⟩), .pointer (some ⟨B1, 0, none⟩), .pointer (some ⟨B2, 0, none⟩)] u w fun e u' w' => u' = u ∧ (e = .returned (.tuple #[]) ∧ w' = w) := by
  go_enter_d Tryd.func73, Tryd.ntmps73
  go_wp2_with fail
  go_end0
  exact ⟨rfl, rfl⟩

theorem rel1_yes (r : Int) (ls : List Int) (es : List Nat) (b q B1 B2 B3 : Nat) (f : Int) (u : FrameMode) (w : World) (h1 : ls.length = 8) (hq : q < 8) (kA : Bk w b (arrL r ls es).toArray 69) (hf : f ≠ -1)
    (hc3 : w.cell? ⟨B3, 0, none⟩ = some (.int .i64 f)) (hc1 : w.cell? ⟨B1, 0, none⟩ = some (.pointer (some ⟨b, 0, none⟩))) (hc2 : w.cell? ⟨B2, 0, none⟩ = some (.int .i64 q)) :
    CallsD Tryd.prog 73 #[.pointer (some ⟨B3, 0, none⟩), .pointer (some ⟨B1, 0, none⟩), .pointer (some ⟨B2, 0, none⟩)] u w fun e u' w' => u' = u ∧ (e = .returned (.tuple #[]) ∧ w' = (w.setCell ⟨b, 1 + q, none⟩ (.int .i64 (-1))).drew) := by
  have hd : (f != -1) = true := by simpa using hf
  have cl := arr_leaf h1 kA hq
  have fl := kA.frozen (1 + q)
  have hqI : (q : Int) < 8 := by omega
  have lA := kA.lt
  go_enter_d Tryd.func73, Tryd.ntmps73
  go_wp2_with fail
  go_still_tail 5, (by kernel_rfl)
  change wpList _ _ _ _ _ w.drew
  go_wp2_with fail
  go_end0
  exact ⟨rfl, rfl⟩
end Go.Proofs.YtnmknbnidfmmoaaDoor
