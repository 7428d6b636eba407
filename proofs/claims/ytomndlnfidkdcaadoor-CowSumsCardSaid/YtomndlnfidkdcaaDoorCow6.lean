/- cow.shut, walked. -/
import Derived.Test.YtomndlnfidkdcaaDoorCow5
namespace Go.Proofs.YtomndlnfidkdcaaDoor
open Go Go.Proofs Go.RowKit Go.Maps
set_option linter.unusedSimpArgs false
set_option linter.unusedVariables false
set_option maxRecDepth 100000

theorem packR_of (k n : Int) (a b c : Bool) (h : chkE (k, n, a, b, c) = 0) : packR k n a b c = (((packE (k, n, a, b, c) : Nat) : Int), 0) := (packE_val _ h).1

theorem frozen_later {w w' : World} {b o : Nat} (hb : Below w.heap.size w w') (hl : b < w.heap.size) (h : w.frozen? ⟨b, o, none⟩ = false) : w'.frozen? ⟨b, o, none⟩ = false := (hb.frozen (p := ⟨b, o, none⟩) hl).trans h
theorem cell_farB {w : World} {b o b' o' : Nat} {v : Value} (h : w.cell? ⟨b, o, none⟩ = some v) (hp : b ≠ b') (u : Value) : (w.setCell ⟨b', o', none⟩ u).cell? ⟨b, o, none⟩ = some v := cell_far h hp u
theorem frozen_drew {w : World} {a : Addr} (h : w.frozen? a = false) : w.drew.frozen? a = false := h

set_option maxHeartbeats 4000000 in
theorem shut_any (A : Option Addr) (n c : Nat) (U : List (List En5)) (w : World) (hn : n ≤ 11) (hU : RR ew 5 w A n U) (hl : ∀ l ∈ U, l.length ≤ 70) (hk : ∀ l ∈ U, ∀ e ∈ l, chkE e = 0) (hL : LayOK w) :
    Calls Tryd.prog 45 #[.slice A n c] w fun e w' => e = .returned (.slice (some ⟨w.heap.size, 0, none⟩) n n) ∧ RR uw 1 w' (some ⟨w.heap.size, 0, none⟩) n (U.map fun l => l.map packE) ∧ Below w.heap.size w w' := by
  have hmk := run_make_row' (P := Tryd.prog) 22 54 (.slice none 0 0) 24 Tryd.underlying22 infoSl rfl .i64 .i64 n (by omega) (by omega)
  have Hlen := Lib.hid hU.len
  have HL := Lib.hid hl
  have HK := Lib.hid hk
  clear hl hk
  have hS0 := ShutR.start (w := w) Hlen.out.symm
  go_enter Tryd.func45, Tryd.ntmps45
  go_wp2
  clear hmk
  go_loopw [13] (fun i wr => ∃ k : Nat, k ≤ n ∧ i = .int .i64 k ∧ ShutR U n w k wr)
    (fun i _ => n - (intOf i).toNat)
  case atStart => exact ⟨0, by omega, rfl, hS0⟩
  case round =>
    clear hS0
    obtain ⟨k, hkn, rfl, hS⟩ := hrel
    have hB : Below w.heap.size w wr := by obtain ⟨_, _, _, h⟩ := hS; exact h
    by_cases hlt : k < n
    · obtain ⟨l, hrow⟩ : ∃ l, U[k]? = some l := ⟨_, List.getElem?_eq_getElem (by rw [Hlen.out]; exact hlt)⟩
      have hmem : l ∈ U := List.mem_of_getElem? hrow
      obtain ⟨bA, off, B, cB, rfl, hbl, hcell0, hR⟩ := hU.row hrow
      have hcell := (hB.cell (p := ⟨bA, off + k, none⟩) hbl).trans hcell0
      have hg : U.getD k [] = l := by rw [List.getD_eq_getElem?_getD, hrow]; rfl
      have hl70 := HL.out _ hmem
      have HKr := Lib.hid (HK.out _ hmem)
      have HG := Lib.hid hg
      have HR := Lib.hid hR
      have hI := hS.open hlt
      rw [hg] at hI
      have hmk2 := run_make_row' (P := Tryd.prog) 54 52 (.int .u64 0) 8 Tryd.underlying54 infoWd rfl .i64 .i64 l.length (by omega) (by omega)
      obtain ⟨cO, fO, lO⟩ : wr.cell? ⟨w.heap.size, k, none⟩ = some (shV U (fun _ => 0) 0 k) ∧ wr.frozen? ⟨w.heap.size, k, none⟩ = false ∧ w.heap.size < wr.heap.size := by
        obtain ⟨G, h1, _⟩ := hS
        refine ⟨?_, h1.frozen k, h1.lt⟩
        rw [h1.cell hlt]
        simp [shV]
      clear hrow hmem hcell0 hR hg hS
      go_wp2
      clear cO fO lO hmk2 hB
      obtain ⟨wo, rfl⟩ : ∃ wo : World, wo = wr := ⟨_, rfl⟩
      go_loopw [26] (fun i wr => ∃ q : Nat, q ≤ l.length ∧ i = .int .i64 q ∧ ShutI U n w k wo.heap.size q wr)
        (fun i _ => l.length - (intOf i).toNat)
      case atStart => exact ⟨0, by omega, rfl, hI⟩
      case round =>
        clear hI
        obtain ⟨q, hq, rfl, hI⟩ := hrel
        obtain ⟨cO, fO, lO, cG, fG, lG, hB⟩ : wr.cell? ⟨w.heap.size, k, none⟩ = some (.slice (some ⟨wo.heap.size, 0, none⟩) l.length l.length) ∧ wr.frozen? ⟨w.heap.size, k, none⟩ = false ∧ w.heap.size < wr.heap.size ∧
            (q < l.length → wr.cell? ⟨wo.heap.size, q, none⟩ = some (.int .u64 0)) ∧ wr.frozen? ⟨wo.heap.size, q, none⟩ = false ∧ wo.heap.size < wr.heap.size ∧ Below w.heap.size w wr := by
          obtain ⟨G, e, h1, h2, h3, h4, h5⟩ := hI
          have hg := HG.out
          refine ⟨?_, h1.frozen k, h1.lt, fun hq => ?_, h4.frozen q, h4.lt, h5⟩
          · rw [h1.cell hlt]
            simp only [shV]
            rw [if_pos (by omega), hg, e]
          · rw [h4.cell (by rw [hg]; exact hq)]
            simp [shX]
        by_cases hqt : q < l.length
        · replace cG := cG hqt
          obtain ⟨e, hent⟩ : ∃ e, l[q]? = some e := ⟨_, List.getElem?_eq_getElem hqt⟩
          obtain ⟨bB, of2, rfl, hbl2, e0, e1, e2, e3, e4⟩ := (HR.out.below hB (Nat.le_refl _)).ent hent
          have hck := HKr.out e (List.mem_of_getElem? hent)
          have hput := hI.put e (by rw [HG.out]; exact hent)
          have HPUT := Lib.hid (hI.put e (by rw [HG.out]; exact hent))
          obtain ⟨k0, n0, a0, b0, c0⟩ := e
          simp only at e0 e1 e2 e3 e4
          have HP := Lib.hid (packR_of _ _ _ _ _ hck)
          have HI := Lib.hid hI
          have HENT := Lib.hid hent
          clear hck hput hent
          have i1 : (0 : Int) ≤ (k : Int) := by omega
          have i2 : (k : Int) < (n : Int) := by omega
          have i3 : (0 : Int) ≤ (q : Int) := by omega
          have i4 : (q : Int) < (l.length : Int) := by omega
          go_wp2
          have kE := Bk.new wr #[.int .i64 k0, .int .i64 n0, .bool a0, .bool b0, .bool c0] 61
          have hA := balloc (Below.refl wr.heap.size wr) (.cells #[.int .i64 k0, .int .i64 n0, .bool a0, .bool b0, .bool c0] 61)
          have cO1 := cell_later hA cO
          have cG1 := cell_later hA cG
          have fG1 := frozen_later hA lG fG
          have lG1 := Nat.lt_of_lt_of_le lG hA.size
          have hL1 := (hL.below hB).below hA
          have HI1 := Lib.hid (HI.out.to hA)
          have hwo : w.heap.size < wo.heap.size := by obtain ⟨G, _, _, _, h3, _⟩ := HI.out; exact h3
          have hwo2 : wo.heap.size < wr.heap.size := lG
          clear cO cG fG fO lO lG e0 e1 e2 e3 e4 hB hA hcell hI
          generalize hw1 : wr.alloc (.cells #[.int .i64 k0, .int .i64 n0, .bool a0, .bool b0, .bool c0] 61) = w1 at *
          clear hw1
          have c0' := kE.cell 0
          have c1' := kE.cell 1
          have c2' := kE.cell 2
          have c3' := kE.cell 3
          have c4' := kE.cell 4
          simp at c0' c1' c2' c3' c4'
          clear HPUT
          have lG2 : wo.heap.size < w1.drew.heap.size := lG1
          have hne1 : w.heap.size ≠ wo.heap.size := by omega
          have hne2 : wr.heap.size ≠ wo.heap.size := by omega
          go_region_held3 (fun w' => w'.cell? ⟨w.heap.size, k, none⟩ = some (.slice (some ⟨wo.heap.size, 0, none⟩) l.length l.length) ∧ w'.cell? ⟨wr.heap.size, 0, none⟩ = some (.int .i64 k0) ∧ w'.cell? ⟨wr.heap.size, 1, none⟩ = some (.int .i64 n0) ∧ w'.cell? ⟨wr.heap.size, 2, none⟩ = some (.bool a0) ∧ w'.cell? ⟨wr.heap.size, 3, none⟩ = some (.bool b0) ∧ w'.cell? ⟨wr.heap.size, 4, none⟩ = some (.bool c0))
            (refine ⟨?_, ?_, ?_, ?_, ?_, ?_⟩ <;> (repeat (with_reducible first | exact cO1 | exact c0' | exact c1' | exact c2' | exact c3' | exact c4' | refine cell_drew ?_ | refine cell_later hb2 ?_ | refine cell_farB ?_ hne1 _ | refine cell_farB ?_ hne2 _)))
            (first
              | (go_at_call 63; refine (Pack_any _ _ _ _ _ _ hL1.drew).mono ?_; rintro e w2 ⟨he, hb2⟩; rw [HP.out] at he; simp only at he; subst he; have cG2 := cell_later hb2 (cell_drew cG1); have fG2 := frozen_later hb2 lG2 (frozen_drew fG1)))
          have HI2 := (HI1.out.to (below_drew (Below.refl _ w1))).to hb2
          have hput := HI2.put _ (by rw [HG.out]; exact HENT.out)
          clear cG2 fG2 cG1 fG1 cO1 c0' c1' c2' c3' c4'
          go_wp2
          go_roundw
          case rel => exact ⟨q + 1, by omega, by go_num, hput⟩
          case measure => simp [intOf]; omega
        · obtain rfl : q = l.length := by omega
          have hc := ShutI.close (by rw [HG.out]; exact hI)
          go_wp2
          go_roundw
          case rel => exact ⟨k + 1, by omega, by go_num, hc⟩
          case measure => simp [intOf]; omega
    · obtain rfl : k = n := by omega
      go_wp2
      go_ret
      exact ⟨rfl, hS.done Hlen.out, hB⟩
end Go.Proofs.YtomndlnfidkdcaaDoor
