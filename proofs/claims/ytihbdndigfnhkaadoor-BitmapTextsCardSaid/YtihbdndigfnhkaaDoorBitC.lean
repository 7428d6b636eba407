/- The set of some numbers, as the statements of chapter 1 make it. -/
import Derived.Test.YtihbdndigfnhkaaDoorBitB
import Derived.Deep.DeepCutAuto
namespace Go.Proofs.YtihbdndigfnhkaaDoor
open Go Go.Proofs Go.RowKit
set_option linter.unusedSimpArgs false
set_option linter.unusedVariables false
set_option maxRecDepth 100000

theorem Bk.newd (w : World) (cs : Array Value) (t : TypeId) : Bk (w.drew.alloc (.cells cs t)) w.heap.size cs t := Bk.new w.drew cs t
def SetR (w : World) (p : Nat) (n : Nat) (l : List Int) (ok i : Value) (wr : World) : Prop :=
  ∃ k : Nat, k ≤ l.length ∧ ok = .bool true ∧ i = .int .i64 k ∧ BsX wr p (w.heap.size + 1) n (setW n l k) ∧ Bk wr w.heap.size #[.int .i64 0, .slice none 0 0] 24 ∧ Below w.heap.size w wr

set_option maxHeartbeats 2000000 in
theorem set_any (n : Nat) (l : List Int) (A : Option Addr) (c : Nat) (w : World) (hr : Rd w 1 A l.length (l.map (Value.int .i64))) (hl : l.length ≤ 1000) (hn : n ≤ 1000) (hz : ∀ z ∈ l, 0 ≤ z ∧ z < (n : Int)) :
    Calls Tryd.prog 37 #[.int .i64 n, .slice A l.length c] w fun e w' => ∃ (A' : Option Addr) (m c' : Nat), e = .returned (.tuple #[.agg #[.int .i64 n, .slice A' m c'], .bool true]) ∧ w'.ownsRow w.heap.size 61 1 (.slice A' m c') m (uw (setW n l l.length)) ∧ Below w.heap.size w w' := by
  have Hz := Lib.hid hz
  clear hz
  have kR := Bk.new w #[.int .i64 0, .slice none 0 0] 24
  have hB1 := balloc (Below.refl _ w) (.cells #[.int .i64 0, .slice none 0 0] 24)
  have hwA : (w.alloc (.cells #[.int .i64 0, .slice none 0 0] 24)).heap.size = w.heap.size + 1 := by simp
  generalize hw1 : w.alloc (.cells #[.int .i64 0, .slice none 0 0] 24) = wA at *
  go_enter Tryd.func37, Tryd.ntmps37
  go_wp2_with fail
  refine (New_any n _ (by omega)).mono ?_
  rintro e w1 ⟨A1, rfl, hown1, hb1⟩
  obtain ⟨m, hm⟩ : ∃ m, (n + 63) / 64 = m := ⟨_, rfl⟩
  rw [hm] at hown1 ⊢
  have H0 : Hid (setW n l 0 = List.replicate m 0) := Lib.hid (by rw [setW_zero, hm])
  clear hm hw1
  replace kR := kR.to hb1
  replace hB1 := bnext hB1 hb1
  rw [hwA] at hown1
  go_upto_region 2 with fail
  have kT := Bk.new w1 #[.int .i64 n, .slice A1 m m] 24
  replace kR := kR.alloc (.cells #[.int .i64 n, .slice A1 m m] 24)
  replace hB1 := balloc hB1 (.cells #[.int .i64 n, .slice A1 m m] 24)
  have hap : ∀ g, (Value.slice A1 m m).ownBlock = some g → g ≠ w1.heap.size := fun g e => by have := (hown1.lt g e).2; omega
  replace hown1 := hown1.alloc (.cells #[.int .i64 n, .slice A1 m m] 24)
  have hRp : w.heap.size < w1.heap.size := by have := hb1.size; omega
  generalize w1.alloc (.cells #[.int .i64 n, .slice A1 m m] 24) = w2 at *
  go_wp2_with fail
  go_loopw [8, 9] (SetR w w1.heap.size n l) (fun _ i _ => l.length - (intOf i).toNat)
  case atStart => exact ⟨0, by omega, rfl, rfl, ⟨A1, m, m, kT, by rw [H0.out]; exact hown1, hap⟩, kR, hB1⟩
  case round =>
    clear kT hown1 hap kR hB1 H0 hb1
    obtain ⟨k, hk, rfl, rfl, ⟨A2, m2, c2, kT, hown, hap⟩, kR, hBx⟩ := hrel
    have hsx := hBx.size
    have hRl := kR.lt
    have hTl := kT.lt
    by_cases hlt : k < l.length
    · obtain ⟨g, off, zz, rfl, hg, hzz, hc⟩ := (hr.below hBx (Nat.le_refl _)).num hlt
      have hzz2 : l[k] = zz := by rw [List.getElem?_eq_getElem hlt] at hzz; injection hzz
      obtain ⟨h0, h1⟩ := Hz.out zz (by rw [← hzz2]; exact List.getElem_mem _)
      obtain ⟨z, rfl⟩ : ∃ z : Nat, zz = z := ⟨zz.toNat, by omega⟩
      have HP := Lib.hid (setW_put n l k z (by omega) hlt hzz2 (by omega))
      have hml := chk_len (setW_chk n l k (by omega))
      have hm17 : m2 ≤ 1000000 := by have := hown.1; rw [uw_len] at this; omega
      have hrd : Rd wr 1 A2 m2 (uw (setW n l k)) := Rd.own hown
      have hss : wsmall (setW n l k) := wordsOf_small _ _
      clear hzz hzz2
      obtain ⟨cT, fT, lT⟩ := kT.facts
      go_upto_region 6 with fail
      have t0 : wr.cell? ⟨w1.heap.size, 0, none⟩ = some (.int .i64 n) := kT.cell 0
      have t1 : wr.cell? ⟨w1.heap.size, 1, none⟩ = some (.slice A2 m2 c2) := kT.cell 1
      have hwz : IntKind.i64.wrap ((z : Int) + 1) = (z : Int) + 1 := IntWalk.i64_in _ (by omega)
      clear cT fT lT
      go_cut [10, 11] (fun s10 s11 wx => ∃ q A3 m3 c3, s10 = .pointer (some ⟨q, 0, none⟩) ∧ s11 = .int .i64 0 ∧ wr.heap.size ≤ q ∧ Bk wx q #[.int .i64 n, .slice A3 m3 c3] 24 ∧ wx.ownsRow wr.heap.size 61 1 (.slice A3 m3 c3) m3 (uw (setW n l (k + 1))) ∧ Below wr.heap.size wr wx)
      case first =>
        go_region_held3 (fun w' => w'.cell? ⟨w1.heap.size, 0, none⟩ = some (.int .i64 n) ∧ w'.cell? ⟨w1.heap.size, 1, none⟩ = some (.slice A2 m2 c2) ∧ w'.cell? ⟨g, off + k, none⟩ = some (.int .i64 z))
          (refine ⟨?_, ?_, ?_⟩ <;> (repeat (with_reducible first | exact t0 | exact t1 | exact hc | refine cell_drew ?_ | refine cell_later hbQ ?_ | refine cell_alloc _ ?_ | refine cell_far ?_ (by show _ ≠ _; simp only; omega) _)))
          (first
            | (go_at_call 14; refine (Put_any n A2 m2 c2 (setW n l k) z ((z : Int) + 1) true _ (by repeat (with_reducible first | exact hrd | refine Rd.drew ?_ | refine Rd.alloc ?_ _)) hss hm17).mono ?_; rw [HP.out]; rintro e wQ ⟨AQ, mQ, cQ, rfl, hownQ, hbQ⟩
               first
                 | (have kN := (Bk.newd wr #[.int .i64 0, .slice none 0 0] 24).to hbQ; obtain ⟨cN, fN, lN⟩ := kN.facts)
                 | skip))
        all_goals
          go_wp2_with fail
          go_meet
          first
            | exact ⟨_, AQ, mQ, cQ, rfl, rfl, by first | exact Nat.le_refl _ | exact hbQ.size, Bk.new _ _ _, (own_less hownQ (by first | exact Nat.le_refl _ | (simp only [World.size_alloc, World.size_drew]; omega))).alloc _, by repeat (with_reducible first | exact Below.refl _ _ | refine bnext ?_ hbQ | refine below_drew ?_ | refine balloc ?_ _)⟩
            | exact ⟨_, AQ, mQ, cQ, rfl, rfl, Nat.le_refl _, kN.put2' _ _, own_less (own_put2' (p := wr.heap.size) hownQ (by simp only [World.size_alloc, World.size_drew]; omega) _ _) (by simp only [World.size_alloc, World.size_drew]; omega), below_put2' (by repeat (with_reducible first | exact Below.refl _ _ | refine bnext ?_ hbQ | refine below_drew ?_ | refine balloc ?_ _)) (Nat.le_refl _) _ _⟩
      case rest =>
        obtain ⟨q, A3, m3, c3, rfl, rfl, hq, kQ, hown3, hb3⟩ := hcut
        replace kT := kT.to hb3
        replace kR := kR.to hb3
        replace hBx := bnext hBx hb3
        clear t0 t1 hc hwz
        obtain ⟨cT, fT, lT⟩ := kT.facts
        obtain ⟨cQ, fQ, lQ⟩ := kQ.facts
        go_wp2_with fail
        have kF := kT.put2' (.int .i64 n) (.slice A3 m3 c3)
        have hap3 : ∀ g, (Value.slice A3 m3 c3).ownBlock = some g → g ≠ w1.heap.size := fun g e => by have := (hown3.lt g e).1; omega
        have hownF := own_less (own_apart2 (q := w1.heap.size) hown3 hap3 (.int .i64 n) (.slice A3 m3 c3)) (show w.heap.size + 1 ≤ wr.heap.size by omega)
        have kRF := kR.far2' (g := w1.heap.size) (by omega) (.int .i64 n) (.slice A3 m3 c3)
        have hBF := below_put2' (p := w1.heap.size) hBx (by omega) (.int .i64 n) (.slice A3 m3 c3)
        go_roundw
        case rel => first | exact ⟨k + 1, by omega, rfl, by go_num, ⟨A3, m3, c3, kF, hownF, hap3⟩, kRF, hBF⟩ | ((repeat apply Exists.intro); exact ⟨⟨k + 1, by omega, rfl, by go_num, ⟨A3, m3, c3, kF, hownF, hap3⟩, kRF, hBF⟩, rfl⟩)
        case measure => simp [intOf]; omega
    · obtain rfl : k = l.length := by omega
      obtain ⟨cT, fT, lT⟩ := kT.facts
      obtain ⟨cR, fR, lR⟩ := kR.facts
      go_wp2_with fail
      have kF := kR.put2' (.int .i64 n) (.slice A2 m2 c2)
      have hBF := below_put2' (p := w.heap.size) hBx (by omega) (.int .i64 n) (.slice A2 m2 c2)
      have hOF := own_less (own_put2' (p := w.heap.size) hown (by omega) (.int .i64 n) (.slice A2 m2 c2)) (show w.heap.size ≤ w.heap.size + 1 by omega)
      clear cR fR lR cT fT lT
      generalize ((wr.setCell ⟨w.heap.size, 0, none⟩ (.int .i64 n)).setCell ⟨w.heap.size, 1, none⟩ (.slice A2 m2 c2)) = wF at *
      obtain ⟨cF, fF, lF⟩ := kF.facts
      exact bodyPost_ret (v := .tuple #[.agg #[.int .i64 n, .slice A2 m2 c2], .bool true]) (by simp [results, Tryd.results37, go_sem, cF]) rfl ⟨A2, m2, c2, rfl, hOF, hBF⟩
end Go.Proofs.YtihbdndigfnhkaaDoor
