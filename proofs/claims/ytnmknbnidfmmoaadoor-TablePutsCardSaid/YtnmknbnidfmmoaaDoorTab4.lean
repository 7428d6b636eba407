/- Which page tables are valid: the program's Check. -/
import Derived.Test.YtnmknbnidfmmoaaDoorTab3
namespace Go.Proofs.YtnmknbnidfmmoaaDoor
open Go Go.Proofs Go.RowKit
set_option linter.unusedSimpArgs false
set_option linter.unusedVariables false
set_option maxRecDepth 100000

theorem Leaf_nat (k : Nat) (w : World) (h : k < 64) :
    Calls Tryd.prog 48 #[.int .i64 k] w fun e w' => e = .returned (.tuple #[.int .i64 ((k / 8 : Nat) : Int), .int .i64 ((k % 8 : Nat) : Int), .int .i64 0]) ∧ w = w' := by
  have := Leaf_ok k w (by omega) (by omega)
  rwa [show (k : Int) / 8 = ((k / 8 : Nat) : Int) by omega, show (k : Int) % 8 = ((k % 8 : Nat) : Int) by omega] at this

theorem unpR_ok0 (x : Nat) (h : unpE x = 0) : unpR x = ((((x % 4 : Nat) : Int), ((x / 256 : Nat) : Int), decide (x / 4 % 2 = 1), decide (x / 8 % 2 = 1), decide (x / 16 % 2 = 1)), 0) := by unfold unpR; rw [if_pos h]
theorem unpR_bad (x : Nat) (h : unpE x ≠ 0) : unpR x = ((0, 0, false, false, false), unpE x) := by unfold unpR; rw [if_neg h]

set_option maxHeartbeats 2000000 in
theorem TCheck_any (r : Int) (ls : List Int) (es : List Nat) (v : Value) (w : World) (hv : TbV w v (r, ls, es)) (hs : wsmall es) (hL : LayOK w) :
    Calls Tryd.prog 15 #[v] w fun e w' => e = .returned (.int .i64 (tabE r ls es)) ∧ Below w.heap.size w w' := by
  obtain ⟨A, c, B, d, rfl, hA, hB, hcc⟩ := hv
  simp only at hA hB hcc
  unfold tabV
  have kT := Bk.new w #[.int .i64 r, .slice A ls.length c, .slice B es.length d] 25
  have hB1 := balloc (Below.refl _ w) (.cells #[.int .i64 r, .slice A ls.length c, .slice B es.length d] 25)
  have hA1 := hA.alloc (.cells #[.int .i64 r, .slice A ls.length c, .slice B es.length d] 25)
  have hE1 := hB.alloc (.cells #[.int .i64 r, .slice A ls.length c, .slice B es.length d] 25)
  have hL1 := hL.alloc (.cells #[.int .i64 r, .slice A ls.length c, .slice B es.length d] 25)
  by_cases h1 : ls.length = 8
  case neg =>
    have hv : tabE r ls es = 3 := by unfold tabE; rw [if_pos (.inl h1)]
    rw [hv]
    have hd : ((ls.length : Int) != 8) = true := by simp; omega
    go_enter Tryd.func15, Tryd.ntmps15
    go_wp2_with fail
    go_ret
    exact ⟨rfl, hB1⟩
  by_cases h2 : es.length = 64
  case neg =>
    have hv : tabE r ls es = 3 := by unfold tabE; rw [if_pos (.inr h2)]
    rw [hv]
    have hd : ((es.length : Int) != 64) = true := by simp; omega
    rw [h1] at kT hB1 ⊢
    go_enter Tryd.func15, Tryd.ntmps15
    go_wp2_with fail
    go_ret
    exact ⟨rfl, hB1⟩
  have HE : Hid (tabE r ls es = orE (frmE r ls) (fst0 (entB ls es) 64)) := Lib.hid (by unfold tabE; rw [if_neg (by omega)])
  rw [h1] at kT hB1 hA1 hE1 hL1 hcc ⊢
  rw [h2] at kT hB1 hA1 hE1 hL1 ⊢
  generalize hw1 : w.alloc (.cells #[.int .i64 r, .slice A 8 c, .slice B 64 d] 25) = w1 at *
  have hsz : w1.heap.size = w.heap.size + 1 := by rw [← hw1]; simp
  by_cases hf : frmE r ls = 0
  case neg =>
    have Hv : Hid (tabE r ls es = frmE r ls) := Lib.hid (by rw [HE.out, orE_l _ hf])
    have hd : (frmE r ls != 0) = true := by simpa using hf
    obtain ⟨cT, fT, lT⟩ := kT.facts
    clear hf HE
    go_enter Tryd.func15, Tryd.ntmps15
    go_wp2_with (go_at_call 46; refine (checkFrames_any r A B c 64 d ls _ h1 hA1 hcc).mono ?_; rintro e w2 ⟨rfl, hb2⟩)
    go_ret
    exact ⟨by rw [Hv.out]; rfl, bnext hB1 hb2⟩
  have Hv : Hid (tabE r ls es = fst0 (entB ls es) 64) := Lib.hid (by rw [HE.out, orE_r _ hf])
  have hd : (frmE r ls != 0) = false := by simpa using hf
  clear hf HE
  obtain ⟨cT, fT, lT⟩ := kT.facts
  go_enter Tryd.func15, Tryd.ntmps15
  go_wp2_with fail
  refine (checkFrames_any r A B c 64 d ls _ h1 hA1 hcc).mono ?_
  rintro e w2 ⟨rfl, hb2⟩
  clear cT fT lT
  replace kT := kT.to hb2
  replace hA1 := hA1.below hb2 (Nat.le_refl _)
  replace hE1 := hE1.below hb2 (Nat.le_refl _)
  replace hL1 := hL1.below hb2
  replace hB1 := bnext hB1 hb2
  clear hb2 hsz hw1
  obtain ⟨cT, fT, lT⟩ := kT.facts
  go_wp2_with fail
  clear cT fT lT
  go_loopw [28] (fun i wr => ∃ k : Nat, k ≤ 64 ∧ i = .int .i64 k ∧ Hid (fst0 (entB ls es) k = 0) ∧ Below w2.heap.size w2 wr) (fun i _ => 64 - (intOf i).toNat)
  case atStart => exact ⟨0, by omega, rfl, Lib.hid rfl, Below.refl _ _⟩
  case round =>
    obtain ⟨k, hk, rfl, Hno, hbr⟩ := hrel
    obtain ⟨cT, fT, lT⟩ := (kT.to hbr).facts
    by_cases hlt : k < 64
    · obtain ⟨g, off, x, rfl, hg, hx, hxs, hc⟩ := (hE1.below hbr (Nat.le_refl _)).word hs hlt
      have hLr := hL1.below hbr
      by_cases hu : unpE x = 0
      · obtain ⟨g', off', z, rfl, hg', hz, hc'⟩ := (hA1.below hbr (Nat.le_refl _)).numb (show k / 8 < 8 by omega)
        have hq1 : ((k / 8 : Nat) : Int) < 8 := by omega
        have hun := Unpack_any x
        rw [unpR_ok0 x hu] at hun
        obtain ⟨kk, hkk⟩ : ∃ kk : Int, kk = ((x % 4 : Nat) : Int) := ⟨_, rfl⟩
        rw [← hkk] at hun
        generalize ((x / 256 : Nat) : Int) = nn at hun
        generalize decide (x / 4 % 2 = 1) = f1 at hun
        generalize decide (x / 8 % 2 = 1) = f2 at hun
        generalize decide (x / 16 % 2 = 1) = f3 at hun
        have HU := Lib.hid hun
        clear hun
        have Hz : Hid (entB ls es k = if x % 4 ≠ 0 ∧ z = -1 then 9 else 0) := Lib.hid (by unfold entB; rw [hx, orE_r _ hu, hz])
        by_cases hc4 : x % 4 ≠ 0 ∧ z = -1
        · have Hv2 : Hid (tabE r ls es = 9) := Lib.hid (by
            have hb : entB ls es k = 9 := by rw [Hz.out, if_pos hc4]
            rw [Hv.out, fst0_hit _ k 64 Hno.out (by omega) hlt, hb])
          have d1 : (kk != 0) = true := by simp; omega
          have d2 : (z == -1) = true := by simp [hc4.2]
          clear hc4 hz hx hu hkk Hz
          go_wp2_with (first
            | (go_at_call 47; refine (HU.out _ hxs hLr).mono ?_; rintro e w3 ⟨rfl, hb3⟩; simp only; obtain ⟨cT3, fT3, lT3⟩ := (kT.to (bnext hbr hb3)).facts; have hc3 := (hb3.cell (p := ⟨g', off' + k / 8, none⟩) hg').trans hc'; have hg3 := Nat.lt_of_lt_of_le hg' hb3.size)
            | (go_at_call 48; refine (Leaf_nat k _ hlt).mono ?_; rintro e w4 ⟨rfl, rfl⟩))
          go_ret
          exact ⟨by rw [Hv2.out]; rfl, bnext hB1 (balloc (bnext hbr hb3) _)⟩
        · have Hn2 : Hid (fst0 (entB ls es) (k + 1) = 0) := Lib.hid (fst0_step _ k Hno.out (by rw [Hz.out, if_neg hc4]))
          have d1 : (kk != 0) = false ∨ (kk != 0) = true ∧ (z == -1) = false := by
            by_cases h4 : x % 4 = 0
            · left; rw [hkk, h4]; rfl
            · right; exact ⟨by simp; omega, by simp; omega⟩
          clear hc4 hz hx hu hkk Hz
          rcases d1 with d1 | ⟨d1, d2⟩
          all_goals
            go_wp2_with (first
              | (go_at_call 47; refine (HU.out _ hxs hLr).mono ?_; rintro e w3 ⟨rfl, hb3⟩; simp only; obtain ⟨cT3, fT3, lT3⟩ := (kT.to (bnext hbr hb3)).facts; have hc3 := (hb3.cell (p := ⟨g', off' + k / 8, none⟩) hg').trans hc'; have hg3 := Nat.lt_of_lt_of_le hg' hb3.size)
              | (go_at_call 48; refine (Leaf_nat k _ hlt).mono ?_; rintro e w4 ⟨rfl, rfl⟩))
            go_roundw
            case rel => exact ⟨k + 1, by omega, by go_num, Hn2, balloc (bnext hbr hb3) _⟩
            case measure => simp [intOf]; omega
      · have hun := Unpack_any x
        rw [unpR_bad x hu] at hun
        have Hv2 : Hid (tabE r ls es = unpE x) := Lib.hid (by
          have hb : entB ls es k = unpE x := by unfold entB; rw [hx, orE_l _ hu]
          rw [Hv.out, fst0_hit _ k 64 Hno.out (by rw [hb]; exact hu) hlt, hb])
        have d1 : (unpE x != 0) = true := by simpa using hu
        have HU := Lib.hid hun
        clear hun hu hx
        go_wp2_with (go_at_call 47; refine (HU.out _ hxs hLr).mono ?_; rintro e w3 ⟨rfl, hb3⟩; simp only)
        go_ret
        exact ⟨by rw [Hv2.out]; rfl, bnext hB1 (balloc (bnext hbr hb3) _)⟩
    · obtain rfl : k = 64 := by omega
      have Hv2 : Hid (tabE r ls es = 0) := Lib.hid (by rw [Hv.out, Hno.out])
      go_wp2_with fail
      go_ret
      exact ⟨by rw [Hv2.out]; rfl, bnext hB1 hbr⟩
end Go.Proofs.YtnmknbnidfmmoaaDoor
