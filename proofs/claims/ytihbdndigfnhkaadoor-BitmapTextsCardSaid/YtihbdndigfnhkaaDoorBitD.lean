/- The examples of chapter 1: BitmapKnown returns true. -/
import Derived.Test.YtihbdndigfnhkaaDoorBitC
namespace Go.Proofs.YtihbdndigfnhkaaDoor
open Go Go.Proofs Go.RowKit
set_option linter.unusedSimpArgs false
set_option linter.unusedVariables false
set_option maxRecDepth 100000

theorem sv1 : setW 3 [0, 1] 2 = [3] := by decide +kernel
theorem sv2 : setW 3 [1, 2] 2 = [6] := by decide +kernel
theorem sw1 (x : Nat) (h : x < 100) : wsmall [x] := by intro y hy; simp at hy; omega
set_option maxHeartbeats 1000000 in
theorem combines_true (op : Int) (l : List Int) (x : Nat) (A : Option Addr) (c : Nat) (w : World) (hr : Rd w 1 A l.length (l.map (Value.int .i64))) (hl : l.length ≤ 1000) (hz : ∀ z ∈ l, 0 ≤ z ∧ z < ((3 : Nat) : Int)) (hset : setW 3 l l.length = [x]) (hx : x < 100) (hcomb : combR 3 [3] 3 [6] op = (3, [x], 0)) :
    Calls Tryd.prog 38 #[.int .i64 op, .slice A l.length c] w fun e w' => e = .returned (.bool true) ∧ Below w.heap.size w w' := by
  have HS := Lib.hid hset
  have HC := Lib.hid hcomb
  have Hz := Lib.hid hz
  clear hset hcomb hz
  go_enter Tryd.func38, Tryd.ntmps38
  go_wp2_with fail
  refine (set_any 3 [0, 1] _ 2 _ (Rd.new #[.int .i64 0, .int .i64 1] 3 rfl) (by decide) (by omega) (by decide)).mono ?_
  rintro e w1 ⟨A1, m1, c1, rfl, hown1, hb1⟩
  have hc1 : Below w.heap.size w w1 := bnext (balloc (Below.refl _ _) _) hb1
  replace hr := hr.below hc1 (Nat.le_refl _)
  have kS1 := (Bk.new w #[.int .i64 0, .int .i64 1] 3).to hb1
  try rw [show ((3 : Nat) : Int) = 3 from rfl]
  rw [show setW 3 [0, 1] ([0, 1] : List Int).length = [3] from sv1] at hown1
  obtain rfl : m1 = 1 := by have := hown1.1; rw [uw_len] at this; simp at this; omega
  have hr1 := Rd.own hown1
  clear hown1
  obtain ⟨cS1, fS1, lS1⟩ := kS1.facts
  go_wp2_with fail
  refine (set_any 3 [1, 2] (some ⟨w1.heap.size + 1, 0, none⟩) 2 _ (by have h := Rd.new (w := w1.alloc (.cells #[.int .i64 3, .slice A1 1 c1] 24)) (sz := 1) (n := 2) #[.int .i64 1, .int .i64 2] 3 rfl; rw [World.size_alloc] at h; exact h) (by decide) (by omega) (by decide)).mono ?_
  rintro e w2 ⟨A2, m2, c2, rfl, hown2, hb2⟩
  clear cS1 fS1 lS1
  have hc2 : Below w1.heap.size w1 w2 := bnext (balloc (balloc (Below.refl _ _) _) _) hb2
  replace kS1 := kS1.to hc2
  replace hr := hr.below hc2 (Nat.le_refl _)
  replace hr1 := hr1.below hc2 (Nat.le_refl _)
  have kB1 := ((Bk.new w1 #[.int .i64 3, .slice A1 1 c1] 24).alloc (.cells #[.int .i64 1, .int .i64 2] 3)).to hb2
  have kS2 := (Bk.new (w1.alloc (.cells #[.int .i64 3, .slice A1 1 c1] 24)) #[.int .i64 1, .int .i64 2] 3).to hb2
  simp only [World.size_alloc] at kS2
  try rw [show ((3 : Nat) : Int) = 3 from rfl]
  rw [show setW 3 [1, 2] ([1, 2] : List Int).length = [6] from sv2] at hown2
  obtain rfl : m2 = 1 := by have := hown2.1; rw [uw_len] at this; simp at this; omega
  have hr2 := Rd.own hown2
  clear hown2
  obtain ⟨cS1, fS1, lS1⟩ := kS1.facts
  obtain ⟨cB1, fB1, lB1⟩ := kB1.facts
  obtain ⟨cS2, fS2, lS2⟩ := kS2.facts
  go_wp2_with fail
  refine (set_any 3 l A c _ (hr.alloc _) hl (by omega) Hz.out).mono ?_
  rintro e w3 ⟨A3, m3, c3, rfl, hown3, hb3⟩
  clear cS1 fS1 lS1 cB1 fB1 lB1 cS2 fS2 lS2
  have hc3 : Below w2.heap.size w2 w3 := bnext (balloc (Below.refl _ _) _) hb3
  replace kS1 := kS1.to hc3
  replace kB1 := kB1.to hc3
  replace kS2 := kS2.to hc3
  replace hr := hr.below hc3 (Nat.le_refl _)
  replace hr1 := hr1.below hc3 (Nat.le_refl _)
  replace hr2 := hr2.below hc3 (Nat.le_refl _)
  have kB2 := (Bk.new w2 #[.int .i64 3, .slice A2 1 c2] 24).to hb3
  try rw [show ((3 : Nat) : Int) = 3 from rfl]
  rw [HS.out] at hown3
  obtain rfl : m3 = 1 := by have := hown3.1; rw [uw_len] at this; simp at this; omega
  have hr3 := Rd.own hown3
  clear hown3
  obtain ⟨cS1, fS1, lS1⟩ := kS1.facts
  obtain ⟨cB1, fB1, lB1⟩ := kB1.facts
  obtain ⟨cS2, fS2, lS2⟩ := kS2.facts
  obtain ⟨cB2, fB2, lB2⟩ := kB2.facts
  go_wp2_with fail
  refine (Combine_any 3 A1 1 c1 [3] 3 A2 1 c2 [6] op _ (hr1.alloc _) (sw1 3 (by omega)) (by omega) (hr2.alloc _) (sw1 6 (by omega)) (by omega)).mono ?_
  rintro e w4 ⟨A4, m4, c4, he, hown4, hb4⟩
  clear cS1 fS1 lS1 cB1 fB1 lB1 cS2 fS2 lS2 cB2 fB2 lB2
  have hc4 : Below w3.heap.size w3 w4 := bnext (balloc (Below.refl _ _) _) hb4
  replace kS1 := kS1.to hc4
  replace kB1 := kB1.to hc4
  replace kS2 := kS2.to hc4
  replace kB2 := kB2.to hc4
  replace hr := hr.below hc4 (Nat.le_refl _)
  replace hr1 := hr1.below hc4 (Nat.le_refl _)
  replace hr2 := hr2.below hc4 (Nat.le_refl _)
  replace hr3 := hr3.below hc4 (Nat.le_refl _)
  have kB3 := (Bk.new w3 #[.int .i64 3, .slice A3 1 c3] 24).to hb4
  rw [HC.out] at he hown4
  subst he
  obtain rfl : m4 = 1 := by have := hown4.1; rw [uw_len] at this; simp at this; omega
  have hr4 := Rd.own hown4
  clear hown4
  obtain ⟨cS1, fS1, lS1⟩ := kS1.facts
  obtain ⟨cB1, fB1, lB1⟩ := kB1.facts
  obtain ⟨cS2, fS2, lS2⟩ := kS2.facts
  obtain ⟨cB2, fB2, lB2⟩ := kB2.facts
  obtain ⟨cB3, fB3, lB3⟩ := kB3.facts
  go_wp2_with fail
  refine (SameBits_eq 3 A4 A3 1 c4 c3 [x] _ (hr4.alloc _) (hr3.alloc _) (sw1 x hx) (by omega)).mono ?_
  rintro e w5 ⟨rfl, hb5⟩
  clear cS1 fS1 lS1 cB1 fB1 lB1 cS2 fS2 lS2 cB2 fB2 lB2 cB3 fB3 lB3
  have hc5 : Below w4.heap.size w4 w5 := bnext (balloc (Below.refl _ _) _) hb5
  replace kS1 := kS1.to hc5
  replace kB1 := kB1.to hc5
  replace kS2 := kS2.to hc5
  replace kB2 := kB2.to hc5
  replace kB3 := kB3.to hc5
  replace hr := hr.below hc5 (Nat.le_refl _)
  replace hr1 := hr1.below hc5 (Nat.le_refl _)
  replace hr2 := hr2.below hc5 (Nat.le_refl _)
  replace hr3 := hr3.below hc5 (Nat.le_refl _)
  replace hr4 := hr4.below hc5 (Nat.le_refl _)
  have kB4 := (Bk.new w4 #[.int .i64 3, .slice A4 1 c4] 24).to hb5
  obtain ⟨cS1, fS1, lS1⟩ := kS1.facts
  obtain ⟨cB1, fB1, lB1⟩ := kB1.facts
  obtain ⟨cS2, fS2, lS2⟩ := kS2.facts
  obtain ⟨cB2, fB2, lB2⟩ := kB2.facts
  obtain ⟨cB3, fB3, lB3⟩ := kB3.facts
  obtain ⟨cB4, fB4, lB4⟩ := kB4.facts
  go_wp2_with fail
  go_ret
  exact ⟨rfl, bnext (bnext (bnext (bnext hc1 hc2) hc3) hc4) hc5⟩

end Go.Proofs.YtihbdndigfnhkaaDoor
