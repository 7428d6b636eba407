/- EntryOnly returns true for every word, text and two numbers. -/
import Derived.Test.YtbifecejaphcfaaDoorEnM
import Derived.Deep.RegionHeld3
namespace Go.Proofs.YtbifecejaphcfaaDoor
open Go Go.Proofs Go.RowKit
set_option linter.unusedSimpArgs false
set_option linter.unusedVariables false

/-- Two entries that were made of numbers are the same just if their words are, and just if their texts are. -/
theorem made_inj {z z' k n k' n' : Int} {a b c a' b' c' : Bool} {x x' : Nat} {t t' : List UInt8} (M : Made z k n a b c x t) (M' : Made z' k' n' a' b' c' x' t') (hne : ¬ (k = k' ∧ n = n' ∧ a = a' ∧ b = b' ∧ c = c')) : x ≠ x' ∧ t ≠ t' := by
  constructor
  · rintro rfl
    have := M.unp.symm.trans M'.unp
    simp at this
    exact hne this
  · rintro rfl
    have := M.prog.symm.trans M'.prog
    simp at this
    exact hne this
theorem made_one {z z' k n : Int} {a b c : Bool} {x x' : Nat} {t t' : List UInt8} (M : Made z k n a b c x t) (M' : Made z' k n a b c x' t') : x = x' ∧ t = t' := by
  have h1 := M.pack.symm.trans M'.pack
  have h2 := M.text.symm.trans M'.text
  simp at h1 h2
  exact ⟨by omega, h2⟩

set_option maxRecDepth 100000 in
set_option maxHeartbeats 4000000 in
theorem EntryOnly_true (x0 : Nat) (l0 : List UInt8) (z z' : Int) (w : World) (hx0 : x0 < 18446744073709551616) (hl0 : l0.length ≤ 9223372036854775807) (hL : LayOK w) (hP : PowOK w) :
    Calls Tryd.prog 9 #[.int .u64 x0, .string ⟨l0.toArray⟩, .int .i64 z, .int .i64 z'] w fun e w' => e = .returned (.bool true) ∧ Below w.heap.size w w' := by
  obtain ⟨k, n, a, b, c, x, t, M⟩ := made_all z
  obtain ⟨k', n', a', b', c', x', t', M'⟩ := made_all z'
  have hu := pack_unp x0
  rcases hU : unpR x0 with ⟨⟨uk, un, ua, ub, uc⟩, ue⟩
  rw [hU] at hu
  simp only at hu
  have ht := text_parse l0
  rcases hT : progR l0 with ⟨⟨pk, pn, pa, pb, pc⟩, pe⟩
  rw [hT] at ht
  simp only at ht
  have HU := Lib.hid hU
  have HT := Lib.hid hT
  clear hU hT
  go_enter Tryd.func9, Tryd.ntmps9
  go_wp2_with fail
  refine (EntryKnown_true _ hL hP).mono ?_
  rintro e w1 ⟨rfl, hb1⟩
  have hc1 : Below w.heap.size w w1 := bnext (Below.refl _ _) hb1
  replace hL := hL.below hc1
  replace hP := hP.below hc1
  go_wp2_with fail
  refine (Unpack_any x0 _ hx0 hL).mono ?_
  rintro e w2 ⟨he, hb2⟩
  have hc2 : Below w1.heap.size w1 w2 := bnext (Below.refl _ _) hb2
  replace hL := hL.below hc2
  replace hP := hP.below hc2
  rw [HU.out] at he
  subst he
  simp only
  go_upto_if 35 with fail
  go_cut [] from 28 (fun wx => LayOK wx ∧ PowOK wx ∧ Below w2.heap.size w2 wx)
  case first =>
    have kU := Bk.new w2 #[.int .i64 uk, .int .i64 un, .bool ua, .bool ub, .bool uc] 23
    have hc3 := balloc (Below.refl _ w2) (.cells #[.int .i64 uk, .int .i64 un, .bool ua, .bool ub, .bool uc] 23)
    replace hL := hL.below hc3
    replace hP := hP.below hc3
    generalize w2.alloc (.cells #[.int .i64 uk, .int .i64 un, .bool ua, .bool ub, .bool uc] 23) = w3 at *
    obtain ⟨cU, fU, lU⟩ := kU.facts
    by_cases h0 : ue = 0
    · have hu0 := Lib.hid (hu h0)
      subst h0
      go_wp2_with fail
      refine (Pack_any uk un ua ub uc _ hL).mono ?_
      rw [hu0.out]
      rintro e w4 ⟨rfl, hb4⟩
      go_wp2_with fail
      go_meet
      exact ⟨hL.below hb4, hP.below hb4, bnext hc3 hb4⟩
    · have hd : (ue == 0) = false := by simp [h0]
      go_wp2_with fail
      go_meet
      exact ⟨hL, hP, hc3⟩
  case rest =>
    obtain ⟨hL, hP, hc3⟩ := hcut
    go_upto_if 50 with fail
    go_cut [] from 28 (fun wx => LayOK wx ∧ PowOK wx ∧ Below w2.heap.size w2 wx)
    case first =>
      by_cases h20 : l0.length ≤ 20
      · have hd : decide ((l0.length : Int) ≤ 20) = true := by simp; omega
        go_wp2_with fail
        refine (Parse_any l0 _ (by omega) hL).mono ?_
        rintro e w4 ⟨he, hb4⟩
        rw [HT.out] at he
        subst he
        simp only
        go_upto_if 57 with fail
        have kV := Bk.new w4 #[.int .i64 pk, .int .i64 pn, .bool pa, .bool pb, .bool pc] 23
        have hc4 := balloc (Below.refl _ w4) (.cells #[.int .i64 pk, .int .i64 pn, .bool pa, .bool pb, .bool pc] 23)
        replace hL := (hL.below hb4).below hc4
        replace hP := (hP.below hb4).below hc4
        generalize w4.alloc (.cells #[.int .i64 pk, .int .i64 pn, .bool pa, .bool pb, .bool pc] 23) = w5 at *
        obtain ⟨cV, fV, lV⟩ := kV.facts
        by_cases h0 : pe = 0
        · have ht0 := Lib.hid (ht h0)
          subst h0
          go_wp2_with fail
          refine (Text_any pk pn pa pb pc _ hL hP).mono ?_
          rw [ht0.out]
          rintro e w6 ⟨rfl, hb6⟩
          go_wp2_with fail
          go_meet
          exact ⟨hL.below hb6, hP.below hb6, bnext (bnext (bnext hc3 hb4) hc4) hb6⟩
        · have hd : (pe == 0) = false := by simp [h0]
          go_wp2_with fail
          go_meet
          exact ⟨hL, hP, bnext (bnext hc3 hb4) hc4⟩
      · have hd : decide ((l0.length : Int) ≤ 20) = false := by simp; omega
        go_wp2_with fail
        go_meet
        exact ⟨hL, hP, hc3⟩
    case rest =>
      obtain ⟨hL, hP, hc4⟩ := hcut
      have hx : x < 18446744073709551616 := by have := M.lt; omega
      have hx' : x' < 18446744073709551616 := by have := M'.lt; omega
      go_wp2_with fail
      refine (M.call _).mono ?_
      rintro e w11 ⟨rfl, hb11⟩
      have hc11 : Below wc.heap.size wc w11 := bnext (Below.refl _ _) hb11
      replace hL := hL.below hc11
      replace hP := hP.below hc11
      go_wp2_with fail
      refine (M'.call _).mono ?_
      rintro e w12 ⟨rfl, hb12⟩
      have hc12 : Below w11.heap.size w11 w12 := bnext (Below.refl _ _) hb12
      replace hL := hL.below hc12
      replace hP := hP.below hc12
      go_wp2_with fail
      refine (Pack_any k n a b c _ ((hL.alloc _).alloc _)).mono ?_
      rw [M.pack]
      rintro e w13 ⟨rfl, hb13⟩
      have hc13 : Below w12.heap.size w12 w13 := bnext (balloc (balloc (Below.refl _ _) _) _) hb13
      replace hL := hL.below hc13
      replace hP := hP.below hc13
      have kA := ((Bk.new w12 #[.int .i64 k, .int .i64 n, .bool a, .bool b, .bool c] 23).alloc (.cells #[.int .i64 k', .int .i64 n', .bool a', .bool b', .bool c'] 23)).to hb13
      have kB := (Bk.new (w12.alloc (.cells #[.int .i64 k, .int .i64 n, .bool a, .bool b, .bool c] 23)) #[.int .i64 k', .int .i64 n', .bool a', .bool b', .bool c'] 23).to hb13
      simp only [World.size_alloc] at kB
      obtain ⟨cA, fA, lA⟩ := kA.facts
      obtain ⟨cB, fB, lB⟩ := kB.facts
      go_wp2_with fail
      refine (Pack_any k' n' a' b' c' _ hL).mono ?_
      rw [M'.pack]
      rintro e w14 ⟨rfl, hb14⟩
      clear cA fA lA cB fB lB
      have hc14 : Below w13.heap.size w13 w14 := bnext (Below.refl _ _) hb14
      replace kA := kA.to hc14
      replace kB := kB.to hc14
      replace hL := hL.below hc14
      replace hP := hP.below hc14
      obtain ⟨cA, fA, lA⟩ := kA.facts
      obtain ⟨cB, fB, lB⟩ := kB.facts
      go_wp2_with fail
      refine (Text_any k n a b c _ hL hP).mono ?_
      rw [M.text]
      rintro e w15 ⟨rfl, hb15⟩
      clear cA fA lA cB fB lB
      have hc15 : Below w14.heap.size w14 w15 := bnext (Below.refl _ _) hb15
      replace kA := kA.to hc15
      replace kB := kB.to hc15
      replace hL := hL.below hc15
      replace hP := hP.below hc15
      obtain ⟨cA, fA, lA⟩ := kA.facts
      obtain ⟨cB, fB, lB⟩ := kB.facts
      go_wp2_with fail
      refine (Text_any k' n' a' b' c' _ hL hP).mono ?_
      rw [M'.text]
      rintro e w16 ⟨rfl, hb16⟩
      clear cA fA lA cB fB lB
      have hc16 : Below w15.heap.size w15 w16 := bnext (Below.refl _ _) hb16
      replace kA := kA.to hc16
      replace kB := kB.to hc16
      replace hL := hL.below hc16
      replace hP := hP.below hc16
      obtain ⟨cA, fA, lA⟩ := kA.facts
      obtain ⟨cB, fB, lB⟩ := kB.facts
      have hB0 : Below w.heap.size w wc := bnext (bnext hc1 hc2) hc4
      have hB : Below w.heap.size w w16 := by (repeat' (first | exact Below.refl _ _ | assumption | refine balloc ?_ _ | refine below_drawn ?_ _ | refine below_drew ?_ | refine bnext ?_ hb24 | refine bnext ?_ hb23 | refine bnext ?_ hb22 | refine bnext ?_ hb21 | refine bnext ?_ hb20 | refine bnext ?_ hb19 | refine bnext ?_ hb18 | refine bnext ?_ hb17 | refine bnext ?_ hb16 | refine bnext ?_ hb15 | refine bnext ?_ hb14 | refine bnext ?_ hb13 | refine bnext ?_ hb12 | refine bnext ?_ hb11 | refine bnext ?_ hb10 | refine bnext ?_ hb9 | refine bnext ?_ hb8 | refine bnext ?_ hb7 | refine bnext ?_ hb6 | refine bnext ?_ hb5 | refine bnext ?_ hb4 | refine bnext ?_ hb3 | refine bnext ?_ hb2 | refine bnext ?_ hb1))
      by_cases heq : k = k' ∧ n = n' ∧ a = a' ∧ b = b' ∧ c = c'
      · obtain ⟨rfl, rfl, rfl, rfl, rfl⟩ := heq
        obtain ⟨rfl, rfl⟩ := made_one M M'
        go_wp2_with fail
        go_ret
        exact ⟨rfl, hB⟩
      · obtain ⟨n1, n2⟩ := made_inj M M' heq
        have hxx : ((x : Int) == (x' : Int)) = false := by simp; omega
        have htt : (t == t') = false := by simp; exact n2
        have HN := Lib.hid heq
        clear heq n1 n2
        go_wp2_with fail
        all_goals first
          | (go_ret; exact ⟨rfl, hB⟩)
          | (exfalso; have := HN.out; simp_all; done)
end Go.Proofs.YtbifecejaphcfaaDoor
