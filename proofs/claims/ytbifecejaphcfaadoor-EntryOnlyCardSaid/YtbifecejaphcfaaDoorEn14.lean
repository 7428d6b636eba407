/- Which entry a text is, by the program. -/
import Derived.Test.YtbifecejaphcfaaDoorEn13
namespace Go.Proofs.YtbifecejaphcfaaDoor
open Go Go.Proofs Go.RowKit
set_option linter.unusedSimpArgs false
set_option linter.unusedVariables false

theorem trimP_len (l p : List UInt8) : (Lib.trimPrefix l p).length ≤ l.length := by
  unfold Lib.trimPrefix; split <;> simp
theorem trimS_len (l p : List UInt8) : (Lib.trimSuffix l p).length ≤ l.length := by
  unfold Lib.trimSuffix; split <;> simp
theorem cutP_any (l : List UInt8) (x : UInt8) (w : World) :
    Calls Tryd.prog 42 #[.string ⟨l.toArray⟩, .string ⟨#[x]⟩] w fun e w' => e = .returned (.tuple #[.string ⟨(Lib.trimPrefix l [x]).toArray⟩, .bool (Lib.hasPrefix l [x])]) ∧ w = w' :=
  (Tryd.strings_CutPrefix ⟨l.toArray⟩ ⟨#[x]⟩ w).mono fun _ _ h => ⟨h.1, h.2.symm⟩
theorem cutS_any (l : List UInt8) (x : UInt8) (w : World) (hl : l.length ≤ 100000) :
    Calls Tryd.prog 43 #[.string ⟨l.toArray⟩, .string ⟨#[x]⟩] w fun e w' => e = .returned (.tuple #[.string ⟨(Lib.trimSuffix l [x]).toArray⟩, .bool (Lib.hasSuffix l [x])]) ∧ w = w' :=
  (Tryd.strings_CutSuffix ⟨l.toArray⟩ ⟨#[x]⟩ w (by show l.toArray.size ≤ _; simp; omega)).mono fun _ _ h => ⟨h.1, h.2.symm⟩
theorem chk_two (n : Nat) : chk 2 n false false false = if 255 < n then 2 else 0 := by grind [chk]
theorem chk_one (n : Nat) (a c : Bool) : chk 1 n a (!a) c = if 255 < n then 2 else 0 := by grind [chk]

set_option maxRecDepth 100000 in
set_option maxHeartbeats 4000000 in
theorem Parse_any (l : List UInt8) (w : World) (hl : l.length ≤ 10000) (hL : LayOK w) :
    Calls Tryd.prog 28 #[.string ⟨l.toArray⟩] w fun e w' => EnRes w w' (progR l) e := by
  by_cases h45 : l = [45]
  · subst h45
    have HV : Hid (progR [45] = ((0, 0, false, false, false), 0)) := Lib.hid rfl
    go_enter Tryd.func28, Tryd.ntmps28
    go_wp2_with fail
    exact bodyPost_ret (v := .tuple #[.agg #[.int .i64 0, .int .i64 0, .bool false, .bool false, .bool false], .int .i64 0]) (by simp [results, Tryd.results28, go_sem]) rfl ⟨by rw [HV.out], balloc (Below.refl _ _) _⟩
  have h45b : (l == [45]) = false := by simpa using h45
  have hR0 : progR l = if Lib.hasPrefix l [115] = true then finP 2 (numR (Lib.trimPrefix l [115])) false false false else if Lib.hasPrefix l [112] = true then progP (Lib.trimPrefix l [112]) else errP 3 := by unfold progR; rw [if_neg h45]
  clear h45
  have hl1 := trimP_len l [115]
  have hl2 := trimP_len l [112]
  by_cases hp : Lib.hasPrefix l [115] = true
  · have HR : Hid (progR l = finP 2 (numR (Lib.trimPrefix l [115])) false false false) := Lib.hid (by rw [hR0, if_pos hp])
    clear hR0
    go_enter Tryd.func28, Tryd.ntmps28
    go_wp2_with fail
    refine (cutP_any l 115 _).mono ?_
    rintro e w' ⟨rfl, rfl⟩
    generalize Lib.trimPrefix l [115] = d at *
    go_wp2_with fail
    rcases hn : numR d with _ | n
    · have HV : Hid (progR l = ((0, 0, false, false, false), 3)) := Lib.hid (by rw [HR.out, hn]; rfl)
      have HN := Lib.hid hn
      clear hn
      refine (number_any d _ (by omega)).mono ?_
      rw [HN.out]
      rintro e w1 ⟨rfl, hb1⟩
      simp only [Option.getD_none, Option.isSome_none]
      have kR := ((Bk.new w #[.int .i64 0, .int .i64 0, .bool false, .bool false, .bool false] 23).alloc (.cells #[.int .i64 2, .int .i64 0, .bool false, .bool false, .bool false] 23)).to hb1
      have kE := (Bk.new (w.alloc (.cells #[.int .i64 0, .int .i64 0, .bool false, .bool false, .bool false] 23)) #[.int .i64 2, .int .i64 0, .bool false, .bool false, .bool false] 23).to hb1
      rw [World.size_alloc] at kE
      have hB1 : Below w.heap.size w w1 := bnext (balloc (balloc (Below.refl _ _) _) _) hb1
      have hL1 := hL.below hB1
      clear hb1
      obtain ⟨cR, fR, lR⟩ := kR.facts
      obtain ⟨cE, fE, lE⟩ := kE.facts
      go_wp2_with fail
      clear cE fE lE kE
      have kF := kR.put5 (.int .i64 0) (.int .i64 0) (.bool false) (.bool false) (.bool false)
      have hBF := below_put5 (b := w.heap.size) (hB1) (by omega) (.int .i64 0) (.int .i64 0) (.bool false) (.bool false) (.bool false)
      generalize ((((w1.setCell ⟨w.heap.size, 0, none⟩ (.int .i64 0)).setCell ⟨w.heap.size, 1, none⟩ (.int .i64 0)).setCell ⟨w.heap.size, 2, none⟩ (.bool false)).setCell ⟨w.heap.size, 3, none⟩ (.bool false)).setCell ⟨w.heap.size, 4, none⟩ (.bool false) = wF at *
      clear cR fR lR
      obtain ⟨cF, fF, lF⟩ := kF.facts
      exact bodyPost_ret (v := .tuple #[.agg #[.int .i64 0, .int .i64 0, .bool false, .bool false, .bool false], .int .i64 (3)]) (by simp [results, Tryd.results28, go_sem, cF]) rfl ⟨by rw [HV.out], hBF⟩
    · have hv : progR l = if 255 < n then errP 2 else ((2, (n : Int), false, false, false), 0) := by rw [HR.out, hn]; rfl
      have hck := chk_two n
      have hn1 : n < 1000 := by
        obtain ⟨_, h2, _, h4, h5⟩ := numR_some _ _ hn
        have h6 := numV_lt _ h4
        have h7 : 10 ^ ((d).length) ≤ 10 ^ 3 := Nat.pow_le_pow_right (by omega) h2
        omega
      have HN := Lib.hid hn
      clear hn
      refine (number_any d _ (by omega)).mono ?_
      rw [HN.out]
      rintro e w1 ⟨rfl, hb1⟩
      simp only [Option.getD_some, Option.isSome_some]
      have kR := ((Bk.new w #[.int .i64 0, .int .i64 0, .bool false, .bool false, .bool false] 23).alloc (.cells #[.int .i64 2, .int .i64 0, .bool false, .bool false, .bool false] 23)).to hb1
      have kE := (Bk.new (w.alloc (.cells #[.int .i64 0, .int .i64 0, .bool false, .bool false, .bool false] 23)) #[.int .i64 2, .int .i64 0, .bool false, .bool false, .bool false] 23).to hb1
      rw [World.size_alloc] at kE
      have hB1 : Below w.heap.size w w1 := bnext (balloc (balloc (Below.refl _ _) _) _) hb1
      have hL1 := hL.below hB1
      clear hb1
      obtain ⟨cR, fR, lR⟩ := kR.facts
      obtain ⟨cE, fE, lE⟩ := kE.facts
      have hck2 : ∀ u : World, LayOK u → Calls Tryd.prog 15 #[.agg #[.int .i64 2, .int .i64 n, .bool false, .bool false, .bool false]] u fun e w' => e = .returned (.int .i64 (if 255 < n then 2 else 0)) ∧ Below u.heap.size u w' := fun u hu => by
        have := Check_any 2 n false false false u hu
        rwa [hck] at this
      have HC := Lib.hid hck2
      clear hck hck2
      have kE2 := kE.put 1 (.int .i64 n)
      have kR2 := kR.far (p := ⟨w.heap.size + 1, 1, none⟩) (by show w.heap.size ≠ w.heap.size + 1; omega) (.int .i64 n)
      have hB2 := hB1.setCell (p := ⟨w.heap.size + 1, 1, none⟩) (by show w.heap.size ≤ w.heap.size + 1; omega) (.int .i64 n)
      have hL2 : LayOK (w1.setCell ⟨w.heap.size + 1, 1, none⟩ (.int .i64 n)) := hL.below hB2
      go_wp2_with fail
      refine (HC.out _ hL2).mono ?_
      clear cR fR lR cE fE lE kR kE hB1 hL1
      generalize w1.setCell ⟨w.heap.size + 1, 1, none⟩ (.int .i64 n) = w5 at *
      by_cases hbig : 255 < n
      · rw [if_pos hbig] at hv ⊢
        have HV := Lib.hid hv
        clear hv
        rintro e w2 ⟨rfl, hb2⟩
        have kR := kR2.to hb2
        have kE := kE2.to hb2
        have hB1 := bnext hB2 hb2
        clear hb2 kR2 kE2 hB2
        obtain ⟨cR, fR, lR⟩ := kR.facts
        obtain ⟨cE, fE, lE⟩ := kE.facts
        go_wp2_with fail
        clear cE fE lE kE
        have kF := kR.put5 (.int .i64 0) (.int .i64 0) (.bool false) (.bool false) (.bool false)
        have hBF := below_put5 (b := w.heap.size) (hB1) (by omega) (.int .i64 0) (.int .i64 0) (.bool false) (.bool false) (.bool false)
        generalize ((((w2.setCell ⟨w.heap.size, 0, none⟩ (.int .i64 0)).setCell ⟨w.heap.size, 1, none⟩ (.int .i64 0)).setCell ⟨w.heap.size, 2, none⟩ (.bool false)).setCell ⟨w.heap.size, 3, none⟩ (.bool false)).setCell ⟨w.heap.size, 4, none⟩ (.bool false) = wF at *
        clear cR fR lR
        obtain ⟨cF, fF, lF⟩ := kF.facts
        exact bodyPost_ret (v := .tuple #[.agg #[.int .i64 0, .int .i64 0, .bool false, .bool false, .bool false], .int .i64 (2)]) (by simp [results, Tryd.results28, go_sem, cF]) rfl ⟨by rw [HV.out]; rfl, hBF⟩
      · rw [if_neg hbig] at hv ⊢
        have HV := Lib.hid hv
        clear hv
        rintro e w2 ⟨rfl, hb2⟩
        have kR := kR2.to hb2
        have kE := kE2.to hb2
        have hB1 := bnext hB2 hb2
        clear hb2 kR2 kE2 hB2
        obtain ⟨cR, fR, lR⟩ := kR.facts
        obtain ⟨cE, fE, lE⟩ := kE.facts
        go_wp2_with fail
        clear cE fE lE kE
        have kF := kR.put5 (.int .i64 2) (.int .i64 n) (.bool false) (.bool false) (.bool false)
        have hBF := below_put5 (b := w.heap.size) (hB1) (by omega) (.int .i64 2) (.int .i64 n) (.bool false) (.bool false) (.bool false)
        generalize ((((w2.setCell ⟨w.heap.size, 0, none⟩ (.int .i64 2)).setCell ⟨w.heap.size, 1, none⟩ (.int .i64 n)).setCell ⟨w.heap.size, 2, none⟩ (.bool false)).setCell ⟨w.heap.size, 3, none⟩ (.bool false)).setCell ⟨w.heap.size, 4, none⟩ (.bool false) = wF at *
        clear cR fR lR
        obtain ⟨cF, fF, lF⟩ := kF.facts
        exact bodyPost_ret (v := .tuple #[.agg #[.int .i64 2, .int .i64 n, .bool false, .bool false, .bool false], .int .i64 (0)]) (by simp [results, Tryd.results28, go_sem, cF]) rfl ⟨by rw [HV.out], hBF⟩
  have hpb : Lib.hasPrefix l [115] = false := by simpa using hp
  rw [if_neg hp] at hR0
  clear hp hl1
  by_cases hq : Lib.hasPrefix l [112] = true
  · rw [if_pos hq] at hR0
    generalize htt : Lib.trimPrefix l [112] = t at *
    have HTT := Lib.hid htt
    clear htt
    have hl3 := trimS_len t [114]
    have hR1 : progP t = if Lib.hasSuffix (Lib.trimSuffix t [114]) [119] = true then finP 1 (numR (Lib.trimSuffix (Lib.trimSuffix t [114]) [119])) true false (Lib.hasSuffix t [114]) else if Lib.hasSuffix (Lib.trimSuffix t [114]) [99] = true then finP 1 (numR (Lib.trimSuffix (Lib.trimSuffix t [114]) [99])) false true (Lib.hasSuffix t [114]) else errP 3 := rfl
    rw [hR1] at hR0
    clear hR1
    generalize hrr : Lib.hasSuffix t [114] = r at *
    generalize htu : Lib.trimSuffix t [114] = u at *
    have HRR := Lib.hid hrr
    have HTU := Lib.hid htu
    clear hrr htu
    by_cases hw : Lib.hasSuffix u [119] = true
    · rw [if_pos hw] at hR0
      have hl4 := trimS_len u [119]
      generalize htd : Lib.trimSuffix u [119] = d at *
      have HTD := Lib.hid htd
      have HR := Lib.hid hR0
      clear hR0 htd
      go_enter Tryd.func28, Tryd.ntmps28
      go_wp2_with fail
      refine (cutP_any l 115 _).mono ?_
      rintro e w' ⟨rfl, rfl⟩
      go_wp2_with fail
      refine (cutP_any l 112 _).mono ?_
      rw [HTT.out]
      rintro e w' ⟨rfl, rfl⟩
      go_wp2_with fail
      refine (cutS_any t 114 _ (by omega)).mono ?_
      rw [HTU.out, HRR.out]
      rintro e w' ⟨rfl, rfl⟩
      go_wp2_with fail
      refine (cutS_any u 119 _ (by omega)).mono ?_
      rw [HTD.out]
      rintro e w' ⟨rfl, rfl⟩
      go_wp2_with fail
      rcases hn : numR d with _ | n
      · have HV : Hid (progR l = ((0, 0, false, false, false), 3)) := Lib.hid (by rw [HR.out, hn]; rfl)
        have HN := Lib.hid hn
        clear hn
        refine (number_any d _ (by omega)).mono ?_
        rw [HN.out]
        rintro e w1 ⟨rfl, hb1⟩
        simp only [Option.getD_none, Option.isSome_none]
        have kR := ((Bk.new w #[.int .i64 0, .int .i64 0, .bool false, .bool false, .bool false] 23).alloc (.cells #[.int .i64 1, .int .i64 0, .bool true, .bool false, .bool r] 23)).to hb1
        have kE := (Bk.new (w.alloc (.cells #[.int .i64 0, .int .i64 0, .bool false, .bool false, .bool false] 23)) #[.int .i64 1, .int .i64 0, .bool true, .bool false, .bool r] 23).to hb1
        rw [World.size_alloc] at kE
        have hB1 : Below w.heap.size w w1 := bnext (balloc (balloc (Below.refl _ _) _) _) hb1
        have hL1 := hL.below hB1
        clear hb1
        obtain ⟨cR, fR, lR⟩ := kR.facts
        obtain ⟨cE, fE, lE⟩ := kE.facts
        go_wp2_with fail
        clear cE fE lE kE
        have kF := kR.put5 (.int .i64 0) (.int .i64 0) (.bool false) (.bool false) (.bool false)
        have hBF := below_put5 (b := w.heap.size) (hB1) (by omega) (.int .i64 0) (.int .i64 0) (.bool false) (.bool false) (.bool false)
        generalize ((((w1.setCell ⟨w.heap.size, 0, none⟩ (.int .i64 0)).setCell ⟨w.heap.size, 1, none⟩ (.int .i64 0)).setCell ⟨w.heap.size, 2, none⟩ (.bool false)).setCell ⟨w.heap.size, 3, none⟩ (.bool false)).setCell ⟨w.heap.size, 4, none⟩ (.bool false) = wF at *
        clear cR fR lR
        obtain ⟨cF, fF, lF⟩ := kF.facts
        exact bodyPost_ret (v := .tuple #[.agg #[.int .i64 0, .int .i64 0, .bool false, .bool false, .bool false], .int .i64 (3)]) (by simp [results, Tryd.results28, go_sem, cF]) rfl ⟨by rw [HV.out], hBF⟩
      · have hv : progR l = if 255 < n then errP 2 else ((1, (n : Int), true, false, r), 0) := by rw [HR.out, hn]; rfl
        have hck := (show chk 1 n true false r = if 255 < n then 2 else 0 from chk_one n true r)
        have hn1 : n < 1000 := by
          obtain ⟨_, h2, _, h4, h5⟩ := numR_some _ _ hn
          have h6 := numV_lt _ h4
          have h7 : 10 ^ ((d).length) ≤ 10 ^ 3 := Nat.pow_le_pow_right (by omega) h2
          omega
        have HN := Lib.hid hn
        clear hn
        refine (number_any d _ (by omega)).mono ?_
        rw [HN.out]
        rintro e w1 ⟨rfl, hb1⟩
        simp only [Option.getD_some, Option.isSome_some]
        have kR := ((Bk.new w #[.int .i64 0, .int .i64 0, .bool false, .bool false, .bool false] 23).alloc (.cells #[.int .i64 1, .int .i64 0, .bool true, .bool false, .bool r] 23)).to hb1
        have kE := (Bk.new (w.alloc (.cells #[.int .i64 0, .int .i64 0, .bool false, .bool false, .bool false] 23)) #[.int .i64 1, .int .i64 0, .bool true, .bool false, .bool r] 23).to hb1
        rw [World.size_alloc] at kE
        have hB1 : Below w.heap.size w w1 := bnext (balloc (balloc (Below.refl _ _) _) _) hb1
        have hL1 := hL.below hB1
        clear hb1
        obtain ⟨cR, fR, lR⟩ := kR.facts
        obtain ⟨cE, fE, lE⟩ := kE.facts
        have hck2 : ∀ u : World, LayOK u → Calls Tryd.prog 15 #[.agg #[.int .i64 1, .int .i64 n, .bool true, .bool false, .bool r]] u fun e w' => e = .returned (.int .i64 (if 255 < n then 2 else 0)) ∧ Below u.heap.size u w' := fun u hu => by
          have := Check_any 1 n true false r u hu
          rwa [hck] at this
        have HC := Lib.hid hck2
        clear hck hck2
        have kE2 := kE.put 1 (.int .i64 n)
        have kR2 := kR.far (p := ⟨w.heap.size + 1, 1, none⟩) (by show w.heap.size ≠ w.heap.size + 1; omega) (.int .i64 n)
        have hB2 := hB1.setCell (p := ⟨w.heap.size + 1, 1, none⟩) (by show w.heap.size ≤ w.heap.size + 1; omega) (.int .i64 n)
        have hL2 : LayOK (w1.setCell ⟨w.heap.size + 1, 1, none⟩ (.int .i64 n)) := hL.below hB2
        go_wp2_with fail
        refine (HC.out _ hL2).mono ?_
        clear cR fR lR cE fE lE kR kE hB1 hL1
        generalize w1.setCell ⟨w.heap.size + 1, 1, none⟩ (.int .i64 n) = w5 at *
        by_cases hbig : 255 < n
        · rw [if_pos hbig] at hv ⊢
          have HV := Lib.hid hv
          clear hv
          rintro e w2 ⟨rfl, hb2⟩
          have kR := kR2.to hb2
          have kE := kE2.to hb2
          have hB1 := bnext hB2 hb2
          clear hb2 kR2 kE2 hB2
          obtain ⟨cR, fR, lR⟩ := kR.facts
          obtain ⟨cE, fE, lE⟩ := kE.facts
          go_wp2_with fail
          clear cE fE lE kE
          have kF := kR.put5 (.int .i64 0) (.int .i64 0) (.bool false) (.bool false) (.bool false)
          have hBF := below_put5 (b := w.heap.size) (hB1) (by omega) (.int .i64 0) (.int .i64 0) (.bool false) (.bool false) (.bool false)
          generalize ((((w2.setCell ⟨w.heap.size, 0, none⟩ (.int .i64 0)).setCell ⟨w.heap.size, 1, none⟩ (.int .i64 0)).setCell ⟨w.heap.size, 2, none⟩ (.bool false)).setCell ⟨w.heap.size, 3, none⟩ (.bool false)).setCell ⟨w.heap.size, 4, none⟩ (.bool false) = wF at *
          clear cR fR lR
          obtain ⟨cF, fF, lF⟩ := kF.facts
          exact bodyPost_ret (v := .tuple #[.agg #[.int .i64 0, .int .i64 0, .bool false, .bool false, .bool false], .int .i64 (2)]) (by simp [results, Tryd.results28, go_sem, cF]) rfl ⟨by rw [HV.out]; rfl, hBF⟩
        · rw [if_neg hbig] at hv ⊢
          have HV := Lib.hid hv
          clear hv
          rintro e w2 ⟨rfl, hb2⟩
          have kR := kR2.to hb2
          have kE := kE2.to hb2
          have hB1 := bnext hB2 hb2
          clear hb2 kR2 kE2 hB2
          obtain ⟨cR, fR, lR⟩ := kR.facts
          obtain ⟨cE, fE, lE⟩ := kE.facts
          go_wp2_with fail
          clear cE fE lE kE
          have kF := kR.put5 (.int .i64 1) (.int .i64 n) (.bool true) (.bool false) (.bool r)
          have hBF := below_put5 (b := w.heap.size) (hB1) (by omega) (.int .i64 1) (.int .i64 n) (.bool true) (.bool false) (.bool r)
          generalize ((((w2.setCell ⟨w.heap.size, 0, none⟩ (.int .i64 1)).setCell ⟨w.heap.size, 1, none⟩ (.int .i64 n)).setCell ⟨w.heap.size, 2, none⟩ (.bool true)).setCell ⟨w.heap.size, 3, none⟩ (.bool false)).setCell ⟨w.heap.size, 4, none⟩ (.bool r) = wF at *
          clear cR fR lR
          obtain ⟨cF, fF, lF⟩ := kF.facts
          exact bodyPost_ret (v := .tuple #[.agg #[.int .i64 1, .int .i64 n, .bool true, .bool false, .bool r], .int .i64 (0)]) (by simp [results, Tryd.results28, go_sem, cF]) rfl ⟨by rw [HV.out], hBF⟩
    have hwb : Lib.hasSuffix u [119] = false := by simpa using hw
    rw [if_neg hw] at hR0
    clear hw
    have hl4 := trimS_len u [99]
    by_cases hc : Lib.hasSuffix u [99] = true
    · rw [if_pos hc] at hR0
      generalize htd : Lib.trimSuffix u [99] = d at *
      have HTD := Lib.hid htd
      have HR := Lib.hid hR0
      clear hR0 htd
      go_enter Tryd.func28, Tryd.ntmps28
      go_wp2_with fail
      refine (cutP_any l 115 _).mono ?_
      rintro e w' ⟨rfl, rfl⟩
      go_wp2_with fail
      refine (cutP_any l 112 _).mono ?_
      rw [HTT.out]
      rintro e w' ⟨rfl, rfl⟩
      go_wp2_with fail
      refine (cutS_any t 114 _ (by omega)).mono ?_
      rw [HTU.out, HRR.out]
      rintro e w' ⟨rfl, rfl⟩
      go_wp2_with fail
      refine (cutS_any u 119 _ (by omega)).mono ?_
      rintro e w' ⟨rfl, rfl⟩
      go_wp2_with fail
      refine (cutS_any u 99 _ (by omega)).mono ?_
      rw [HTD.out]
      rintro e w' ⟨rfl, rfl⟩
      go_wp2_with fail
      rcases hn : numR d with _ | n
      · have HV : Hid (progR l = ((0, 0, false, false, false), 3)) := Lib.hid (by rw [HR.out, hn]; rfl)
        have HN := Lib.hid hn
        clear hn
        refine (number_any d _ (by omega)).mono ?_
        rw [HN.out]
        rintro e w1 ⟨rfl, hb1⟩
        simp only [Option.getD_none, Option.isSome_none]
        have kR := ((Bk.new w #[.int .i64 0, .int .i64 0, .bool false, .bool false, .bool false] 23).alloc (.cells #[.int .i64 1, .int .i64 0, .bool false, .bool true, .bool r] 23)).to hb1
        have kE := (Bk.new (w.alloc (.cells #[.int .i64 0, .int .i64 0, .bool false, .bool false, .bool false] 23)) #[.int .i64 1, .int .i64 0, .bool false, .bool true, .bool r] 23).to hb1
        rw [World.size_alloc] at kE
        have hB1 : Below w.heap.size w w1 := bnext (balloc (balloc (Below.refl _ _) _) _) hb1
        have hL1 := hL.below hB1
        clear hb1
        obtain ⟨cR, fR, lR⟩ := kR.facts
        obtain ⟨cE, fE, lE⟩ := kE.facts
        go_wp2_with fail
        clear cE fE lE kE
        have kF := kR.put5 (.int .i64 0) (.int .i64 0) (.bool false) (.bool false) (.bool false)
        have hBF := below_put5 (b := w.heap.size) (hB1) (by omega) (.int .i64 0) (.int .i64 0) (.bool false) (.bool false) (.bool false)
        generalize ((((w1.setCell ⟨w.heap.size, 0, none⟩ (.int .i64 0)).setCell ⟨w.heap.size, 1, none⟩ (.int .i64 0)).setCell ⟨w.heap.size, 2, none⟩ (.bool false)).setCell ⟨w.heap.size, 3, none⟩ (.bool false)).setCell ⟨w.heap.size, 4, none⟩ (.bool false) = wF at *
        clear cR fR lR
        obtain ⟨cF, fF, lF⟩ := kF.facts
        exact bodyPost_ret (v := .tuple #[.agg #[.int .i64 0, .int .i64 0, .bool false, .bool false, .bool false], .int .i64 (3)]) (by simp [results, Tryd.results28, go_sem, cF]) rfl ⟨by rw [HV.out], hBF⟩
      · have hv : progR l = if 255 < n then errP 2 else ((1, (n : Int), false, true, r), 0) := by rw [HR.out, hn]; rfl
        have hck := (show chk 1 n false true r = if 255 < n then 2 else 0 from chk_one n false r)
        have hn1 : n < 1000 := by
          obtain ⟨_, h2, _, h4, h5⟩ := numR_some _ _ hn
          have h6 := numV_lt _ h4
          have h7 : 10 ^ ((d).length) ≤ 10 ^ 3 := Nat.pow_le_pow_right (by omega) h2
          omega
        have HN := Lib.hid hn
        clear hn
        refine (number_any d _ (by omega)).mono ?_
        rw [HN.out]
        rintro e w1 ⟨rfl, hb1⟩
        simp only [Option.getD_some, Option.isSome_some]
        have kR := ((Bk.new w #[.int .i64 0, .int .i64 0, .bool false, .bool false, .bool false] 23).alloc (.cells #[.int .i64 1, .int .i64 0, .bool false, .bool true, .bool r] 23)).to hb1
        have kE := (Bk.new (w.alloc (.cells #[.int .i64 0, .int .i64 0, .bool false, .bool false, .bool false] 23)) #[.int .i64 1, .int .i64 0, .bool false, .bool true, .bool r] 23).to hb1
        rw [World.size_alloc] at kE
        have hB1 : Below w.heap.size w w1 := bnext (balloc (balloc (Below.refl _ _) _) _) hb1
        have hL1 := hL.below hB1
        clear hb1
        obtain ⟨cR, fR, lR⟩ := kR.facts
        obtain ⟨cE, fE, lE⟩ := kE.facts
        have hck2 : ∀ u : World, LayOK u → Calls Tryd.prog 15 #[.agg #[.int .i64 1, .int .i64 n, .bool false, .bool true, .bool r]] u fun e w' => e = .returned (.int .i64 (if 255 < n then 2 else 0)) ∧ Below u.heap.size u w' := fun u hu => by
          have := Check_any 1 n false true r u hu
          rwa [hck] at this
        have HC := Lib.hid hck2
        clear hck hck2
        have kE2 := kE.put 1 (.int .i64 n)
        have kR2 := kR.far (p := ⟨w.heap.size + 1, 1, none⟩) (by show w.heap.size ≠ w.heap.size + 1; omega) (.int .i64 n)
        have hB2 := hB1.setCell (p := ⟨w.heap.size + 1, 1, none⟩) (by show w.heap.size ≤ w.heap.size + 1; omega) (.int .i64 n)
        have hL2 : LayOK (w1.setCell ⟨w.heap.size + 1, 1, none⟩ (.int .i64 n)) := hL.below hB2
        go_wp2_with fail
        refine (HC.out _ hL2).mono ?_
        clear cR fR lR cE fE lE kR kE hB1 hL1
        generalize w1.setCell ⟨w.heap.size + 1, 1, none⟩ (.int .i64 n) = w5 at *
        by_cases hbig : 255 < n
        · rw [if_pos hbig] at hv ⊢
          have HV := Lib.hid hv
          clear hv
          rintro e w2 ⟨rfl, hb2⟩
          have kR := kR2.to hb2
          have kE := kE2.to hb2
          have hB1 := bnext hB2 hb2
          clear hb2 kR2 kE2 hB2
          obtain ⟨cR, fR, lR⟩ := kR.facts
          obtain ⟨cE, fE, lE⟩ := kE.facts
          go_wp2_with fail
          clear cE fE lE kE
          have kF := kR.put5 (.int .i64 0) (.int .i64 0) (.bool false) (.bool false) (.bool false)
          have hBF := below_put5 (b := w.heap.size) (hB1) (by omega) (.int .i64 0) (.int .i64 0) (.bool false) (.bool false) (.bool false)
          generalize ((((w2.setCell ⟨w.heap.size, 0, none⟩ (.int .i64 0)).setCell ⟨w.heap.size, 1, none⟩ (.int .i64 0)).setCell ⟨w.heap.size, 2, none⟩ (.bool false)).setCell ⟨w.heap.size, 3, none⟩ (.bool false)).setCell ⟨w.heap.size, 4, none⟩ (.bool false) = wF at *
          clear cR fR lR
          obtain ⟨cF, fF, lF⟩ := kF.facts
          exact bodyPost_ret (v := .tuple #[.agg #[.int .i64 0, .int .i64 0, .bool false, .bool false, .bool false], .int .i64 (2)]) (by simp [results, Tryd.results28, go_sem, cF]) rfl ⟨by rw [HV.out]; rfl, hBF⟩
        · rw [if_neg hbig] at hv ⊢
          have HV := Lib.hid hv
          clear hv
          rintro e w2 ⟨rfl, hb2⟩
          have kR := kR2.to hb2
          have kE := kE2.to hb2
          have hB1 := bnext hB2 hb2
          clear hb2 kR2 kE2 hB2
          obtain ⟨cR, fR, lR⟩ := kR.facts
          obtain ⟨cE, fE, lE⟩ := kE.facts
          go_wp2_with fail
          clear cE fE lE kE
          have kF := kR.put5 (.int .i64 1) (.int .i64 n) (.bool false) (.bool true) (.bool r)
          have hBF := below_put5 (b := w.heap.size) (hB1) (by omega) (.int .i64 1) (.int .i64 n) (.bool false) (.bool true) (.bool r)
          generalize ((((w2.setCell ⟨w.heap.size, 0, none⟩ (.int .i64 1)).setCell ⟨w.heap.size, 1, none⟩ (.int .i64 n)).setCell ⟨w.heap.size, 2, none⟩ (.bool false)).setCell ⟨w.heap.size, 3, none⟩ (.bool true)).setCell ⟨w.heap.size, 4, none⟩ (.bool r) = wF at *
          clear cR fR lR
          obtain ⟨cF, fF, lF⟩ := kF.facts
          exact bodyPost_ret (v := .tuple #[.agg #[.int .i64 1, .int .i64 n, .bool false, .bool true, .bool r], .int .i64 (0)]) (by simp [results, Tryd.results28, go_sem, cF]) rfl ⟨by rw [HV.out], hBF⟩
    · have hcb : Lib.hasSuffix u [99] = false := by simpa using hc
      rw [if_neg hc] at hR0
      have HV : Hid (progR l = ((0, 0, false, false, false), 3)) := Lib.hid hR0
      clear hR0 hc
      generalize htd : Lib.trimSuffix u [99] = d at *
      have HTD := Lib.hid htd
      clear htd
      go_enter Tryd.func28, Tryd.ntmps28
      go_wp2_with fail
      refine (cutP_any l 115 _).mono ?_
      rintro e w' ⟨rfl, rfl⟩
      go_wp2_with fail
      refine (cutP_any l 112 _).mono ?_
      rw [HTT.out]
      rintro e w' ⟨rfl, rfl⟩
      go_wp2_with fail
      refine (cutS_any t 114 _ (by omega)).mono ?_
      rw [HTU.out, HRR.out]
      rintro e w' ⟨rfl, rfl⟩
      go_wp2_with fail
      refine (cutS_any u 119 _ (by omega)).mono ?_
      rintro e w' ⟨rfl, rfl⟩
      go_wp2_with fail
      refine (cutS_any u 99 _ (by omega)).mono ?_
      rw [HTD.out]
      rintro e w' ⟨rfl, rfl⟩
      go_wp2_with fail
      refine (number_any d _ (by omega)).mono ?_
      generalize (numR d).isSome = ok
      generalize ((numR d).getD 0 : Nat) = v
      rintro e w1 ⟨rfl, hb1⟩
      have kR := ((Bk.new w #[.int .i64 0, .int .i64 0, .bool false, .bool false, .bool false] 23).alloc (.cells #[.int .i64 1, .int .i64 0, .bool false, .bool false, .bool r] 23)).to hb1
      have kE := (Bk.new (w.alloc (.cells #[.int .i64 0, .int .i64 0, .bool false, .bool false, .bool false] 23)) #[.int .i64 1, .int .i64 0, .bool false, .bool false, .bool r] 23).to hb1
      rw [World.size_alloc] at kE
      have hB1 : Below w.heap.size w w1 := bnext (balloc (balloc (Below.refl _ _) _) _) hb1
      have hL1 := hL.below hB1
      clear hb1
      obtain ⟨cR, fR, lR⟩ := kR.facts
      obtain ⟨cE, fE, lE⟩ := kE.facts
      cases ok
      all_goals
        go_wp2_with fail
        clear cE fE lE kE
        have kF := kR.put5 (.int .i64 0) (.int .i64 0) (.bool false) (.bool false) (.bool false)
        have hBF := below_put5 (b := w.heap.size) (hB1) (by omega) (.int .i64 0) (.int .i64 0) (.bool false) (.bool false) (.bool false)
        generalize ((((w1.setCell ⟨w.heap.size, 0, none⟩ (.int .i64 0)).setCell ⟨w.heap.size, 1, none⟩ (.int .i64 0)).setCell ⟨w.heap.size, 2, none⟩ (.bool false)).setCell ⟨w.heap.size, 3, none⟩ (.bool false)).setCell ⟨w.heap.size, 4, none⟩ (.bool false) = wF at *
        clear cR fR lR
        obtain ⟨cF, fF, lF⟩ := kF.facts
        exact bodyPost_ret (v := .tuple #[.agg #[.int .i64 0, .int .i64 0, .bool false, .bool false, .bool false], .int .i64 (3)]) (by simp [results, Tryd.results28, go_sem, cF]) rfl ⟨by rw [HV.out], hBF⟩
  · have hqb : Lib.hasPrefix l [112] = false := by simpa using hq
    rw [if_neg hq] at hR0
    have HV : Hid (progR l = ((0, 0, false, false, false), 3)) := Lib.hid hR0
    clear hR0 hq
    go_enter Tryd.func28, Tryd.ntmps28
    go_wp2_with fail
    refine (cutP_any l 115 _).mono ?_
    rintro e w' ⟨rfl, rfl⟩
    go_wp2_with fail
    refine (cutP_any l 112 _).mono ?_
    rintro e w' ⟨rfl, rfl⟩
    go_wp2_with fail
    refine (number_any [] _ (by simp)).mono ?_
    rintro e w1 ⟨rfl, hb1⟩
    simp only [show numR [] = none from rfl, Option.getD_none, Option.isSome_none]
    have kR := ((Bk.new w #[.int .i64 0, .int .i64 0, .bool false, .bool false, .bool false] 23).alloc (.cells #[.int .i64 0, .int .i64 0, .bool false, .bool false, .bool false] 23)).to hb1
    have kE := (Bk.new (w.alloc (.cells #[.int .i64 0, .int .i64 0, .bool false, .bool false, .bool false] 23)) #[.int .i64 0, .int .i64 0, .bool false, .bool false, .bool false] 23).to hb1
    rw [World.size_alloc] at kE
    have hB1 : Below w.heap.size w w1 := bnext (balloc (balloc (Below.refl _ _) _) _) hb1
    have hL1 := hL.below hB1
    clear hb1
    obtain ⟨cR, fR, lR⟩ := kR.facts
    obtain ⟨cE, fE, lE⟩ := kE.facts
    go_wp2_with fail
    clear cE fE lE kE
    have kF := kR.put5 (.int .i64 0) (.int .i64 0) (.bool false) (.bool false) (.bool false)
    have hBF := below_put5 (b := w.heap.size) (hB1) (by omega) (.int .i64 0) (.int .i64 0) (.bool false) (.bool false) (.bool false)
    generalize ((((w1.setCell ⟨w.heap.size, 0, none⟩ (.int .i64 0)).setCell ⟨w.heap.size, 1, none⟩ (.int .i64 0)).setCell ⟨w.heap.size, 2, none⟩ (.bool false)).setCell ⟨w.heap.size, 3, none⟩ (.bool false)).setCell ⟨w.heap.size, 4, none⟩ (.bool false) = wF at *
    clear cR fR lR
    obtain ⟨cF, fF, lF⟩ := kF.facts
    exact bodyPost_ret (v := .tuple #[.agg #[.int .i64 0, .int .i64 0, .bool false, .bool false, .bool false], .int .i64 (3)]) (by simp [results, Tryd.results28, go_sem, cF]) rfl ⟨by rw [HV.out], hBF⟩
end Go.Proofs.YtbifecejaphcfaaDoor
