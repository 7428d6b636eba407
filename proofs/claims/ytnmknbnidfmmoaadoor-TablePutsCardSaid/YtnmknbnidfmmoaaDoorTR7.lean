/- Page tables: the reference's Put, SetLeaf, empty, Clear and Trim. -/
import Derived.Test.YtnmknbnidfmmoaaDoorTR6
import Derived.Test.YtnmknbnidfmmoaaDoorTR5
import Derived.Test.YtnmknbnidfmmoaaDoorMade2
import Derived.Deep.RegionHeld3
namespace Go.Proofs.YtnmknbnidfmmoaaDoor
open Go Go.Proofs Go.RowKit
set_option linter.unusedSimpArgs false
set_option linter.unusedVariables false
set_option maxRecDepth 100000

theorem Own2.tloc {w : World} {base gA cA gB cB : Nat} {ls : List Int} {es : List Nat} (h : Own2 w base gA cA gB cB ls es) (r : Int) {lo : Nat} (hl : lo ≤ base) : TLoc lo (.agg #[.int .i64 r, .slice (some ⟨gA, 0, none⟩) 8 cA, .slice (some ⟨gB, 0, none⟩) 64 cB]) := by
  have h1 := h.lt
  intro r' A n c B m d e
  unfold tabV at e
  simp only [Value.agg.injEq, Array.mk.injEq, List.cons.injEq, Value.slice.injEq, and_true] at e
  obtain ⟨_, ⟨rfl, rfl, rfl⟩, rfl, rfl, rfl⟩ := e
  constructor
  · intro b off _ e2
    simp only [Option.some.injEq, Addr.mk.injEq, and_true] at e2
    omega
  · intro b off _ e2
    simp only [Option.some.injEq, Addr.mk.injEq, and_true] at e2
    omega

set_option maxHeartbeats 1000000 in
theorem rPut_bad1 (r : Int) (ls : List Int) (es : List Nat) (v : Value) (page k n : Int) (a b f : Bool) (w : World) (hv : TbV w v (r, ls, es)) (hs : wsmall es) (hE : askE r ls es page ≠ 0) :
    Calls Tryd.prog 30 #[v, .int .i64 page, .agg #[.int .i64 k, .int .i64 n, .bool a, .bool b, .bool f]] w fun e w' => TbRes w w' tb0 (askE r ls es page) e := by
  have hlk : lackR r ls es page = (false, askE r ls es page) := by unfold lackR; rw [if_pos hE]
  have hd : (askE r ls es page != 0) = true := by simpa using hE
  clear hE
  obtain ⟨A, c, B, d, rfl, hA, hB, hcc⟩ := id hv
  simp only at hA hB hcc
  unfold tabV at hv ⊢
  simp only at hv ⊢
  have kT := ((Bk.new (w) #[.int .i64 r, .slice A ls.length c, .slice B es.length d] 25).alloc (.cells #[.int .i64 k, .int .i64 n, .bool a, .bool b, .bool f] 35)).alloc (.cells #[.int .i64 0, .slice none 0 0, .slice none 0 0] 25)
  have kX := (Bk.new (w.alloc (.cells #[.int .i64 r, .slice A ls.length c, .slice B es.length d] 25)) #[.int .i64 k, .int .i64 n, .bool a, .bool b, .bool f] 35).alloc (.cells #[.int .i64 0, .slice none 0 0, .slice none 0 0] 25)
  simp only [World.size_alloc] at kX
  have kR := Bk.new ((w.alloc (.cells #[.int .i64 r, .slice A ls.length c, .slice B es.length d] 25)).alloc (.cells #[.int .i64 k, .int .i64 n, .bool a, .bool b, .bool f] 35)) #[.int .i64 0, .slice none 0 0, .slice none 0 0] 25
  simp only [World.size_alloc] at kR
  have hB1 := balloc (balloc (balloc (Below.refl _ w) (.cells #[.int .i64 r, .slice A ls.length c, .slice B es.length d] 25)) (.cells #[.int .i64 k, .int .i64 n, .bool a, .bool b, .bool f] 35)) (.cells #[.int .i64 0, .slice none 0 0, .slice none 0 0] 25)
  generalize hw_w1 : ((w.alloc (.cells #[.int .i64 r, .slice A ls.length c, .slice B es.length d] 25)).alloc (.cells #[.int .i64 k, .int .i64 n, .bool a, .bool b, .bool f] 35)).alloc (.cells #[.int .i64 0, .slice none 0 0, .slice none 0 0] 25) = w1 at *
  obtain ⟨cT, fT, lT⟩ := kT.facts
  obtain ⟨cX, fX, lX⟩ := kX.facts
  obtain ⟨cR, fR, lR⟩ := kR.facts
  go_enter Tryd.func30, Tryd.ntmps30
  go_wp2_with fail
  refine (rLacks_any r ls es _ page _ (hv.to hB1) hs).mono ?_
  rw [hlk]
  rintro e w2 ⟨rfl, hb2⟩
  clear hw_w1
  replace kT := kT.to hb2
  replace kX := kX.to hb2
  replace kR := kR.to hb2
  clear cT fT lT cX fX lX cR fR lR
  obtain ⟨cT, fT, lT⟩ := kT.facts
  obtain ⟨cX, fX, lX⟩ := kX.facts
  obtain ⟨cR, fR, lR⟩ := kR.facts
  replace hB1 := bnext hB1 hb2
  go_wp2_with fail
  have kF := kR.put3 (.int .i64 0) (.slice none 0 0) (.slice none 0 0)
  have hBF := below_put3 (hB1) (g := w.heap.size + 1 + 1) (by omega) (.int .i64 0) (.slice none 0 0) (.slice none 0 0)
  exact bodyPost_ret (kF.res2 (P := Tryd.prog) rfl _ rfl (by kernel_rfl) (by kernel_rfl)) rfl ⟨_, rfl, TbV.zero _, TLoc.zero _ _, hBF⟩

set_option maxHeartbeats 1000000 in
theorem rPut_bad2 (r : Int) (ls : List Int) (es : List Nat) (v : Value) (page k n : Int) (a b f : Bool) (w : World) (hv : TbV w v (r, ls, es)) (hs : wsmall es) (hE : askE r ls es page = 0) (hP : (packR k n a b f).2 ≠ 0) :
    Calls Tryd.prog 30 #[v, .int .i64 page, .agg #[.int .i64 k, .int .i64 n, .bool a, .bool b, .bool f]] w fun e w' => TbRes w w' tb0 (packR k n a b f).2 e := by
  obtain ⟨x, pe, hpk⟩ : ∃ x pe, packR k n a b f = (x, pe) := ⟨_, _, rfl⟩
  rw [hpk] at hP ⊢
  simp only at hP ⊢
  obtain ⟨lk, hlk⟩ : ∃ lk, lackR r ls es page = (lk, 0) := ⟨_, by unfold lackR; rw [if_neg (by simp [hE])]⟩
  have hd : (pe != 0) = true := by simpa using hP
  clear hE hP
  obtain ⟨A, c, B, d, rfl, hA, hB, hcc⟩ := id hv
  simp only at hA hB hcc
  unfold tabV at hv ⊢
  simp only at hv ⊢
  have kT := ((Bk.new (w) #[.int .i64 r, .slice A ls.length c, .slice B es.length d] 25).alloc (.cells #[.int .i64 k, .int .i64 n, .bool a, .bool b, .bool f] 35)).alloc (.cells #[.int .i64 0, .slice none 0 0, .slice none 0 0] 25)
  have kX := (Bk.new (w.alloc (.cells #[.int .i64 r, .slice A ls.length c, .slice B es.length d] 25)) #[.int .i64 k, .int .i64 n, .bool a, .bool b, .bool f] 35).alloc (.cells #[.int .i64 0, .slice none 0 0, .slice none 0 0] 25)
  simp only [World.size_alloc] at kX
  have kR := Bk.new ((w.alloc (.cells #[.int .i64 r, .slice A ls.length c, .slice B es.length d] 25)).alloc (.cells #[.int .i64 k, .int .i64 n, .bool a, .bool b, .bool f] 35)) #[.int .i64 0, .slice none 0 0, .slice none 0 0] 25
  simp only [World.size_alloc] at kR
  have hB1 := balloc (balloc (balloc (Below.refl _ w) (.cells #[.int .i64 r, .slice A ls.length c, .slice B es.length d] 25)) (.cells #[.int .i64 k, .int .i64 n, .bool a, .bool b, .bool f] 35)) (.cells #[.int .i64 0, .slice none 0 0, .slice none 0 0] 25)
  generalize hw_w1 : ((w.alloc (.cells #[.int .i64 r, .slice A ls.length c, .slice B es.length d] 25)).alloc (.cells #[.int .i64 k, .int .i64 n, .bool a, .bool b, .bool f] 35)).alloc (.cells #[.int .i64 0, .slice none 0 0, .slice none 0 0] 25) = w1 at *
  obtain ⟨cT, fT, lT⟩ := kT.facts
  obtain ⟨cX, fX, lX⟩ := kX.facts
  obtain ⟨cR, fR, lR⟩ := kR.facts
  go_enter Tryd.func30, Tryd.ntmps30
  go_wp2_with fail
  refine (rLacks_any r ls es _ page _ (hv.to hB1) hs).mono ?_
  rw [hlk]
  rintro e w2 ⟨rfl, hb2⟩
  clear hw_w1
  replace kT := kT.to hb2
  replace kX := kX.to hb2
  replace kR := kR.to hb2
  clear cT fT lT cX fX lX cR fR lR
  obtain ⟨cT, fT, lT⟩ := kT.facts
  obtain ⟨cX, fX, lX⟩ := kX.facts
  obtain ⟨cR, fR, lR⟩ := kR.facts
  replace hB1 := bnext hB1 hb2
  go_wp2_with fail
  refine (rPack_any k n a b f _).mono ?_
  rw [hpk]
  rintro e w3 ⟨rfl, hb3⟩
  replace kT := kT.to hb3
  replace kX := kX.to hb3
  replace kR := kR.to hb3
  clear cT fT lT cX fX lX cR fR lR
  obtain ⟨cT, fT, lT⟩ := kT.facts
  obtain ⟨cX, fX, lX⟩ := kX.facts
  obtain ⟨cR, fR, lR⟩ := kR.facts
  replace hB1 := bnext hB1 hb3
  go_wp2_with fail
  have kF := kR.put3 (.int .i64 0) (.slice none 0 0) (.slice none 0 0)
  have hBF := below_put3 (hB1) (g := w.heap.size + 1 + 1) (by omega) (.int .i64 0) (.slice none 0 0) (.slice none 0 0)
  exact bodyPost_ret (kF.res2 (P := Tryd.prog) rfl _ rfl (by kernel_rfl) (by kernel_rfl)) rfl ⟨_, rfl, TbV.zero _, TLoc.zero _ _, hBF⟩

set_option maxHeartbeats 1000000 in
theorem rPut_bad3 (r : Int) (ls : List Int) (es : List Nat) (v : Value) (page k n : Int) (a b f : Bool) (w : World) (hv : TbV w v (r, ls, es)) (hs : wsmall es) (hE : askE r ls es page = 0) (hP : (packR k n a b f).2 = 0) (hl : ls.getD (page.toNat / 8) 0 = -1) (hk : k ≠ 0) :
    Calls Tryd.prog 30 #[v, .int .i64 page, .agg #[.int .i64 k, .int .i64 n, .bool a, .bool b, .bool f]] w fun e w' => TbRes w w' tb0 9 e := by
  obtain ⟨x, hpk⟩ : ∃ x, packR k n a b f = (x, 0) := ⟨_, Prod.ext rfl hP⟩
  have hlk : lackR r ls es page = (true, 0) := by unfold lackR; rw [if_neg (by simp [hE]), decide_eq_true hl]
  have hd : (k != 0) = true := by simpa using hk
  clear hE hP hl hk
  obtain ⟨A, c, B, d, rfl, hA, hB, hcc⟩ := id hv
  simp only at hA hB hcc
  unfold tabV at hv ⊢
  simp only at hv ⊢
  have kT := ((Bk.new (w) #[.int .i64 r, .slice A ls.length c, .slice B es.length d] 25).alloc (.cells #[.int .i64 k, .int .i64 n, .bool a, .bool b, .bool f] 35)).alloc (.cells #[.int .i64 0, .slice none 0 0, .slice none 0 0] 25)
  have kX := (Bk.new (w.alloc (.cells #[.int .i64 r, .slice A ls.length c, .slice B es.length d] 25)) #[.int .i64 k, .int .i64 n, .bool a, .bool b, .bool f] 35).alloc (.cells #[.int .i64 0, .slice none 0 0, .slice none 0 0] 25)
  simp only [World.size_alloc] at kX
  have kR := Bk.new ((w.alloc (.cells #[.int .i64 r, .slice A ls.length c, .slice B es.length d] 25)).alloc (.cells #[.int .i64 k, .int .i64 n, .bool a, .bool b, .bool f] 35)) #[.int .i64 0, .slice none 0 0, .slice none 0 0] 25
  simp only [World.size_alloc] at kR
  have hB1 := balloc (balloc (balloc (Below.refl _ w) (.cells #[.int .i64 r, .slice A ls.length c, .slice B es.length d] 25)) (.cells #[.int .i64 k, .int .i64 n, .bool a, .bool b, .bool f] 35)) (.cells #[.int .i64 0, .slice none 0 0, .slice none 0 0] 25)
  generalize hw_w1 : ((w.alloc (.cells #[.int .i64 r, .slice A ls.length c, .slice B es.length d] 25)).alloc (.cells #[.int .i64 k, .int .i64 n, .bool a, .bool b, .bool f] 35)).alloc (.cells #[.int .i64 0, .slice none 0 0, .slice none 0 0] 25) = w1 at *
  obtain ⟨cT, fT, lT⟩ := kT.facts
  obtain ⟨cX, fX, lX⟩ := kX.facts
  obtain ⟨cR, fR, lR⟩ := kR.facts
  go_enter Tryd.func30, Tryd.ntmps30
  go_wp2_with fail
  refine (rLacks_any r ls es _ page _ (hv.to hB1) hs).mono ?_
  rw [hlk]
  rintro e w2 ⟨rfl, hb2⟩
  clear hw_w1
  replace kT := kT.to hb2
  replace kX := kX.to hb2
  replace kR := kR.to hb2
  clear cT fT lT cX fX lX cR fR lR
  obtain ⟨cT, fT, lT⟩ := kT.facts
  obtain ⟨cX, fX, lX⟩ := kX.facts
  obtain ⟨cR, fR, lR⟩ := kR.facts
  replace hB1 := bnext hB1 hb2
  go_wp2_with fail
  refine (rPack_any k n a b f _).mono ?_
  rw [hpk]
  rintro e w3 ⟨rfl, hb3⟩
  replace kT := kT.to hb3
  replace kX := kX.to hb3
  replace kR := kR.to hb3
  clear cT fT lT cX fX lX cR fR lR
  obtain ⟨cT, fT, lT⟩ := kT.facts
  obtain ⟨cX, fX, lX⟩ := kX.facts
  obtain ⟨cR, fR, lR⟩ := kR.facts
  replace hB1 := bnext hB1 hb3
  go_wp2_with fail
  have kF := kR.put3 (.int .i64 0) (.slice none 0 0) (.slice none 0 0)
  have hBF := below_put3 (hB1) (g := w.heap.size + 1 + 1) (by omega) (.int .i64 0) (.slice none 0 0) (.slice none 0 0)
  exact bodyPost_ret (kF.res2 (P := Tryd.prog) rfl _ rfl (by kernel_rfl) (by kernel_rfl)) rfl ⟨_, rfl, TbV.zero _, TLoc.zero _ _, hBF⟩

set_option maxHeartbeats 2000000 in
theorem rPut_ok (r : Int) (ls : List Int) (es : List Nat) (v : Value) (page : Nat) (k n : Int) (a b f : Bool) (w : World) (hv : TbV w v (r, ls, es)) (hs : wsmall es) (hE : tabE r ls es = 0) (hp : page < 64) (x : Nat) (hpk : packR k n a b f = ((x : Int), 0)) (hl : ¬ (ls.getD (page / 8) 0 = -1 ∧ k ≠ 0)) :
    Calls Tryd.prog 30 #[v, .int .i64 page, .agg #[.int .i64 k, .int .i64 n, .bool a, .bool b, .bool f]] w fun e w' => TbRes w w' (r, ls, es.set page x) 0 e := by
  obtain ⟨h1, h2, _⟩ := tab_zero hE
  have hlk := lack_at hE page hp
  have hd : decide (ls.getD (page / 8) 0 = -1) = true → (k != 0) = false := by
    intro h
    have := of_decide_eq_true h
    simp only [bne_eq_false_iff_eq]
    exact Classical.byContradiction fun h0 => hl ⟨this, h0⟩
  generalize decide (ls.getD (page / 8) 0 = -1) = lk at *
  clear hE hl
  obtain ⟨A, c, B, d, rfl, hA, hB, hcc⟩ := id hv
  simp only at hA hB hcc
  unfold tabV at hv ⊢
  simp only at hv ⊢
  rw [h1, h2] at hv ⊢
  have kT := ((Bk.new (w) #[.int .i64 r, .slice A 8 c, .slice B 64 d] 25).alloc (.cells #[.int .i64 k, .int .i64 n, .bool a, .bool b, .bool f] 35)).alloc (.cells #[.int .i64 0, .slice none 0 0, .slice none 0 0] 25)
  have kX := (Bk.new (w.alloc (.cells #[.int .i64 r, .slice A 8 c, .slice B 64 d] 25)) #[.int .i64 k, .int .i64 n, .bool a, .bool b, .bool f] 35).alloc (.cells #[.int .i64 0, .slice none 0 0, .slice none 0 0] 25)
  simp only [World.size_alloc] at kX
  have kR := Bk.new ((w.alloc (.cells #[.int .i64 r, .slice A 8 c, .slice B 64 d] 25)).alloc (.cells #[.int .i64 k, .int .i64 n, .bool a, .bool b, .bool f] 35)) #[.int .i64 0, .slice none 0 0, .slice none 0 0] 25
  simp only [World.size_alloc] at kR
  have hB1 := balloc (balloc (balloc (Below.refl _ w) (.cells #[.int .i64 r, .slice A 8 c, .slice B 64 d] 25)) (.cells #[.int .i64 k, .int .i64 n, .bool a, .bool b, .bool f] 35)) (.cells #[.int .i64 0, .slice none 0 0, .slice none 0 0] 25)
  generalize hw_w1 : ((w.alloc (.cells #[.int .i64 r, .slice A 8 c, .slice B 64 d] 25)).alloc (.cells #[.int .i64 k, .int .i64 n, .bool a, .bool b, .bool f] 35)).alloc (.cells #[.int .i64 0, .slice none 0 0, .slice none 0 0] 25) = w1 at *
  obtain ⟨cT, fT, lT⟩ := kT.facts
  obtain ⟨cX, fX, lX⟩ := kX.facts
  obtain ⟨cR, fR, lR⟩ := kR.facts
  rw [h1] at hA
  rw [h2] at hB
  have HA := Lib.hid h1
  have HB := Lib.hid h2
  clear h1 h2
  go_enter Tryd.func30, Tryd.ntmps30
  go_wp2_with fail
  refine (rLacks_any r ls es _ page _ (hv.to hB1) hs).mono ?_
  rw [hlk]
  rintro e w2 ⟨rfl, hb2⟩
  clear hw_w1
  replace kT := kT.to hb2
  replace kX := kX.to hb2
  replace kR := kR.to hb2
  clear cT fT lT cX fX lX cR fR lR
  obtain ⟨cT, fT, lT⟩ := kT.facts
  obtain ⟨cX, fX, lX⟩ := kX.facts
  obtain ⟨cR, fR, lR⟩ := kR.facts
  replace hB1 := bnext hB1 hb2
  go_wp2_with fail
  refine (rPack_any k n a b f _).mono ?_
  rw [hpk]
  rintro e w3 ⟨rfl, hb3⟩
  replace kT := kT.to hb3
  replace kX := kX.to hb3
  replace kR := kR.to hb3
  clear cT fT lT cX fX lX cR fR lR
  obtain ⟨cT, fT, lT⟩ := kT.facts
  obtain ⟨cX, fX, lX⟩ := kX.facts
  obtain ⟨cR, fR, lR⟩ := kR.facts
  replace hB1 := bnext hB1 hb3
  have HO : Hid (∀ W, Rd W 1 A 8 (iw ls) → Rd W 1 B 64 (uw es) → Calls Tryd.prog 56 #[.agg #[.int .i64 r, .slice A 8 c, .slice B 64 d]] W fun e w' => ∃ gA cA gB cB, e = .returned (.agg #[.int .i64 r, .slice (some ⟨gA, 0, none⟩) 8 cA, .slice (some ⟨gB, 0, none⟩) 64 cB]) ∧ Own2 w' W.heap.size gA cA gB cB ls es ∧ Below W.heap.size W w') := Lib.hid (fun W q1 q2 => by
    have := rOwn2_any r ls es A B c d W (by rw [HA.out]; exact q1) (by rw [HB.out]; exact q2) HA.out HB.out
    rw [HA.out, HB.out] at this
    exact this)
  have hn : (lk = true ∧ (k != 0) = false) ∨ lk = false := by cases lk with | true => exact Or.inl ⟨rfl, hd rfl⟩ | false => exact Or.inr rfl
  clear hd hlk
  rcases hn with ⟨rfl, hd⟩ | rfl
  all_goals
  
    go_wp2_with fail
    refine (HO.out _ (hA.below hB1 (Nat.le_refl _)) (hB.below hB1 (Nat.le_refl _))).mono ?_
    rintro e w4 ⟨gA, cA, gB, cB, rfl, hO, hb4⟩
    replace kR := kR.to hb4
    replace kT := kT.to hb4
    have hsz := hB1.size
    have hs4 := hb4.size
    have hltR := lR
    clear cT fT lT cX fX lX cR fR lR
    replace hB1 := bnext hB1 hb4
    go_upto_region 10 with fail
    have kO := Bk.new w4 #[.int .i64 r, .slice (some ⟨gA, 0, none⟩) 8 cA, .slice (some ⟨gB, 0, none⟩) 64 cB] 25
    replace kR := kR.alloc (.cells #[.int .i64 r, .slice (some ⟨gA, 0, none⟩) 8 cA, .slice (some ⟨gB, 0, none⟩) 64 cB] 25)
    replace kT := kT.alloc (.cells #[.int .i64 r, .slice (some ⟨gA, 0, none⟩) 8 cA, .slice (some ⟨gB, 0, none⟩) 64 cB] 25)
    replace hB1 := balloc hB1 (.cells #[.int .i64 r, .slice (some ⟨gA, 0, none⟩) 8 cA, .slice (some ⟨gB, 0, none⟩) 64 cB] 25)
    have hlt := hO.lt
    replace hO := hO.alloc (.cells #[.int .i64 r, .slice (some ⟨gA, 0, none⟩) 8 cA, .slice (some ⟨gB, 0, none⟩) 64 cB] 25)
    generalize w4.alloc (.cells #[.int .i64 r, .slice (some ⟨gA, 0, none⟩) 8 cA, .slice (some ⟨gB, 0, none⟩) 64 cB] 25) = wO at *
    obtain ⟨cO, fO, lO⟩ := kO.facts
    have hlt := hO.lt
    obtain ⟨cE, fE⟩ := hO.entryAt page hp
    go_upto_region 11 with fail
    replace kO := kO.far (p := ⟨gB, page, none⟩) (by show _ ≠ _; simp only; omega) (.int .u64 (x : Int))
    replace kR := kR.far (p := ⟨gB, page, none⟩) (by show _ ≠ _; simp only; omega) (.int .u64 (x : Int))
    replace hB1 := hB1.setCell (p := ⟨gB, page, none⟩) (by show _ ≤ _; simp only; omega) (.int .u64 (x : Int))
    replace hO := hO.entry page x
    clear cO fO lO cE fE
    generalize wO.setCell ⟨gB, page, none⟩ (.int .u64 (x : Int)) = wS at *
    obtain ⟨cO, fO, lO⟩ := kO.facts
    obtain ⟨cR, fR, lR⟩ := kR.facts
    go_wp2_with fail
    have kF := kR.put3 (.int .i64 r) (.slice (some ⟨gA, 0, none⟩) 8 cA) (.slice (some ⟨gB, 0, none⟩) 64 cB)
    have hBF := below_put3 hB1 (g := w.heap.size + 1 + 1) (by omega) (.int .i64 r) (.slice (some ⟨gA, 0, none⟩) 8 cA) (.slice (some ⟨gB, 0, none⟩) 64 cB)
    have hOF := ((hO.far (p := ⟨w.heap.size + 1 + 1, 0, none⟩) (by show _ < _; simp only; omega) (.int .i64 r)).far (p := ⟨w.heap.size + 1 + 1, 1, none⟩) (by show _ < _; simp only; omega) (.slice (some ⟨gA, 0, none⟩) 8 cA)).far (p := ⟨w.heap.size + 1 + 1, 2, none⟩) (by show _ < _; simp only; omega) (.slice (some ⟨gB, 0, none⟩) 64 cB)
    exact bodyPost_ret (kF.res2 (P := Tryd.prog) rfl _ rfl (by kernel_rfl) (by kernel_rfl)) rfl ⟨_, rfl, hOF.tbv r, hOF.tloc r (by omega), hBF⟩

theorem rPut_any (r : Int) (ls : List Int) (es : List Nat) (v : Value) (page k n : Int) (a b f : Bool) (w : World) (hv : TbV w v (r, ls, es)) (hs : wsmall es) :
    Calls Tryd.prog 30 #[v, .int .i64 page, .agg #[.int .i64 k, .int .i64 n, .bool a, .bool b, .bool f]] w fun e w' => TbRes w w' (putR r ls es page k n a b f).1 (putR r ls es page k n a b f).2 e := by
  by_cases hE : askE r ls es page = 0
  · obtain ⟨h1, p, rfl, hp⟩ := ask_zero hE
    by_cases hP : (packR k n a b f).2 = 0
    · by_cases hl : ls.getD (p / 8) 0 = -1 ∧ k ≠ 0
      · have e1 : putR r ls es p k n a b f = (tb0, 9) := by
          have : putE r ls es p k n a b f = 9 := by unfold putE; rw [orE_r _ hE, orE_r _ hP, Int.toNat_natCast, if_pos hl]
          unfold putR
          rw [if_pos (by omega), this]
        rw [e1]
        exact rPut_bad3 r ls es v p k n a b f w hv hs hE hP (by rw [Int.toNat_natCast]; exact hl.1) hl.2
      · obtain ⟨x, hx, hx2⟩ := packR_nat k n a b f hP
        have e1 : putR r ls es p k n a b f = ((r, ls, es.set p x), 0) := by
          have : putE r ls es p k n a b f = 0 := by unfold putE; rw [orE_r _ hE, orE_r _ hP, Int.toNat_natCast, if_neg hl]
          unfold putR
          rw [if_neg (by omega), hx, Int.toNat_natCast, Int.toNat_natCast]
        rw [e1]
        exact rPut_ok r ls es v p k n a b f w hv hs h1 hp x (Prod.ext hx hP) hl
    · have e1 : putR r ls es p k n a b f = (tb0, (packR k n a b f).2) := by
        have : putE r ls es p k n a b f = (packR k n a b f).2 := by unfold putE; rw [orE_r _ hE, orE_l _ hP]
        unfold putR
        rw [if_pos (by rw [this]; exact hP), this]
      rw [e1]
      exact rPut_bad2 r ls es v p k n a b f w hv hs hE hP
  · have e1 : putR r ls es page k n a b f = (tb0, askE r ls es page) := by
      have : putE r ls es page k n a b f = askE r ls es page := by unfold putE; rw [orE_l _ hE]
      unfold putR
      rw [if_pos (by rw [this]; exact hE), this]
    rw [e1]
    exact rPut_bad1 r ls es v page k n a b f w hv hs hE

set_option maxHeartbeats 1000000 in
theorem rSetLeaf_bad1 (r : Int) (ls : List Int) (es : List Nat) (v : Value) (leaf frame : Int) (w : World) (hv : TbV w v (r, ls, es)) (hs : wsmall es) (hE : tabE r ls es ≠ 0) :
    Calls Tryd.prog 32 #[v, .int .i64 leaf, .int .i64 frame] w fun e w' => TbRes w w' tb0 (tabE r ls es) e := by
  have hd : (tabE r ls es != 0) = true := by simpa using hE
  clear hE
  obtain ⟨A, c, B, d, rfl, hA, hB, hcc⟩ := id hv
  simp only at hA hB hcc
  unfold tabV at hv ⊢
  simp only at hv ⊢
  have kT := (Bk.new (w) #[.int .i64 r, .slice A ls.length c, .slice B es.length d] 25).alloc (.cells #[.int .i64 0, .slice none 0 0, .slice none 0 0] 25)
  have kR := Bk.new (w.alloc (.cells #[.int .i64 r, .slice A ls.length c, .slice B es.length d] 25)) #[.int .i64 0, .slice none 0 0, .slice none 0 0] 25
  simp only [World.size_alloc] at kR
  have hB1 := balloc (balloc (Below.refl _ w) (.cells #[.int .i64 r, .slice A ls.length c, .slice B es.length d] 25)) (.cells #[.int .i64 0, .slice none 0 0, .slice none 0 0] 25)
  generalize hw_w1 : (w.alloc (.cells #[.int .i64 r, .slice A ls.length c, .slice B es.length d] 25)).alloc (.cells #[.int .i64 0, .slice none 0 0, .slice none 0 0] 25) = w1 at *
  obtain ⟨cT, fT, lT⟩ := kT.facts
  obtain ⟨cR, fR, lR⟩ := kR.facts
  go_enter Tryd.func32, Tryd.ntmps32
  go_wp2_with fail
  refine (rTCheck_any r ls es _ _ (hv.to hB1) hs).mono ?_
  rintro e w2 ⟨rfl, hb2⟩
  clear hw_w1
  replace kT := kT.to hb2
  replace kR := kR.to hb2
  clear cT fT lT cR fR lR
  obtain ⟨cT, fT, lT⟩ := kT.facts
  obtain ⟨cR, fR, lR⟩ := kR.facts
  replace hB1 := bnext hB1 hb2
  go_wp2_with fail
  have kF := kR.put3 (.int .i64 0) (.slice none 0 0) (.slice none 0 0)
  have hBF := below_put3 (hB1) (g := w.heap.size + 1) (by omega) (.int .i64 0) (.slice none 0 0) (.slice none 0 0)
  exact bodyPost_ret (kF.res2 (P := Tryd.prog) rfl _ rfl (by kernel_rfl) (by kernel_rfl)) rfl ⟨_, rfl, TbV.zero _, TLoc.zero _ _, hBF⟩

set_option maxHeartbeats 1000000 in
theorem rSetLeaf_bad2 (r : Int) (ls : List Int) (es : List Nat) (v : Value) (leaf frame : Int) (w : World) (hv : TbV w v (r, ls, es)) (hs : wsmall es) (hE : tabE r ls es = 0) (hR : leaf < 0 ∨ 8 ≤ leaf ∨ frame < 0 ∨ 256 ≤ frame) :
    Calls Tryd.prog 32 #[v, .int .i64 leaf, .int .i64 frame] w fun e w' => TbRes w w' tb0 2 e := by
  obtain ⟨A, c, B, d, rfl, hA, hB, hcc⟩ := id hv
  simp only at hA hB hcc
  unfold tabV at hv ⊢
  simp only at hv ⊢
  have kT := (Bk.new (w) #[.int .i64 r, .slice A ls.length c, .slice B es.length d] 25).alloc (.cells #[.int .i64 0, .slice none 0 0, .slice none 0 0] 25)
  have kR := Bk.new (w.alloc (.cells #[.int .i64 r, .slice A ls.length c, .slice B es.length d] 25)) #[.int .i64 0, .slice none 0 0, .slice none 0 0] 25
  simp only [World.size_alloc] at kR
  have hB1 := balloc (balloc (Below.refl _ w) (.cells #[.int .i64 r, .slice A ls.length c, .slice B es.length d] 25)) (.cells #[.int .i64 0, .slice none 0 0, .slice none 0 0] 25)
  generalize hw_w1 : (w.alloc (.cells #[.int .i64 r, .slice A ls.length c, .slice B es.length d] 25)).alloc (.cells #[.int .i64 0, .slice none 0 0, .slice none 0 0] 25) = w1 at *
  obtain ⟨cT, fT, lT⟩ := kT.facts
  obtain ⟨cR, fR, lR⟩ := kR.facts
  go_enter Tryd.func32, Tryd.ntmps32
  go_wp2_with fail
  refine (rTCheck_any r ls es _ _ (hv.to hB1) hs).mono ?_
  rw [hE]
  rintro e w2 ⟨rfl, hb2⟩
  clear hw_w1
  replace kT := kT.to hb2
  replace kR := kR.to hb2
  clear cT fT lT cR fR lR
  obtain ⟨cT, fT, lT⟩ := kT.facts
  obtain ⟨cR, fR, lR⟩ := kR.facts
  replace hB1 := bnext hB1 hb2
  go_wp2_with fail
  all_goals try (exfalso; omega)
  all_goals
    have kF := kR.put3 (.int .i64 0) (.slice none 0 0) (.slice none 0 0)
    have hBF := below_put3 (hB1) (g := w.heap.size + 1) (by omega) (.int .i64 0) (.slice none 0 0) (.slice none 0 0)
    exact bodyPost_ret (kF.res2 (P := Tryd.prog) rfl _ rfl (by kernel_rfl) (by kernel_rfl)) rfl ⟨_, rfl, TbV.zero _, TLoc.zero _ _, hBF⟩

set_option maxHeartbeats 1000000 in
theorem rSetLeaf_bad3 (r : Int) (ls : List Int) (es : List Nat) (v : Value) (leaf frame : Int) (w : World) (hv : TbV w v (r, ls, es)) (hs : wsmall es) (hE : tabE r ls es = 0) (hR : ¬ (leaf < 0 ∨ 8 ≤ leaf ∨ frame < 0 ∨ 256 ≤ frame)) (hr : r = -1) :
    Calls Tryd.prog 32 #[v, .int .i64 leaf, .int .i64 frame] w fun e w' => TbRes w w' tb0 9 e := by
  have hd1 : decide (leaf < 0) = false := by simp; omega
  have hd2 : decide (8 ≤ leaf) = false := by simp; omega
  have hd3 : decide (frame < 0) = false := by simp; omega
  have hd4 : decide (256 ≤ frame) = false := by simp; omega
  subst hr
  obtain ⟨A, c, B, d, rfl, hA, hB, hcc⟩ := id hv
  simp only at hA hB hcc
  unfold tabV at hv ⊢
  simp only at hv ⊢
  have kT := (Bk.new (w) #[.int .i64 (-1), .slice A ls.length c, .slice B es.length d] 25).alloc (.cells #[.int .i64 0, .slice none 0 0, .slice none 0 0] 25)
  have kR := Bk.new (w.alloc (.cells #[.int .i64 (-1), .slice A ls.length c, .slice B es.length d] 25)) #[.int .i64 0, .slice none 0 0, .slice none 0 0] 25
  simp only [World.size_alloc] at kR
  have hB1 := balloc (balloc (Below.refl _ w) (.cells #[.int .i64 (-1), .slice A ls.length c, .slice B es.length d] 25)) (.cells #[.int .i64 0, .slice none 0 0, .slice none 0 0] 25)
  generalize hw_w1 : (w.alloc (.cells #[.int .i64 (-1), .slice A ls.length c, .slice B es.length d] 25)).alloc (.cells #[.int .i64 0, .slice none 0 0, .slice none 0 0] 25) = w1 at *
  obtain ⟨cT, fT, lT⟩ := kT.facts
  obtain ⟨cR, fR, lR⟩ := kR.facts
  go_enter Tryd.func32, Tryd.ntmps32
  go_wp2_with fail
  refine (rTCheck_any (-1) ls es _ _ (hv.to hB1) hs).mono ?_
  rw [hE]
  rintro e w2 ⟨rfl, hb2⟩
  clear hw_w1
  replace kT := kT.to hb2
  replace kR := kR.to hb2
  clear cT fT lT cR fR lR
  obtain ⟨cT, fT, lT⟩ := kT.facts
  obtain ⟨cR, fR, lR⟩ := kR.facts
  replace hB1 := bnext hB1 hb2
  clear hR
  go_wp2_with fail
  have kF := kR.put3 (.int .i64 0) (.slice none 0 0) (.slice none 0 0)
  have hBF := below_put3 (hB1) (g := w.heap.size + 1) (by omega) (.int .i64 0) (.slice none 0 0) (.slice none 0 0)
  exact bodyPost_ret (kF.res2 (P := Tryd.prog) rfl _ rfl (by kernel_rfl) (by kernel_rfl)) rfl ⟨_, rfl, TbV.zero _, TLoc.zero _ _, hBF⟩

set_option maxHeartbeats 2000000 in
theorem rSetLeaf_bad4 (r : Int) (ls : List Int) (es : List Nat) (v : Value) (leaf : Nat) (frame : Int) (w : World) (hv : TbV w v (r, ls, es)) (hs : wsmall es) (hE : tabE r ls es = 0) (hl : leaf < 8) (hf : 0 ≤ frame ∧ frame < 256) (hr : r ≠ -1) (hx : ls.getD leaf 0 ≠ -1) :
    Calls Tryd.prog 32 #[v, .int .i64 leaf, .int .i64 frame] w fun e w' => TbRes w w' tb0 7 e := by
  obtain ⟨h1, h2, hR, hLs, _⟩ := tab_zero hE
  have hd1 : decide ((leaf : Int) < 0) = false := by simp
  have hd2 : decide (8 ≤ (leaf : Int)) = false := by simp; omega
  have hd3 : decide (frame < 0) = false := by simp; omega
  have hd4 : decide (256 ≤ frame) = false := by simp; omega
  have hd5 : decide (r < 0) = false := by simp; omega
  have hzz := (hLs leaf hl).1
  clear hLs
  obtain ⟨A, c, B, d, rfl, hA, hB, hcc⟩ := id hv
  simp only at hA hB hcc
  unfold tabV at hv ⊢
  simp only at hv ⊢
  rw [h1, h2] at hv ⊢
  have kT := (Bk.new (w) #[.int .i64 r, .slice A 8 c, .slice B 64 d] 25).alloc (.cells #[.int .i64 0, .slice none 0 0, .slice none 0 0] 25)
  have kR := Bk.new (w.alloc (.cells #[.int .i64 r, .slice A 8 c, .slice B 64 d] 25)) #[.int .i64 0, .slice none 0 0, .slice none 0 0] 25
  simp only [World.size_alloc] at kR
  have hB1 := balloc (balloc (Below.refl _ w) (.cells #[.int .i64 r, .slice A 8 c, .slice B 64 d] 25)) (.cells #[.int .i64 0, .slice none 0 0, .slice none 0 0] 25)
  generalize hw_w1 : (w.alloc (.cells #[.int .i64 r, .slice A 8 c, .slice B 64 d] 25)).alloc (.cells #[.int .i64 0, .slice none 0 0, .slice none 0 0] 25) = w1 at *
  obtain ⟨cT, fT, lT⟩ := kT.facts
  obtain ⟨cR, fR, lR⟩ := kR.facts
  rw [h1] at hA
  rw [h2] at hB
  have HA := Lib.hid h1
  have HB := Lib.hid h2
  clear h1 h2
  go_enter Tryd.func32, Tryd.ntmps32
  go_wp2_with fail
  refine (rTCheck_any r ls es _ _ (hv.to hB1) hs).mono ?_
  rw [hE]
  rintro e w2 ⟨rfl, hb2⟩
  clear hw_w1
  replace kT := kT.to hb2
  replace kR := kR.to hb2
  clear cT fT lT cR fR lR
  obtain ⟨cT, fT, lT⟩ := kT.facts
  obtain ⟨cR, fR, lR⟩ := kR.facts
  replace hB1 := bnext hB1 hb2
  obtain ⟨gl, ol, z, rfl, hgl, hz, hcl⟩ := (hA.below hB1 (Nat.le_refl _)).numb hl
  rw [hz] at hzz
  rw [hz] at hx
  have hd6 : decide (0 ≤ z) = true := by simp; omega
  clear hx hz hzz
  go_wp2_with fail
  have kF := kR.put3 (.int .i64 0) (.slice none 0 0) (.slice none 0 0)
  have hBF := below_put3 (hB1) (g := w.heap.size + 1) (by omega) (.int .i64 0) (.slice none 0 0) (.slice none 0 0)
  exact bodyPost_ret (kF.res2 (P := Tryd.prog) rfl _ rfl (by kernel_rfl) (by kernel_rfl)) rfl ⟨_, rfl, TbV.zero _, TLoc.zero _ _, hBF⟩

set_option maxHeartbeats 2000000 in
theorem rSetLeaf_bad5 (r : Int) (ls : List Int) (es : List Nat) (v : Value) (leaf : Nat) (frame : Int) (w : World) (hv : TbV w v (r, ls, es)) (hs : wsmall es) (hE : tabE r ls es = 0) (hl : leaf < 8) (hf : 0 ≤ frame ∧ frame < 256) (hr : r ≠ -1) (hx : ls.getD leaf 0 = -1) (hu : usesB r ls 8 frame = true) :
    Calls Tryd.prog 32 #[v, .int .i64 leaf, .int .i64 frame] w fun e w' => TbRes w w' tb0 7 e := by
  obtain ⟨h1, h2, hR, hLs, _⟩ := tab_zero hE
  have hd1 : decide ((leaf : Int) < 0) = false := by simp
  have hd2 : decide (8 ≤ (leaf : Int)) = false := by simp; omega
  have hd3 : decide (frame < 0) = false := by simp; omega
  have hd4 : decide (256 ≤ frame) = false := by simp; omega
  have hd5 : decide (r < 0) = false := by simp; omega
  have hzz := (hLs leaf hl).1
  clear hLs
  obtain ⟨A, c, B, d, rfl, hA, hB, hcc⟩ := id hv
  simp only at hA hB hcc
  unfold tabV at hv ⊢
  simp only at hv ⊢
  rw [h1, h2] at hv ⊢
  have kT := (Bk.new (w) #[.int .i64 r, .slice A 8 c, .slice B 64 d] 25).alloc (.cells #[.int .i64 0, .slice none 0 0, .slice none 0 0] 25)
  have kR := Bk.new (w.alloc (.cells #[.int .i64 r, .slice A 8 c, .slice B 64 d] 25)) #[.int .i64 0, .slice none 0 0, .slice none 0 0] 25
  simp only [World.size_alloc] at kR
  have hB1 := balloc (balloc (Below.refl _ w) (.cells #[.int .i64 r, .slice A 8 c, .slice B 64 d] 25)) (.cells #[.int .i64 0, .slice none 0 0, .slice none 0 0] 25)
  generalize hw_w1 : (w.alloc (.cells #[.int .i64 r, .slice A 8 c, .slice B 64 d] 25)).alloc (.cells #[.int .i64 0, .slice none 0 0, .slice none 0 0] 25) = w1 at *
  obtain ⟨cT, fT, lT⟩ := kT.facts
  obtain ⟨cR, fR, lR⟩ := kR.facts
  rw [h1] at hA
  rw [h2] at hB
  have HA := Lib.hid h1
  have HB := Lib.hid h2
  clear h1 h2
  go_enter Tryd.func32, Tryd.ntmps32
  go_wp2_with fail
  refine (rTCheck_any r ls es _ _ (hv.to hB1) hs).mono ?_
  rw [hE]
  rintro e w2 ⟨rfl, hb2⟩
  clear hw_w1
  replace kT := kT.to hb2
  replace kR := kR.to hb2
  clear cT fT lT cR fR lR
  obtain ⟨cT, fT, lT⟩ := kT.facts
  obtain ⟨cR, fR, lR⟩ := kR.facts
  replace hB1 := bnext hB1 hb2
  obtain ⟨gl, ol, z, rfl, hgl, hz, hcl⟩ := (hA.below hB1 (Nat.le_refl _)).numb hl
  rw [hz] at hzz
  rw [hz] at hx
  have hd6 : decide (0 ≤ z) = false := by simp; omega
  clear hz hzz hx
  have HU : Hid (∀ W, Rd W 1 (some ⟨gl, ol, none⟩) 8 (iw ls) → Calls Tryd.prog 49 #[.agg #[.int .i64 r, .slice (some ⟨gl, ol, none⟩) 8 c, .slice B 64 d], .int .i64 8, .int .i64 frame] W fun e w' => e = .returned (.bool (usesB r ls 8 frame)) ∧ Below W.heap.size W w') := Lib.hid (fun W q => by
    have := rUses_any r ls (some ⟨gl, ol, none⟩) B c 64 d 8 frame W (by rw [HA.out]; exact q) (by rw [HA.out]; omega) (by rw [HA.out]; omega)
    rw [HA.out] at this
    exact this)
  go_wp2_with (first | (go_at_call 49; refine (HU.out _ (hA.below hB1 (Nat.le_refl _))).mono ?_; rw [hu]; rintro e w3 ⟨rfl, hb3⟩; replace kR := kR.to hb3; replace kT := kT.to hb3; clear cT fT lT cR fR lR; obtain ⟨cT, fT, lT⟩ := kT.facts; obtain ⟨cR, fR, lR⟩ := kR.facts; replace hB1 := bnext hB1 hb3))
  have kF := kR.put3 (.int .i64 0) (.slice none 0 0) (.slice none 0 0)
  have hBF := below_put3 (hB1) (g := w.heap.size + 1) (by omega) (.int .i64 0) (.slice none 0 0) (.slice none 0 0)
  exact bodyPost_ret (kF.res2 (P := Tryd.prog) rfl _ rfl (by kernel_rfl) (by kernel_rfl)) rfl ⟨_, rfl, TbV.zero _, TLoc.zero _ _, hBF⟩

set_option maxHeartbeats 2000000 in
theorem rSetLeaf_ok (r : Int) (ls : List Int) (es : List Nat) (v : Value) (leaf : Nat) (frame : Int) (w : World) (hv : TbV w v (r, ls, es)) (hs : wsmall es) (hE : tabE r ls es = 0) (hl : leaf < 8) (hf : 0 ≤ frame ∧ frame < 256) (hr : r ≠ -1) (hx : ls.getD leaf 0 = -1) (hu : usesB r ls 8 frame = false) :
    Calls Tryd.prog 32 #[v, .int .i64 leaf, .int .i64 frame] w fun e w' => TbRes w w' (r, ls.set leaf frame, es) 0 e := by
  obtain ⟨h1, h2, hR, hLs, _⟩ := tab_zero hE
  have hd1 : decide ((leaf : Int) < 0) = false := by simp
  have hd2 : decide (8 ≤ (leaf : Int)) = false := by simp; omega
  have hd3 : decide (frame < 0) = false := by simp; omega
  have hd4 : decide (256 ≤ frame) = false := by simp; omega
  have hd5 : decide (r < 0) = false := by simp; omega
  have hzz := (hLs leaf hl).1
  clear hLs
  obtain ⟨A, c, B, d, rfl, hA, hB, hcc⟩ := id hv
  simp only at hA hB hcc
  unfold tabV at hv ⊢
  simp only at hv ⊢
  rw [h1, h2] at hv ⊢
  have kT := (Bk.new (w) #[.int .i64 r, .slice A 8 c, .slice B 64 d] 25).alloc (.cells #[.int .i64 0, .slice none 0 0, .slice none 0 0] 25)
  have kR := Bk.new (w.alloc (.cells #[.int .i64 r, .slice A 8 c, .slice B 64 d] 25)) #[.int .i64 0, .slice none 0 0, .slice none 0 0] 25
  simp only [World.size_alloc] at kR
  have hB1 := balloc (balloc (Below.refl _ w) (.cells #[.int .i64 r, .slice A 8 c, .slice B 64 d] 25)) (.cells #[.int .i64 0, .slice none 0 0, .slice none 0 0] 25)
  generalize hw_w1 : (w.alloc (.cells #[.int .i64 r, .slice A 8 c, .slice B 64 d] 25)).alloc (.cells #[.int .i64 0, .slice none 0 0, .slice none 0 0] 25) = w1 at *
  obtain ⟨cT, fT, lT⟩ := kT.facts
  obtain ⟨cR, fR, lR⟩ := kR.facts
  rw [h1] at hA
  rw [h2] at hB
  have HA := Lib.hid h1
  have HB := Lib.hid h2
  clear h1 h2
  go_enter Tryd.func32, Tryd.ntmps32
  go_wp2_with fail
  refine (rTCheck_any r ls es _ _ (hv.to hB1) hs).mono ?_
  rw [hE]
  rintro e w2 ⟨rfl, hb2⟩
  clear hw_w1
  replace kT := kT.to hb2
  replace kR := kR.to hb2
  clear cT fT lT cR fR lR
  obtain ⟨cT, fT, lT⟩ := kT.facts
  obtain ⟨cR, fR, lR⟩ := kR.facts
  replace hB1 := bnext hB1 hb2
  obtain ⟨gl, ol, z, rfl, hgl, hz, hcl⟩ := (hA.below hB1 (Nat.le_refl _)).numb hl
  rw [hz] at hzz
  rw [hz] at hx
  have hd6 : decide (0 ≤ z) = false := by simp; omega
  clear hz hzz hx
  have HU : Hid (∀ W, Rd W 1 (some ⟨gl, ol, none⟩) 8 (iw ls) → Calls Tryd.prog 49 #[.agg #[.int .i64 r, .slice (some ⟨gl, ol, none⟩) 8 c, .slice B 64 d], .int .i64 8, .int .i64 frame] W fun e w' => e = .returned (.bool (usesB r ls 8 frame)) ∧ Below W.heap.size W w') := Lib.hid (fun W q => by
    have := rUses_any r ls (some ⟨gl, ol, none⟩) B c 64 d 8 frame W (by rw [HA.out]; exact q) (by rw [HA.out]; omega) (by rw [HA.out]; omega)
    rw [HA.out] at this
    exact this)
  have HO : Hid (∀ W, Rd W 1 (some ⟨gl, ol, none⟩) 8 (iw ls) → Rd W 1 B 64 (uw es) → Calls Tryd.prog 56 #[.agg #[.int .i64 r, .slice (some ⟨gl, ol, none⟩) 8 c, .slice B 64 d]] W fun e w' => ∃ gA cA gB cB, e = .returned (.agg #[.int .i64 r, .slice (some ⟨gA, 0, none⟩) 8 cA, .slice (some ⟨gB, 0, none⟩) 64 cB]) ∧ Own2 w' W.heap.size gA cA gB cB ls es ∧ Below W.heap.size W w') := Lib.hid (fun W q1 q2 => by
    have := rOwn2_any r ls es (some ⟨gl, ol, none⟩) B c d W (by rw [HA.out]; exact q1) (by rw [HB.out]; exact q2) HA.out HB.out
    rw [HA.out, HB.out] at this
    exact this)
  go_upto_region 10 with (first | (go_at_call 49; refine (HU.out _ (hA.below hB1 (Nat.le_refl _))).mono ?_; rw [hu]; rintro e w3 ⟨rfl, hb3⟩; replace kR := kR.to hb3; replace kT := kT.to hb3; clear cT fT lT cR fR lR; obtain ⟨cT, fT, lT⟩ := kT.facts; obtain ⟨cR, fR, lR⟩ := kR.facts; replace hB1 := bnext hB1 hb3))
  go_wp2_with fail
  refine (HO.out _ (hA.below hB1 (Nat.le_refl _)) (hB.below hB1 (Nat.le_refl _))).mono ?_
  rintro e w4 ⟨gA, cA, gB, cB, rfl, hO, hb4⟩
  replace kR := kR.to hb4
  replace kT := kT.to hb4
  have hsz := hB1.size
  have hs4 := hb4.size
  have hltR := lR
  clear cT fT lT cR fR lR
  replace hB1 := bnext hB1 hb4
  go_upto_region 11 with fail
  have kO := Bk.new w4 #[.int .i64 r, .slice (some ⟨gA, 0, none⟩) 8 cA, .slice (some ⟨gB, 0, none⟩) 64 cB] 25
  replace kR := kR.alloc (.cells #[.int .i64 r, .slice (some ⟨gA, 0, none⟩) 8 cA, .slice (some ⟨gB, 0, none⟩) 64 cB] 25)
  replace kT := kT.alloc (.cells #[.int .i64 r, .slice (some ⟨gA, 0, none⟩) 8 cA, .slice (some ⟨gB, 0, none⟩) 64 cB] 25)
  replace hB1 := balloc hB1 (.cells #[.int .i64 r, .slice (some ⟨gA, 0, none⟩) 8 cA, .slice (some ⟨gB, 0, none⟩) 64 cB] 25)
  have hlt := hO.lt
  replace hO := hO.alloc (.cells #[.int .i64 r, .slice (some ⟨gA, 0, none⟩) 8 cA, .slice (some ⟨gB, 0, none⟩) 64 cB] 25)
  generalize w4.alloc (.cells #[.int .i64 r, .slice (some ⟨gA, 0, none⟩) 8 cA, .slice (some ⟨gB, 0, none⟩) 64 cB] 25) = wO at *
  obtain ⟨cO, fO, lO⟩ := kO.facts
  obtain ⟨cE, fE⟩ := hO.leafAt leaf hl
  go_upto_region 12 with fail
  replace kO := kO.far (p := ⟨gA, leaf, none⟩) (by show _ ≠ _; simp only; omega) (.int .i64 frame)
  replace kR := kR.far (p := ⟨gA, leaf, none⟩) (by show _ ≠ _; simp only; omega) (.int .i64 frame)
  replace hB1 := hB1.setCell (p := ⟨gA, leaf, none⟩) (by show _ ≤ _; simp only; omega) (.int .i64 frame)
  replace hO := hO.leaf leaf frame
  clear cO fO lO cE fE
  generalize wO.setCell ⟨gA, leaf, none⟩ (.int .i64 frame) = wS at *
  obtain ⟨cO, fO, lO⟩ := kO.facts
  obtain ⟨cR, fR, lR⟩ := kR.facts
  go_wp2_with fail
  have kF := kR.put3 (.int .i64 r) (.slice (some ⟨gA, 0, none⟩) 8 cA) (.slice (some ⟨gB, 0, none⟩) 64 cB)
  have hBF := below_put3 hB1 (g := w.heap.size + 1) (by omega) (.int .i64 r) (.slice (some ⟨gA, 0, none⟩) 8 cA) (.slice (some ⟨gB, 0, none⟩) 64 cB)
  have hOF := ((hO.far (p := ⟨w.heap.size + 1, 0, none⟩) (by show _ < _; simp only; omega) (.int .i64 r)).far (p := ⟨w.heap.size + 1, 1, none⟩) (by show _ < _; simp only; omega) (.slice (some ⟨gA, 0, none⟩) 8 cA)).far (p := ⟨w.heap.size + 1, 2, none⟩) (by show _ < _; simp only; omega) (.slice (some ⟨gB, 0, none⟩) 64 cB)
  exact bodyPost_ret (kF.res2 (P := Tryd.prog) rfl _ rfl (by kernel_rfl) (by kernel_rfl)) rfl ⟨_, rfl, hOF.tbv r, hOF.tloc r (by omega), hBF⟩

theorem uses_mem (r : Int) (ls : List Int) (f : Int) (h : ls.length = 8) : usesB r ls 8 f = true ↔ (f = r ∨ f ∈ ls) := by
  rw [usesB_iff]
  constructor
  · rintro (h1 | ⟨j, hj, h1⟩)
    · exact .inl h1.symm
    · rw [List.getD_eq_getElem?_getD, List.getElem?_eq_getElem (by omega)] at h1
      refine .inr ?_
      rw [← h1]
      simp
  · rintro (h1 | h1)
    · exact .inl h1.symm
    · obtain ⟨j, hj, h2⟩ := List.getElem_of_mem h1
      refine .inr ⟨j, by omega, ?_⟩
      rw [List.getD_eq_getElem?_getD, List.getElem?_eq_getElem hj]
      exact h2
theorem leafR_of (r : Int) (ls : List Int) (es : List Nat) (leaf frame : Int) (x : Int) (h : leafE r ls es leaf frame = x) (hx : x ≠ 0) : leafR r ls es leaf frame = (tb0, x) := by
  unfold leafR
  rw [if_pos (by rw [h]; exact hx), h]
theorem rSetLeaf_any (r : Int) (ls : List Int) (es : List Nat) (v : Value) (leaf frame : Int) (w : World) (hv : TbV w v (r, ls, es)) (hs : wsmall es) :
    Calls Tryd.prog 32 #[v, .int .i64 leaf, .int .i64 frame] w fun e w' => TbRes w w' (leafR r ls es leaf frame).1 (leafR r ls es leaf frame).2 e := by
  by_cases hE : tabE r ls es = 0
  · obtain ⟨hl8, _⟩ := tab_zero hE
    by_cases hR : leaf < 0 ∨ 8 ≤ leaf ∨ frame < 0 ∨ 256 ≤ frame
    · rw [leafR_of r ls es leaf frame 2 (by unfold leafE; rw [orE_r _ hE, if_pos hR]) (by decide)]
      exact rSetLeaf_bad2 r ls es v leaf frame w hv hs hE hR
    · by_cases hr : r = -1
      · rw [leafR_of r ls es leaf frame 9 (by unfold leafE; rw [orE_r _ hE, if_neg hR, if_pos hr]) (by decide)]
        exact rSetLeaf_bad3 r ls es v leaf frame w hv hs hE hR hr
      · obtain ⟨q, rfl⟩ : ∃ q : Nat, leaf = q := ⟨leaf.toNat, by omega⟩
        by_cases hx : ls.getD q 0 = -1
        · rcases hu : usesB r ls 8 frame with _ | _
          · have hn : ¬ (ls.getD q 0 ≠ -1 ∨ frame = r ∨ frame ∈ ls) := by
              rintro (h | h)
              · exact h hx
              · rw [(uses_mem r ls frame hl8).2 h] at hu; cases hu
            have e1 : leafR r ls es q frame = ((r, ls.set q frame, es), 0) := by
              have : leafE r ls es q frame = 0 := by unfold leafE; rw [orE_r _ hE, if_neg hR, if_neg hr, Int.toNat_natCast, if_neg hn]
              unfold leafR
              rw [if_neg (by omega), Int.toNat_natCast]
            rw [e1]
            exact rSetLeaf_ok r ls es v q frame w hv hs hE (by omega) (by omega) hr hx hu
          · rw [leafR_of r ls es q frame 7 (by unfold leafE; rw [orE_r _ hE, if_neg hR, if_neg hr, if_pos (.inr ((uses_mem r ls frame hl8).1 hu))]) (by decide)]
            exact rSetLeaf_bad5 r ls es v q frame w hv hs hE (by omega) (by omega) hr hx hu
        · rw [leafR_of r ls es q frame 7 (by unfold leafE; rw [orE_r _ hE, if_neg hR, if_neg hr, Int.toNat_natCast, if_pos (.inl hx)]) (by decide)]
          exact rSetLeaf_bad4 r ls es v q frame w hv hs hE (by omega) (by omega) hr hx
  · rw [leafR_of r ls es leaf frame _ (by unfold leafE; rw [orE_l _ hE]) hE]
    exact rSetLeaf_bad1 r ls es v leaf frame w hv hs hE
theorem emptyB_no (es : List Nat) (leaf k : Nat) (hk : k < 8) (h : unpK (es.getD (leaf * 8 + k) 0) ≠ 0) : emptyB es leaf = false := by
  rw [Bool.eq_false_iff]
  intro h1
  have := List.all_eq_true.1 h1 k (List.mem_range.2 hk)
  exact h (by simpa using this)
theorem emptyB_yes (es : List Nat) (leaf : Nat) (h : ∀ k, k < 8 → unpK (es.getD (leaf * 8 + k) 0) = 0) : emptyB es leaf = true :=
  List.all_eq_true.2 fun k hk => by simpa using h k (List.mem_range.1 hk)
set_option maxHeartbeats 1000000 in
theorem rEmpty_any (r : Int) (es : List Nat) (A B : Option Addr) (n c d leaf : Nat) (w : World) (hB : Rd w 1 B 64 (uw es)) (hs : wsmall es) (hl : leaf < 8) :
    Calls Tryd.prog 61 #[.agg #[.int .i64 r, .slice A n c, .slice B 64 d], .int .i64 leaf] w fun e w' => e = .returned (.bool (emptyB es leaf)) ∧ Below w.heap.size w w' := by
  have kT := Bk.new w #[.int .i64 r, .slice A n c, .slice B 64 d] 25
  have hB1 := balloc (Below.refl _ w) (.cells #[.int .i64 r, .slice A n c, .slice B 64 d] 25)
  generalize hw1 : w.alloc (.cells #[.int .i64 r, .slice A n c, .slice B 64 d] 25) = w1 at *
  replace hB := hB.below hB1 (Nat.le_refl _)
  go_enter Tryd.func61, Tryd.ntmps61
  go_wp2_with fail
  go_loopw [5] (fun i wr => ∃ k : Nat, k ≤ 8 ∧ i = .int .i64 k ∧ Hid (∀ j, j < k → unpK (es.getD (leaf * 8 + j) 0) = 0) ∧ Below w1.heap.size w1 wr) (fun i _ => 8 - (intOf i).toNat)
  case atStart => exact ⟨0, by omega, rfl, Lib.hid (fun j h => by omega), Below.refl _ _⟩
  case round =>
    obtain ⟨k, hk, rfl, Hno, hBx⟩ := hrel
    obtain ⟨cT, fT, lT⟩ := (kT.to hBx).facts
    by_cases hlt : k < 8
    · obtain ⟨g, off, x, rfl, hg, hx, hxs, hc⟩ := (hB.below hBx (Nat.le_refl _)).word hs (show leaf * 8 + k < 64 by omega)
      have hkI : (k : Int) < 8 := by omega
      have hi1 : (0 : Int) ≤ (leaf : Int) * 8 + (k : Int) := by omega
      have hi2 : (leaf : Int) * 8 + (k : Int) < 64 := by omega
      rcases hu : unpR x with ⟨⟨ek, en, ea, eb, ec⟩, er⟩
      have hkx : unpK (es.getD (leaf * 8 + k) 0) = ek := by rw [hx]; unfold unpK; rw [hu]
      have HU := Lib.hid (rUnpack_any x)
      rw [hu] at HU
      clear hu hx
      by_cases hek : ek = 0
      · have d1 : (ek != 0) = false := by simpa using hek
        have HN : Hid (∀ j, j < k + 1 → unpK (es.getD (leaf * 8 + j) 0) = 0) := Lib.hid (fun j h => by
          rcases Nat.lt_or_ge j k with h' | h'
          · exact Hno.out j h'
          · rw [show j = k by omega, hkx]; exact hek)
        clear hek hkx
        go_wp2_with (first | (go_at_call 50; refine (HU.out _ hxs).mono ?_; rintro e w3 ⟨rfl, hb3⟩; simp only))
        go_roundw
        case rel => first | exact ⟨k + 1, by omega, by go_num, HN, balloc (bnext hBx hb3) _⟩ | ((repeat apply Exists.intro); exact ⟨⟨k + 1, by omega, by go_num, HN, balloc (bnext hBx hb3) _⟩, rfl⟩)
        case measure => simp [intOf]; omega
      · have d1 : (ek != 0) = true := by simpa using hek
        have HV : Hid (emptyB es leaf = false) := Lib.hid (emptyB_no es leaf k hlt (by rw [hkx]; exact hek))
        clear hek hkx
        go_wp2_with (first | (go_at_call 50; refine (HU.out _ hxs).mono ?_; rintro e w3 ⟨rfl, hb3⟩; simp only))
        go_ret
        exact ⟨by rw [HV.out]; rfl, balloc (bnext (bnext hB1 hBx) hb3) _⟩
    · have HV : Hid (emptyB es leaf = true) := Lib.hid (emptyB_yes es leaf (fun j hj => Hno.out j (by omega)))
      have hkI : ¬ (k : Int) < 8 := by omega
      go_wp2_with fail
      go_ret
      exact ⟨by rw [HV.out]; rfl, bnext hB1 hBx⟩

set_option maxHeartbeats 1000000 in
theorem rClear_bad1 (r : Int) (ls : List Int) (es : List Nat) (v : Value) (page : Int) (w : World) (hv : TbV w v (r, ls, es)) (hs : wsmall es) (hE : askE r ls es page ≠ 0) :
    Calls Tryd.prog 34 #[v, .int .i64 page] w fun e w' => TbRes3L w w' tb0 0 (askE r ls es page) e := by
  have hget : getR r ls es page = ((0, 0, false, false, false), askE r ls es page) := by unfold getR; rw [if_pos hE]
  have hd : (askE r ls es page != 0) = true := by simpa using hE
  have hd2 : (askE r ls es page == 0) = false := by simpa using hE
  clear hE
  obtain ⟨A, c, B, d, rfl, hA, hB, hcc⟩ := id hv
  simp only at hA hB hcc
  unfold tabV at hv ⊢
  simp only at hv ⊢
  have kT := (Bk.new (w) #[.int .i64 r, .slice A ls.length c, .slice B es.length d] 25).alloc (.cells #[.int .i64 0, .slice none 0 0, .slice none 0 0] 25)
  have kR := Bk.new (w.alloc (.cells #[.int .i64 r, .slice A ls.length c, .slice B es.length d] 25)) #[.int .i64 0, .slice none 0 0, .slice none 0 0] 25
  simp only [World.size_alloc] at kR
  have hB1 := balloc (balloc (Below.refl _ w) (.cells #[.int .i64 r, .slice A ls.length c, .slice B es.length d] 25)) (.cells #[.int .i64 0, .slice none 0 0, .slice none 0 0] 25)
  generalize hw_w1 : (w.alloc (.cells #[.int .i64 r, .slice A ls.length c, .slice B es.length d] 25)).alloc (.cells #[.int .i64 0, .slice none 0 0, .slice none 0 0] 25) = w1 at *
  obtain ⟨cT, fT, lT⟩ := kT.facts
  obtain ⟨cR, fR, lR⟩ := kR.facts
  go_enter Tryd.func34, Tryd.ntmps34
  go_wp2_with fail
  refine (rGet_any r ls es _ page _ (hv.to hB1) hs).mono ?_
  rw [hget]
  rintro e w2 ⟨rfl, hb2⟩
  simp only
  clear hw_w1
  replace kT := kT.to hb2
  replace kR := kR.to hb2
  clear cT fT lT cR fR lR
  obtain ⟨cT, fT, lT⟩ := kT.facts
  obtain ⟨cR, fR, lR⟩ := kR.facts
  replace hB1 := bnext hB1 hb2
  go_upto_region 2 with fail
  replace kT := kT.alloc (.cells #[.int .i64 0, .int .i64 0, .bool false, .bool false, .bool false] 35)
  replace kR := kR.alloc (.cells #[.int .i64 0, .int .i64 0, .bool false, .bool false, .bool false] 35)
  replace hB1 := balloc hB1 (.cells #[.int .i64 0, .int .i64 0, .bool false, .bool false, .bool false] 35)
  clear cT fT lT cR fR lR
  have kX := Bk.new w2 #[.int .i64 0, .int .i64 0, .bool false, .bool false, .bool false] 35
  generalize w2.alloc (.cells #[.int .i64 0, .int .i64 0, .bool false, .bool false, .bool false] 35) = wX at *
  obtain ⟨cR, fR, lR⟩ := kR.facts
  obtain ⟨cX, fX, lX⟩ := kX.facts
  go_wp2_with fail
  have kF := kR.put3 (.int .i64 0) (.slice none 0 0) (.slice none 0 0)
  have hBF := below_put3 (hB1) (g := w.heap.size + 1) (by omega) (.int .i64 0) (.slice none 0 0) (.slice none 0 0)
  exact bodyPost_ret (kF.res3 (P := Tryd.prog) rfl _ rfl (by kernel_rfl) (by kernel_rfl)) rfl ⟨_, rfl, TbV.zero _, TLoc.zero _ _, hBF⟩

set_option maxHeartbeats 1000000 in
theorem rClear_bad2 (r : Int) (ls : List Int) (es : List Nat) (v : Value) (page : Nat) (w : World) (hv : TbV w v (r, ls, es)) (hs : wsmall es) (hE : askE r ls es page = 0) (hk : unpK (es.getD page 0) = 0) :
    Calls Tryd.prog 34 #[v, .int .i64 page] w fun e w' => TbRes3L w w' tb0 0 6 e := by
  have hget : ∃ en ea eb ec, getR r ls es page = ((0, en, ea, eb, ec), 0) := by
    have h1 : unpE (es.getD page 0) = 0 := by
      obtain ⟨h1, p, hp, hp2⟩ := ask_zero hE
      have := (tab_zero h1).2.2.2.2.2.2.1 page (by omega)
      exact this
    unfold getR
    rw [if_neg (by simp [hE]), Int.toNat_natCast]
    unfold unpK at hk
    unfold unpR at hk ⊢
    rw [if_pos h1] at hk ⊢
    simp only at hk ⊢
    rw [hk]
    exact ⟨_, _, _, _, rfl⟩
  obtain ⟨en, ea, eb, ec, hget⟩ := hget
  clear hE hk
  obtain ⟨A, c, B, d, rfl, hA, hB, hcc⟩ := id hv
  simp only at hA hB hcc
  unfold tabV at hv ⊢
  simp only at hv ⊢
  have kT := (Bk.new (w) #[.int .i64 r, .slice A ls.length c, .slice B es.length d] 25).alloc (.cells #[.int .i64 0, .slice none 0 0, .slice none 0 0] 25)
  have kR := Bk.new (w.alloc (.cells #[.int .i64 r, .slice A ls.length c, .slice B es.length d] 25)) #[.int .i64 0, .slice none 0 0, .slice none 0 0] 25
  simp only [World.size_alloc] at kR
  have hB1 := balloc (balloc (Below.refl _ w) (.cells #[.int .i64 r, .slice A ls.length c, .slice B es.length d] 25)) (.cells #[.int .i64 0, .slice none 0 0, .slice none 0 0] 25)
  generalize hw_w1 : (w.alloc (.cells #[.int .i64 r, .slice A ls.length c, .slice B es.length d] 25)).alloc (.cells #[.int .i64 0, .slice none 0 0, .slice none 0 0] 25) = w1 at *
  obtain ⟨cT, fT, lT⟩ := kT.facts
  obtain ⟨cR, fR, lR⟩ := kR.facts
  go_enter Tryd.func34, Tryd.ntmps34
  go_wp2_with fail
  refine (rGet_any r ls es _ page _ (hv.to hB1) hs).mono ?_
  rw [hget]
  rintro e w2 ⟨rfl, hb2⟩
  simp only
  clear hw_w1
  replace kT := kT.to hb2
  replace kR := kR.to hb2
  clear cT fT lT cR fR lR
  obtain ⟨cT, fT, lT⟩ := kT.facts
  obtain ⟨cR, fR, lR⟩ := kR.facts
  replace hB1 := bnext hB1 hb2
  go_upto_region 2 with fail
  replace kT := kT.alloc (.cells #[.int .i64 0, .int .i64 en, .bool ea, .bool eb, .bool ec] 35)
  replace kR := kR.alloc (.cells #[.int .i64 0, .int .i64 en, .bool ea, .bool eb, .bool ec] 35)
  replace hB1 := balloc hB1 (.cells #[.int .i64 0, .int .i64 en, .bool ea, .bool eb, .bool ec] 35)
  clear cT fT lT cR fR lR
  have kX := Bk.new w2 #[.int .i64 0, .int .i64 en, .bool ea, .bool eb, .bool ec] 35
  generalize w2.alloc (.cells #[.int .i64 0, .int .i64 en, .bool ea, .bool eb, .bool ec] 35) = wX at *
  obtain ⟨cR, fR, lR⟩ := kR.facts
  obtain ⟨cX, fX, lX⟩ := kX.facts
  go_wp2_with fail
  have kF := kR.put3 (.int .i64 0) (.slice none 0 0) (.slice none 0 0)
  have hBF := below_put3 (hB1) (g := w.heap.size + 1) (by omega) (.int .i64 0) (.slice none 0 0) (.slice none 0 0)
  exact bodyPost_ret (kF.res3 (P := Tryd.prog) rfl _ rfl (by kernel_rfl) (by kernel_rfl)) rfl ⟨_, rfl, TbV.zero _, TLoc.zero _ _, hBF⟩

set_option maxHeartbeats 4000000 in
theorem rClear_ok (r : Int) (ls : List Int) (es : List Nat) (v : Value) (page : Nat) (w : World) (hv : TbV w v (r, ls, es)) (hs : wsmall es) (hE : tabE r ls es = 0) (hp : page < 64) (hk : unpK (es.getD page 0) ≠ 0) :
    Calls Tryd.prog 34 #[v, .int .i64 page] w fun e w' => TbRes3L w w' (if emptyB (es.set page 0) (page / 8) then ((r, ls.set (page / 8) (-1), es.set page 0) : Tb) else (r, ls, es.set page 0)) (if emptyB (es.set page 0) (page / 8) then ls.getD (page / 8) 0 else -1) 0 e := by
  obtain ⟨h1, h2, _, _, _, _, hUn, _⟩ := tab_zero hE
  have hask : askE r ls es page = 0 := by unfold askE; rw [orE_r _ hE, if_neg (by omega)]
  have hget : ∃ ek en ea eb ec, getR r ls es page = ((ek, en, ea, eb, ec), 0) ∧ ek ≠ 0 := by
    have h1 : unpE (es.getD page 0) = 0 := hUn page hp
    unfold getR
    rw [if_neg (by simp [hask]), Int.toNat_natCast]
    unfold unpK at hk
    unfold unpR at hk ⊢
    rw [if_pos h1] at hk ⊢
    exact ⟨_, _, _, _, _, rfl, hk⟩
  obtain ⟨ek, en, ea, eb, ec, hget, hek⟩ := hget
  have hd : (ek == 0) = false := by simpa using hek
  have hpI : ((page / 8 : Nat) : Int) < 8 := by omega
  have hp8 : page / 8 < 8 := by omega
  rcases hem : emptyB (es.set page 0) (page / 8) with _ | _
  all_goals
    simp only [if_true, if_false, Bool.false_eq_true]
    clear hE hUn hask hk hek
    obtain ⟨A, c, B, d, rfl, hA, hB, hcc⟩ := id hv
    simp only at hA hB hcc
    unfold tabV at hv ⊢
    simp only at hv ⊢
    rw [h1, h2] at hv ⊢
    have kT := (Bk.new (w) #[.int .i64 r, .slice A 8 c, .slice B 64 d] 25).alloc (.cells #[.int .i64 0, .slice none 0 0, .slice none 0 0] 25)
    have kR := Bk.new (w.alloc (.cells #[.int .i64 r, .slice A 8 c, .slice B 64 d] 25)) #[.int .i64 0, .slice none 0 0, .slice none 0 0] 25
    simp only [World.size_alloc] at kR
    have hB1 := balloc (balloc (Below.refl _ w) (.cells #[.int .i64 r, .slice A 8 c, .slice B 64 d] 25)) (.cells #[.int .i64 0, .slice none 0 0, .slice none 0 0] 25)
    generalize hw_w1 : (w.alloc (.cells #[.int .i64 r, .slice A 8 c, .slice B 64 d] 25)).alloc (.cells #[.int .i64 0, .slice none 0 0, .slice none 0 0] 25) = w1 at *
    obtain ⟨cT, fT, lT⟩ := kT.facts
    obtain ⟨cR, fR, lR⟩ := kR.facts
    rw [h1] at hA
    rw [h2] at hB
    have HA := Lib.hid h1
    have HB := Lib.hid h2
    clear h1 h2
    have HO : Hid (∀ W, Rd W 1 A 8 (iw ls) → Rd W 1 B 64 (uw es) → Calls Tryd.prog 56 #[.agg #[.int .i64 r, .slice A 8 c, .slice B 64 d]] W fun e w' => ∃ gA cA gB cB, e = .returned (.agg #[.int .i64 r, .slice (some ⟨gA, 0, none⟩) 8 cA, .slice (some ⟨gB, 0, none⟩) 64 cB]) ∧ Own2 w' W.heap.size gA cA gB cB ls es ∧ Below W.heap.size W w') := Lib.hid (fun W q1 q2 => by
      have := rOwn2_any r ls es A B c d W (by rw [HA.out]; exact q1) (by rw [HB.out]; exact q2) HA.out HB.out
      rw [HA.out, HB.out] at this
      exact this)
    go_enter Tryd.func34, Tryd.ntmps34
    go_wp2_with fail
    refine (rGet_any r ls es _ page _ (hv.to hB1) hs).mono ?_
    rw [hget]
    rintro e w2 ⟨rfl, hb2⟩
    simp only
    clear hw_w1
    replace kT := kT.to hb2
    replace kR := kR.to hb2
    clear cT fT lT cR fR lR
    obtain ⟨cT, fT, lT⟩ := kT.facts
    obtain ⟨cR, fR, lR⟩ := kR.facts
    replace hB1 := bnext hB1 hb2
    clear hget
    go_upto_region 2 with fail
    have kX := Bk.new w2 #[.int .i64 ek, .int .i64 en, .bool ea, .bool eb, .bool ec] 35
    replace kT := kT.alloc (.cells #[.int .i64 ek, .int .i64 en, .bool ea, .bool eb, .bool ec] 35)
    replace kR := kR.alloc (.cells #[.int .i64 ek, .int .i64 en, .bool ea, .bool eb, .bool ec] 35)
    replace hB1 := balloc hB1 (.cells #[.int .i64 ek, .int .i64 en, .bool ea, .bool eb, .bool ec] 35)
    clear cT fT lT cR fR lR
    generalize w2.alloc (.cells #[.int .i64 ek, .int .i64 en, .bool ea, .bool eb, .bool ec] 35) = wX at *
    obtain ⟨cT, fT, lT⟩ := kT.facts
    obtain ⟨cX, fX, lX⟩ := kX.facts
    go_upto_region 6 with fail
    clear cX fX lX kX
    obtain ⟨cR, fR, lR⟩ := kR.facts
    go_wp2_with fail
    refine (HO.out _ (hA.below hB1 (Nat.le_refl _)) (hB.below hB1 (Nat.le_refl _))).mono ?_
    rintro e w4 ⟨gA, cA, gB, cB, rfl, hO, hb4⟩
    replace kR := kR.to hb4
    replace kT := kT.to hb4
    have hsz := hB1.size
    have hs4 := hb4.size
    have hltR := lR
    clear cT fT lT cR fR lR
    replace hB1 := bnext hB1 hb4
    go_upto_region 7 with fail
    have kO := Bk.new w4 #[.int .i64 r, .slice (some ⟨gA, 0, none⟩) 8 cA, .slice (some ⟨gB, 0, none⟩) 64 cB] 25
    replace kR := kR.alloc (.cells #[.int .i64 r, .slice (some ⟨gA, 0, none⟩) 8 cA, .slice (some ⟨gB, 0, none⟩) 64 cB] 25)
    replace kT := kT.alloc (.cells #[.int .i64 r, .slice (some ⟨gA, 0, none⟩) 8 cA, .slice (some ⟨gB, 0, none⟩) 64 cB] 25)
    replace hB1 := balloc hB1 (.cells #[.int .i64 r, .slice (some ⟨gA, 0, none⟩) 8 cA, .slice (some ⟨gB, 0, none⟩) 64 cB] 25)
    have hlt := hO.lt
    replace hO := hO.alloc (.cells #[.int .i64 r, .slice (some ⟨gA, 0, none⟩) 8 cA, .slice (some ⟨gB, 0, none⟩) 64 cB] 25)
    generalize w4.alloc (.cells #[.int .i64 r, .slice (some ⟨gA, 0, none⟩) 8 cA, .slice (some ⟨gB, 0, none⟩) 64 cB] 25) = wO at *
    obtain ⟨cO, fO, lO⟩ := kO.facts
    have hlt := hO.lt
    obtain ⟨cE, fE⟩ := hO.entryAt page hp
    go_upto_region 8 with fail
    replace kO := kO.far (p := ⟨gB, page, none⟩) (by show _ ≠ _; simp only; omega) (.int .u64 0)
    replace kR := kR.far (p := ⟨gB, page, none⟩) (by show _ ≠ _; simp only; omega) (.int .u64 0)
    replace kT := kT.far (p := ⟨gB, page, none⟩) (by show _ ≠ _; simp only; omega) (.int .u64 0)
    replace hB1 := hB1.setCell (p := ⟨gB, page, none⟩) (by show _ ≤ _; simp only; omega) (.int .u64 0)
    have hO2 : Own2 (wO.setCell ⟨gB, page, none⟩ (.int .u64 0)) _ gA cA gB cB ls (es.set page 0) := hO.entry page 0
    clear cO fO lO cE fE hO
    generalize wO.setCell ⟨gB, page, none⟩ (.int .u64 0) = wS at *
    obtain ⟨cO, fO, lO⟩ := kO.facts
    obtain ⟨cR, fR, lR⟩ := kR.facts
    obtain ⟨cT, fT, lT⟩ := kT.facts
    have hO := hO2
    clear hO2
    go_upto_region 9 with fail
    go_wp2_with fail
    have hEm := rEmpty_any r (es.set page 0) (some ⟨gA, 0, none⟩) (some ⟨gB, 0, none⟩) 8 cA cB (page / 8) wS (Rd.own hO.b) (wsmall_set hs page (by decide)) (by omega)
    rw [hem] at hEm
    refine hEm.mono ?_
    rintro e w5 ⟨rfl, hb5⟩
    clear hEm
    replace kO := kO.to hb5
    replace kR := kR.to hb5
    replace kT := kT.to hb5
    replace hO := hO.to hb5
    replace hB1 := bnext hB1 hb5
    clear cT fT lT cR fR lR cO fO lO
  · obtain ⟨cO, fO, lO⟩ := kO.facts
    obtain ⟨cR, fR, lR⟩ := kR.facts
    go_wp2_with fail
    have kF := kR.put3 (.int .i64 r) (.slice (some ⟨gA, 0, none⟩) 8 cA) (.slice (some ⟨gB, 0, none⟩) 64 cB)
    have hBF := below_put3 hB1 (g := w.heap.size + 1) (by omega) (.int .i64 r) (.slice (some ⟨gA, 0, none⟩) 8 cA) (.slice (some ⟨gB, 0, none⟩) 64 cB)
    have hOF := ((hO.far (p := ⟨w.heap.size + 1, 0, none⟩) (by show _ < _; simp only; omega) (.int .i64 r)).far (p := ⟨w.heap.size + 1, 1, none⟩) (by show _ < _; simp only; omega) (.slice (some ⟨gA, 0, none⟩) 8 cA)).far (p := ⟨w.heap.size + 1, 2, none⟩) (by show _ < _; simp only; omega) (.slice (some ⟨gB, 0, none⟩) 64 cB)
    exact bodyPost_ret (kF.res3 (P := Tryd.prog) rfl _ rfl (by kernel_rfl) (by kernel_rfl)) rfl ⟨_, rfl, hOF.tbv r, hOF.tloc r (by omega), hBF⟩
  · obtain ⟨cO, fO, lO⟩ := kO.facts
    obtain ⟨cE, fE⟩ := hO.leafAt (page / 8) hp8
    have hlt := hO.lt
    go_upto_region 12 with fail
    replace kO := kO.far (p := ⟨gA, page / 8, none⟩) (by show _ ≠ _; simp only; omega) (.int .i64 (-1))
    replace kR := kR.far (p := ⟨gA, page / 8, none⟩) (by show _ ≠ _; simp only; omega) (.int .i64 (-1))
    replace kT := kT.far (p := ⟨gA, page / 8, none⟩) (by show _ ≠ _; simp only; omega) (.int .i64 (-1))
    replace hB1 := hB1.setCell (p := ⟨gA, page / 8, none⟩) (by show _ ≤ _; simp only; omega) (.int .i64 (-1))
    replace hO := hO.leaf (page / 8) (-1)
    clear cO fO lO cE fE
    generalize w5.setCell ⟨gA, page / 8, none⟩ (.int .i64 (-1)) = wU at *
    obtain ⟨gl, ol, z, rfl, hgl, hz, hcl⟩ := (hA.below hB1 (Nat.le_refl _)).numb hp8
    have HZ := Lib.hid hz
    have hgw : gl < w.heap.size := by
      obtain ⟨b, off, e, hb, _⟩ := hA.2 (by omega)
      injection e with e
      injection e with e1 _
      omega
    clear hz
    obtain ⟨cO, fO, lO⟩ := kO.facts
    obtain ⟨cR, fR, lR⟩ := kR.facts
    obtain ⟨cT, fT, lT⟩ := kT.facts
    go_region
    all_goals
      go_wp2_with fail
      have kF := kR.drew.put3 (.int .i64 r) (.slice (some ⟨gA, 0, none⟩) 8 cA) (.slice (some ⟨gB, 0, none⟩) 64 cB)
      have hBF := below_put3 (below_drew hB1) (g := w.heap.size + 1) (by omega) (.int .i64 r) (.slice (some ⟨gA, 0, none⟩) 8 cA) (.slice (some ⟨gB, 0, none⟩) 64 cB)
      have hOF := ((hO.drew.far (p := ⟨w.heap.size + 1, 0, none⟩) (by show _ < _; simp only; omega) (.int .i64 r)).far (p := ⟨w.heap.size + 1, 1, none⟩) (by show _ < _; simp only; omega) (.slice (some ⟨gA, 0, none⟩) 8 cA)).far (p := ⟨w.heap.size + 1, 2, none⟩) (by show _ < _; simp only; omega) (.slice (some ⟨gB, 0, none⟩) 64 cB)
      rw [HZ.out]
      exact bodyPost_ret (kF.res3 (P := Tryd.prog) rfl _ rfl (by kernel_rfl) (by kernel_rfl)) rfl ⟨_, rfl, hOF.tbv r, hOF.tloc r (by omega), hBF⟩

theorem rClear_any (r : Int) (ls : List Int) (es : List Nat) (v : Value) (page : Int) (w : World) (hv : TbV w v (r, ls, es)) (hs : wsmall es) :
    Calls Tryd.prog 34 #[v, .int .i64 page] w fun e w' => TbRes3L w w' (clearR r ls es page).1 (clearR r ls es page).2.1 (clearR r ls es page).2.2 e := by
  by_cases h : askE r ls es page = 0
  · obtain ⟨h1, p, rfl, hp⟩ := ask_zero h
    by_cases hk : unpK (es.getD p 0) = 0
    · have hE : clearE r ls es p = 6 := by unfold clearE; rw [orE_r _ h, Int.toNat_natCast, if_pos hk]
      have hR : clearR r ls es p = (tb0, 0, 6) := by unfold clearR; rw [if_pos (by omega), hE]
      rw [hR]
      exact rClear_bad2 r ls es v p w hv hs h hk
    · have hE : clearE r ls es p = 0 := by unfold clearE; rw [orE_r _ h, Int.toNat_natCast, if_neg hk]
      have hR : clearR r ls es p = ((if emptyB (es.set p 0) (p / 8) then ((r, ls.set (p / 8) (-1), es.set p 0) : Tb) else (r, ls, es.set p 0)), (if emptyB (es.set p 0) (p / 8) then ls.getD (p / 8) 0 else -1), 0) := by
        unfold clearR
        rw [if_neg (by omega), Int.toNat_natCast]
        rcases emptyB (es.set p 0) (p / 8) with _ | _ <;> rfl
      rw [hR]
      exact rClear_ok r ls es v p w hv hs h1 hp hk
  · have hE : clearE r ls es page = askE r ls es page := by unfold clearE; rw [orE_l _ h]
    have hR : clearR r ls es page = (tb0, 0, askE r ls es page) := by unfold clearR; rw [if_pos (by rw [hE]; exact h), hE]
    rw [hR]
    exact rClear_bad1 r ls es v page w hv hs h
theorem Own2.keep {w w' : World} {B' base gA cA gB cB : Nat} {ls : List Int} {es : List Nat} (h : Own2 w base gA cA gB cB ls es) (hb : Below B' w w') (h1 : gA < B') (h2 : gB < B') : Own2 w' base gA cA gB cB ls es := by
  refine ⟨⟨h.a.1, ?_⟩, ⟨h.b.1, ?_⟩, h.ne⟩
  · rcases h.a.2 with hn | ⟨g, cap, cur, hv, hbg, hg, rest⟩
    · exact .inl hn
    · have e : g = gA := by injection hv with hv; injection hv with hv; injection hv with hv; exact hv.symm
      exact .inr ⟨g, cap, cur, hv, hbg, (hb.block g (by omega)).trans hg, rest⟩
  · rcases h.b.2 with hn | ⟨g, cap, cur, hv, hbg, hg, rest⟩
    · exact .inl hn
    · have e : g = gB := by injection hv with hv; injection hv with hv; injection hv with hv; exact hv.symm
      exact .inr ⟨g, cap, cur, hv, hbg, (hb.block g (by omega)).trans hg, rest⟩
theorem trimG_yes (ls : List Int) (es : List Nat) (k : Nat) (h : goneB ls es k = true) : trimG ls es (k + 1) = trimG ls es k ++ [ls.getD k 0] := by simp [trimG, List.range_succ, h]
theorem trimG_no (ls : List Int) (es : List Nat) (k : Nat) (h : goneB ls es k = false) : trimG ls es (k + 1) = trimG ls es k := by simp [trimG, List.range_succ, h]
theorem trimL_yes (ls : List Int) (es : List Nat) (k : Nat) (h : goneB ls es k = true) : trimL ls es (k + 1) = (trimL ls es k).set k (-1) := by simp [trimL, h]
theorem trimL_no (ls : List Int) (es : List Nat) (k : Nat) (h : goneB ls es k = false) : trimL ls es (k + 1) = trimL ls es k := by simp [trimL, h]
def TrimRel (w3 : World) (lo s3 gO gA cA gB cB : Nat) (r : Int) (ls : List Int) (es : List Nat) (v i : Value) (wr : World) : Prop :=
  ∃ k : Nat, k ≤ 8 ∧ i = .int .i64 k ∧ Own2 wr s3 gA cA gB cB (trimL ls es k) es ∧ Bk wr gO #[.int .i64 r, .slice (some ⟨gA, 0, none⟩) 8 cA, .slice (some ⟨gB, 0, none⟩) 64 cB] 25 ∧ wr.ownsRow lo 3 1 v (trimG ls es k).length (iw (trimG ls es k)) ∧ Below w3.heap.size w3 wr ∧ lo ≤ wr.heap.size

set_option maxHeartbeats 1000000 in
theorem rTrim_bad (r : Int) (ls : List Int) (es : List Nat) (v : Value) (w : World) (hv : TbV w v (r, ls, es)) (hs : wsmall es) (hE : tabE r ls es ≠ 0) :
    Calls Tryd.prog 36 #[v] w fun e w' => TrResL w w' tb0 [] (tabE r ls es) e := by
  have hd : (tabE r ls es != 0) = true := by simpa using hE
  clear hE
  obtain ⟨A, c, B, d, rfl, hA, hB, hcc⟩ := id hv
  simp only at hA hB hcc
  unfold tabV at hv ⊢
  simp only at hv ⊢
  have kT := (Bk.new (w) #[.int .i64 r, .slice A ls.length c, .slice B es.length d] 25).alloc (.cells #[.int .i64 0, .slice none 0 0, .slice none 0 0] 25)
  have kR := Bk.new (w.alloc (.cells #[.int .i64 r, .slice A ls.length c, .slice B es.length d] 25)) #[.int .i64 0, .slice none 0 0, .slice none 0 0] 25
  simp only [World.size_alloc] at kR
  have hB1 := balloc (balloc (Below.refl _ w) (.cells #[.int .i64 r, .slice A ls.length c, .slice B es.length d] 25)) (.cells #[.int .i64 0, .slice none 0 0, .slice none 0 0] 25)
  generalize hw_w1 : (w.alloc (.cells #[.int .i64 r, .slice A ls.length c, .slice B es.length d] 25)).alloc (.cells #[.int .i64 0, .slice none 0 0, .slice none 0 0] 25) = w1 at *
  obtain ⟨cT, fT, lT⟩ := kT.facts
  obtain ⟨cR, fR, lR⟩ := kR.facts
  go_enter Tryd.func36, Tryd.ntmps36
  go_wp2_with fail
  refine (rTCheck_any r ls es _ _ (hv.to hB1) hs).mono ?_
  rintro e w2 ⟨rfl, hb2⟩
  clear hw_w1
  replace kT := kT.to hb2
  replace kR := kR.to hb2
  clear cT fT lT cR fR lR
  obtain ⟨cT, fT, lT⟩ := kT.facts
  obtain ⟨cR, fR, lR⟩ := kR.facts
  replace hB1 := bnext hB1 hb2
  go_wp2_with fail
  have kF := kR.put3 (.int .i64 0) (.slice none 0 0) (.slice none 0 0)
  have hBF := below_put3 (hB1) (g := w.heap.size + 1) (by omega) (.int .i64 0) (.slice none 0 0) (.slice none 0 0)
  exact bodyPost_ret (kF.res3 (P := Tryd.prog) rfl _ rfl (by kernel_rfl) (by kernel_rfl)) rfl ⟨_, _, rfl, TbV.zero _, IsV.nil _, TLoc.zero _ _, ILoc.nil _, hBF⟩

set_option maxHeartbeats 4000000 in
theorem rTrim_ok (r : Int) (ls : List Int) (es : List Nat) (v : Value) (w : World) (hv : TbV w v (r, ls, es)) (hs : wsmall es) (hE : tabE r ls es = 0) :
    Calls Tryd.prog 36 #[v] w fun e w' => TrResL w w' (r, trimL ls es 8, es) (trimG ls es 8) 0 e := by
  obtain ⟨h1, h2, hR, hLs, _⟩ := tab_zero hE
  have HLs := Lib.hid hLs
  clear hLs
  obtain ⟨A, c, B, d, rfl, hA, hB, hcc⟩ := id hv
  simp only at hA hB hcc
  unfold tabV at hv ⊢
  simp only at hv ⊢
  rw [h1, h2] at hv ⊢
  have kT := (Bk.new (w) #[.int .i64 r, .slice A 8 c, .slice B 64 d] 25).alloc (.cells #[.int .i64 0, .slice none 0 0, .slice none 0 0] 25)
  have kR := Bk.new (w.alloc (.cells #[.int .i64 r, .slice A 8 c, .slice B 64 d] 25)) #[.int .i64 0, .slice none 0 0, .slice none 0 0] 25
  simp only [World.size_alloc] at kR
  have hB1 := balloc (balloc (Below.refl _ w) (.cells #[.int .i64 r, .slice A 8 c, .slice B 64 d] 25)) (.cells #[.int .i64 0, .slice none 0 0, .slice none 0 0] 25)
  generalize hw_w1 : (w.alloc (.cells #[.int .i64 r, .slice A 8 c, .slice B 64 d] 25)).alloc (.cells #[.int .i64 0, .slice none 0 0, .slice none 0 0] 25) = w1 at *
  obtain ⟨cT, fT, lT⟩ := kT.facts
  obtain ⟨cR, fR, lR⟩ := kR.facts
  rw [h1] at hA
  rw [h2] at hB
  have HA := Lib.hid h1
  have HB := Lib.hid h2
  clear h1 h2
  have HO : Hid (∀ W, Rd W 1 A 8 (iw ls) → Rd W 1 B 64 (uw es) → Calls Tryd.prog 56 #[.agg #[.int .i64 r, .slice A 8 c, .slice B 64 d]] W fun e w' => ∃ gA cA gB cB, e = .returned (.agg #[.int .i64 r, .slice (some ⟨gA, 0, none⟩) 8 cA, .slice (some ⟨gB, 0, none⟩) 64 cB]) ∧ Own2 w' W.heap.size gA cA gB cB ls es ∧ Below W.heap.size W w') := Lib.hid (fun W q1 q2 => by
    have := rOwn2_any r ls es A B c d W (by rw [HA.out]; exact q1) (by rw [HB.out]; exact q2) HA.out HB.out
    rw [HA.out, HB.out] at this
    exact this)
  obtain ⟨i0, hi, hz0, hz1, hz2⟩ := info_parts infoInt
  go_enter Tryd.func36, Tryd.ntmps36
  go_wp2_with fail
  refine (rTCheck_any r ls es _ _ (hv.to hB1) hs).mono ?_
  rw [hE]
  rintro e w2 ⟨rfl, hb2⟩
  clear hw_w1
  replace kT := kT.to hb2
  replace kR := kR.to hb2
  clear cT fT lT cR fR lR
  obtain ⟨cT, fT, lT⟩ := kT.facts
  obtain ⟨cR, fR, lR⟩ := kR.facts
  replace hB1 := bnext hB1 hb2
  go_wp2_with fail
  have kT2 := kT
  have kR2 := kR
  have hB2 := hB1
  refine (HO.out _ (hA.below hB1 (Nat.le_refl _)) (hB.below hB1 (Nat.le_refl _))).mono ?_
  rintro e w4 ⟨gA, cA, gB, cB, rfl, hO, hb4⟩
  replace kR := kR.to hb4
  replace kT := kT.to hb4
  have hsz := hB1.size
  have hs4 := hb4.size
  have hltR := lR
  clear cT fT lT cR fR lR
  replace hB1 := bnext hB1 hb4
  go_upto_region 5 with fail
  have kO := Bk.new w4 #[.int .i64 r, .slice (some ⟨gA, 0, none⟩) 8 cA, .slice (some ⟨gB, 0, none⟩) 64 cB] 25
  replace kR := kR.alloc (.cells #[.int .i64 r, .slice (some ⟨gA, 0, none⟩) 8 cA, .slice (some ⟨gB, 0, none⟩) 64 cB] 25)
  replace kT := kT.alloc (.cells #[.int .i64 r, .slice (some ⟨gA, 0, none⟩) 8 cA, .slice (some ⟨gB, 0, none⟩) 64 cB] 25)
  replace hB1 := balloc hB1 (.cells #[.int .i64 r, .slice (some ⟨gA, 0, none⟩) 8 cA, .slice (some ⟨gB, 0, none⟩) 64 cB] 25)
  have hlt := hO.lt
  have hB4 := balloc (Below.refl _ w4) (.cells #[.int .i64 r, .slice (some ⟨gA, 0, none⟩) 8 cA, .slice (some ⟨gB, 0, none⟩) 64 cB] 25)
  replace hO := hO.alloc (.cells #[.int .i64 r, .slice (some ⟨gA, 0, none⟩) 8 cA, .slice (some ⟨gB, 0, none⟩) 64 cB] 25)
  generalize w4.alloc (.cells #[.int .i64 r, .slice (some ⟨gA, 0, none⟩) 8 cA, .slice (some ⟨gB, 0, none⟩) 64 cB] 25) = wO at *
  obtain ⟨cO, fO, lO⟩ := kO.facts
  have hlt := hO.lt
  have hOl : w4.heap.size < wO.heap.size := lO
  have hRl := kR2.lt
  obtain ⟨lo, hlo⟩ : ∃ lo, lo = wO.heap.size := ⟨_, rfl⟩
  obtain ⟨s3, hs3⟩ : ∃ s3, s3 = w2.heap.size := ⟨_, rfl⟩
  rw [← hs3] at hO hlt
  have hBO : Below s3 w2 wO := by
    rw [hs3]
    exact Below.trans hb4 (by
      have : Below w4.heap.size w4 wO := hB4
      exact this.mono hs4)
  clear cO fO lO
  go_wp2_with fail
  go_loopw [7, 8] (TrimRel w2 lo s3 w4.heap.size gA cA gB cB r ls es) (fun _ i _ => 8 - (intOf i).toNat)
  case atStart => exact ⟨0, by omega, rfl, hO, kO, World.ownsRow_nil _ _ _ _, by rw [← hs3]; exact hBO, by omega⟩
  case round =>
    clear hBO kO hO
    obtain ⟨k, hk, rfl, hO, kO, hown, hBx, hlx⟩ := hrel
    have kTr := kT2.to hBx
    obtain ⟨cT, fT, lT⟩ := kTr.facts
    obtain ⟨cO, fO, lO⟩ := kO.facts
    have hgl := trimG_len ls es k
    by_cases hlt : k < 8
    · obtain ⟨gl, ol, z, rfl, hgl, hz, hcl⟩ := (hA.below (bnext hB2 hBx) (Nat.le_refl _)).numb hlt
      obtain ⟨cE, fE⟩ := hO.leafAt k hlt
      have hkI : (k : Int) < 8 := by omega
      have hzz := (HLs.out k hlt).1
      rw [hz] at hzz
      by_cases hz1 : z = -1
      · have hg : goneB ls es k = false := by unfold goneB; rw [hz, hz1]; rfl
        have HG := Lib.hid (And.intro (trimG_no ls es k hg) (trimL_no ls es k hg))
        have d1 : decide (0 ≤ z) = false := by simp; omega
        clear hz1 hz hzz hg
        go_wp2_with fail
        go_roundw
        case rel => exact ⟨k + 1, by omega, by go_num, by rw [HG.out.2]; exact hO, kO, by rw [HG.out.1]; exact hown, hBx, hlx⟩
        case measure => simp [intOf]; omega
      · have d1 : decide (0 ≤ z) = true := by simp; omega
        rcases hem : emptyB es k with _ | _
        · have hg : goneB ls es k = false := by unfold goneB; rw [hem]; simp
          have HG := Lib.hid (And.intro (trimG_no ls es k hg) (trimL_no ls es k hg))
          have HE := Lib.hid (rEmpty_any r es (some ⟨gl, ol, none⟩) B 8 c d k wr (hB.below (bnext hB2 hBx) (Nat.le_refl _)) hs hlt)
          rw [hem] at HE
          clear hz1 hz hzz hg hem
          go_wp2_with fail
          refine HE.out.mono ?_
          rintro e w6 ⟨rfl, hb6⟩
          go_wp2_with fail
          go_roundw
          case rel => exact ⟨k + 1, by omega, by go_num, by rw [HG.out.2]; exact hO.to hb6, kO.to hb6, by rw [HG.out.1]; exact own_below hown hb6, hBx.trans (hb6.mono hBx.size), Nat.le_trans hlx hb6.size⟩
          case measure => simp [intOf]; omega
        · have hg : goneB ls es k = true := by unfold goneB; rw [hem, hz]; simpa using hz1
          have HG := Lib.hid (And.intro (trimG_yes ls es k hg) (trimL_yes ls es k hg))
          rw [hz] at HG
          have Hz := Lib.hid hz
          have HE := Lib.hid (rEmpty_any r es (some ⟨gl, ol, none⟩) B 8 c d k wr (hB.below (bnext hB2 hBx) (Nat.le_refl _)) hs hlt)
          rw [hem] at HE
          clear hz1 hz hzz hg hem
          go_wp2_with fail
          refine HE.out.mono ?_
          rintro e w6 ⟨rfl, hb6⟩
          clear cT fT lT cO fO lO cE fE
          replace kTr := kTr.to hb6
          replace kO := kO.to hb6
          replace hO := hO.to hb6
          replace hown := own_below hown hb6
          replace hBx := hBx.trans (hb6.mono hBx.size)
          replace hlx := Nat.le_trans hlx hb6.size
          obtain ⟨cO, fO, lO⟩ := kO.facts
          obtain ⟨cE, fE⟩ := hO.leafAt k hlt
          go_upto_region 11 with fail
          replace kTr := kTr.far (p := ⟨gA, k, none⟩) (by show _ ≠ _; simp only; omega) (.int .i64 (-1))
          replace kO := kO.far (p := ⟨gA, k, none⟩) (by show _ ≠ _; simp only; omega) (.int .i64 (-1))
          replace hO := hO.leaf k (-1)
          replace hown := own_far (p := ⟨gA, k, none⟩) hown (by show _ < _; simp only; omega) (.int .i64 (-1))
          replace hBx := hBx.setCell (p := ⟨gA, k, none⟩) (by show _ ≤ _; simp only; omega) (.int .i64 (-1))
          have hlx2 : lo ≤ (w6.setCell ⟨gA, k, none⟩ (.int .i64 (-1))).heap.size := by simpa using hlx
          replace hcl := ((hA.below (bnext hB2 hBx) (Nat.le_refl _)).numb hlt)
          obtain ⟨gl2, ol2, z2, e2, hgl2, hz2', hcl2⟩ := hcl
          rw [Hz.out] at hz2'
          subst hz2'
          injection e2 with e2
          injection e2 with e3 e4
          subst e3 e4
          clear cO fO lO cE fE hlx
          generalize w6.setCell ⟨gA, k, none⟩ (.int .i64 (-1)) = w7 at *
          obtain ⟨cT, fT, lT⟩ := kTr.facts
          go_wp2_with (first
            | (at_builtin; refine wpList_append_own _ rfl _ _ 22 rfl lo 3 i0 (.int .i64 0) 1 8 Tryd.underlying22 hi hz0 hz1 hz2 rfl (by decide) _ _ _ rfl (hown.alloc _) ⟨w7.heap.size, 0, none⟩ 1 1 [.int .i64 z] rfl rfl (cell_one_new _ _ _) (by simp [Value.oneCell']) (by simp only [maxLen]; omega) (by omega) (by simp; omega) ?_; intro v' w9 hown' hgrow _))
          have hb79 : Below lo w7 w9 := ((Below.refl lo w7).alloc hlx2 _).grown hgrow (by simp; omega) (fun q e => (hown.lt q e).1)
          have hown2 : w9.ownsRow lo 3 1 v' (trimG ls es (k + 1)).length (iw (trimG ls es (k + 1))) := by
            rw [HG.out.1]; simpa [iw] using hown'
          clear hown' hgrow hown cT fT lT
          go_wp2_with fail
          go_roundw
          case rel => exact ⟨k + 1, by omega, by go_num, by rw [HG.out.2]; exact hO.keep hb79 (by omega) (by omega), kO.below hb79 (by omega), hown2, hBx.trans (hb79.mono (by omega)), Nat.le_trans hlx2 hb79.size⟩
          case measure => simp [intOf]; omega
    · obtain rfl : k = 8 := by omega
      have hkI : ¬ ((8 : Nat) : Int) < 8 := by omega
      have kRr := kR2.to hBx
      obtain ⟨cR, fR, lR⟩ := kRr.facts
      go_wp2_with fail
      have kF := kRr.put3 (.int .i64 r) (.slice (some ⟨gA, 0, none⟩) 8 cA) (.slice (some ⟨gB, 0, none⟩) 64 cB)
      have hBF := below_put3 (bnext hB2 hBx) (g := w.heap.size + 1) (by omega) (.int .i64 r) (.slice (some ⟨gA, 0, none⟩) 8 cA) (.slice (some ⟨gB, 0, none⟩) 64 cB)
      have hOF := ((hO.far (p := ⟨w.heap.size + 1, 0, none⟩) (by show _ < _; simp only; omega) (.int .i64 r)).far (p := ⟨w.heap.size + 1, 1, none⟩) (by show _ < _; simp only; omega) (.slice (some ⟨gA, 0, none⟩) 8 cA)).far (p := ⟨w.heap.size + 1, 2, none⟩) (by show _ < _; simp only; omega) (.slice (some ⟨gB, 0, none⟩) 64 cB)
      have hownF := own_put3 hown (show w.heap.size + 1 < lo by omega) (.int .i64 r) (.slice (some ⟨gA, 0, none⟩) 8 cA) (.slice (some ⟨gB, 0, none⟩) 64 cB)
      exact bodyPost_ret (kF.res3 (P := Tryd.prog) rfl _ rfl (by kernel_rfl) (by kernel_rfl)) rfl ⟨_, _, rfl, hOF.tbv r, IsV.own hownF, hOF.tloc r (by omega), ILoc.own hownF (by omega), hBF⟩

theorem rTrim_any (r : Int) (ls : List Int) (es : List Nat) (v : Value) (w : World) (hv : TbV w v (r, ls, es)) (hs : wsmall es) :
    Calls Tryd.prog 36 #[v] w fun e w' => TrResL w w' (trimR r ls es).1 (trimR r ls es).2.1 (trimR r ls es).2.2 e := by
  unfold trimR
  by_cases h : tabE r ls es = 0
  · rw [if_neg (by simp [h])]
    exact rTrim_ok r ls es v w hv hs h
  · rw [if_pos h]
    exact rTrim_bad r ls es v w hv hs h
end Go.Proofs.YtnmknbnidfmmoaaDoor
