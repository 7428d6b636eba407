/- Which range a text is, by the program and by the reference. -/
import Derived.Test.YtmaebbbaooodaaaDoorAdN
namespace Go.Proofs.YtmaebbbaooodaaaDoor
open Go Go.Proofs Go.RowKit
set_option linter.unusedSimpArgs false
set_option linter.unusedVariables false
set_option maxRecDepth 100000

/-- The library's variable of this name holds some number. -/
def CutOK (w : World) : Prop := ∃ m, w.cell? ⟨0, 0, none⟩ = some (.int .i64 m)
theorem CutOK.below {w w' : World} (h : CutOK w) (hb : Below w.heap.size w w') : CutOK w' := by
  obtain ⟨m, h⟩ := h
  exact ⟨m, cell_later hb h⟩
theorem CutOK.alloc {w : World} (h : CutOK w) (o : Obj) : CutOK (w.alloc o) := h.below ((Below.refl _ _).alloc (Nat.le_refl _) _)
theorem CutOK.drew {w : World} (h : CutOK w) : CutOK w.drew := h
theorem Cut_any (l sep : List UInt8) (w : World) (hl : l.length ≤ 100000) (hC : CutOK w) :
    Calls Tryd.prog 26 #[.string ⟨l.toArray⟩, .string ⟨sep.toArray⟩] w fun e w' => e = .returned (.tuple #[.string ⟨(Lib.cut l sep).1.toArray⟩, .string ⟨(Lib.cut l sep).2.1.toArray⟩, .bool (Lib.cut l sep).2.2]) ∧ Below w.heap.size w w' := by
  obtain ⟨m, hm⟩ := hC
  refine (Tryd.strings_Cut ⟨l.toArray⟩ ⟨sep.toArray⟩ m w (by rw [bsize]; omega) hm).mono ?_
  rintro e w' ⟨rfl, n, rfl⟩
  exact ⟨rfl, below_drawn (Below.refl _ _) n⟩
theorem cut_len (l sep : List UInt8) : (Lib.cut l sep).1.length ≤ l.length ∧ (Lib.cut l sep).2.1.length ≤ l.length := by
  unfold Lib.cut
  split
  · exact ⟨by simp; omega, by simp⟩
  · exact ⟨Nat.le_refl _, by simp⟩
def RgRes (w w' : World) (r : Int × Int × Int) (e : Ending) : Prop := e = .returned (.tuple #[.agg #[.int .i64 r.1, .int .i64 r.2.1], .int .i64 r.2.2]) ∧ Below w.heap.size w w'
theorem Bk.put2' {w : World} {b : Nat} {t : TypeId} {x y : Value} (h : Bk w b #[x, y] t) (u v : Value) : Bk ((w.setCell ⟨b, 0, none⟩ u).setCell ⟨b, 1, none⟩ v) b #[u, v] t := (h.put 0 u).put 1 v
theorem below_put2' {a w : World} {p : Nat} (h : Below a.heap.size a w) (hp : a.heap.size ≤ p) (u v : Value) : Below a.heap.size a ((w.setCell ⟨p, 0, none⟩ u).setCell ⟨p, 1, none⟩ v) := (h.setCell (p := ⟨p, 0, none⟩) hp u).setCell (p := ⟨p, 1, none⟩) hp v

set_option maxHeartbeats 4000000 in
theorem Parse_any (l : List UInt8) (w : World) (hl : l.length ≤ 100000) (hC : CutOK w) :
    Calls Tryd.prog 9 #[.string ⟨l.toArray⟩] w fun e w' => RgRes w w' (parA l) e := by
  have hcl := cut_len l [46, 46]
  rcases hcut : Lib.cut l [46, 46] with ⟨c1, c2, fb⟩
  have hpar : parA l = rngA (numM 18 c1) (numM 18 (if fb = true then c2 else c1)) := by unfold parA headA tailA; rw [hcut]
  rw [hcut] at hcl
  simp only at hcl
  have HC := Lib.hid hcut
  clear hcut
  have kR := Bk.new w #[.int .i64 0, .int .i64 0] 23
  have hB1 := balloc (Below.refl _ w) (.cells #[.int .i64 0, .int .i64 0] 23)
  replace hC := hC.alloc (.cells #[.int .i64 0, .int .i64 0] 23)
  obtain ⟨tl, htl⟩ : ∃ tl, tl = (if fb = true then c2 else c1) := ⟨_, rfl⟩
  rw [← htl] at hpar
  have htll : tl.length ≤ 100000 := by rw [htl]; split <;> omega
  rcases hn1 : numM 18 c1 with _ | x
  all_goals rcases hn2 : numM 18 tl with _ | y
  all_goals
    rw [hn1, hn2] at hpar
    have N1 := Lib.hid hn1
    have N2 := Lib.hid hn2
    have HP := Lib.hid hpar
  case some.some =>
    have hx := numM_lt 18 _ _ hn1
    have hy := numM_lt 18 _ _ hn2
    rw [rngA_min] at HP
    have hx2 : (x : Int) < 1000000000000000000 := by omega
    have hy2 : (y : Int) < 1000000000000000000 := by omega
    clear hn1 hn2 hpar hx hy
    generalize hw1 : w.alloc (.cells #[.int .i64 0, .int .i64 0] 23) = w1 at *
    obtain ⟨cR, fR, lR⟩ := kR.facts
    rcases fb with _ | _
    all_goals
      simp only [if_true, if_false, Bool.false_eq_true] at htl
      go_enter Tryd.func9, Tryd.ntmps9
      go_wp2_with fail
      refine (Cut_any l [46, 46] _ hl hC).mono ?_
      rw [HC.out]
      rintro e w2 ⟨rfl, hb2⟩
      simp only
      clear cR fR lR hw1
      replace kR := kR.to hb2
      replace hB1 := bnext hB1 hb2
      obtain ⟨cR, fR, lR⟩ := kR.facts
      go_wp2_with fail
      refine (number_any c1 _ (by omega)).mono ?_
      rw [N1.out]
      rintro e w3 ⟨rfl, hb3⟩
      clear cR fR lR
      replace kR := kR.to hb3
      replace hB1 := bnext hB1 hb3
      obtain ⟨cR, fR, lR⟩ := kR.facts
      simp only [Option.getD_some, Option.isSome_some]
      go_wp2_with fail
      rw [← htl]
      refine (number_any tl _ (by omega)).mono ?_
      rw [N2.out]
      rintro e w4 ⟨rfl, hb4⟩
      clear cR fR lR htl
      replace kR := kR.to hb4
      replace hB1 := bnext hB1 hb4
      obtain ⟨cR, fR, lR⟩ := kR.facts
      simp only [Option.getD_some, Option.isSome_some]
      go_wp2_with fail
      generalize hu : min (x : Int) 64 = u at *
      generalize hv : min (y : Int) 64 = v at *
      have hu0 : 0 ≤ u := by omega
      have hv0 : 0 ≤ v := by omega
      clear hu hv N1 N2 hx2 hy2
      have kX := (Bk.new w4 #[.int .i64 u, .int .i64 v] 23).alloc (.cells #[.int .i64 u, .int .i64 v] 23)
      replace kR := (kR.alloc (.cells #[.int .i64 u, .int .i64 v] 23)).alloc (.cells #[.int .i64 u, .int .i64 v] 23)
      replace hB1 := balloc (balloc hB1 (.cells #[.int .i64 u, .int .i64 v] 23)) (.cells #[.int .i64 u, .int .i64 v] 23)
      by_cases hbad : v < u ∨ 64 ≤ v
      · refine (Check_bad u v _ (by omega)).mono ?_
        rintro e w5 ⟨rfl, rfl⟩
        have HV : Hid (parA l = (0, 0, 2)) := Lib.hid (by rw [HP.out, if_pos hbad])
        clear hbad HP kX cR fR lR
        generalize (w4.alloc (.cells #[.int .i64 u, .int .i64 v] 23)).alloc (.cells #[.int .i64 u, .int .i64 v] 23) = w6 at *
        obtain ⟨cR, fR, lR⟩ := kR.facts
        go_wp2_with fail
        have kF := kR.put2' (.int .i64 0) (.int .i64 0)
        have hBF := below_put2' (p := w.heap.size) hB1 (by omega) (.int .i64 0) (.int .i64 0)
        clear cR fR lR
        generalize ((w6.setCell ⟨w.heap.size, 0, none⟩ (.int .i64 0)).setCell ⟨w.heap.size, 1, none⟩ (.int .i64 0)) = wF at *
        obtain ⟨cF, fF, lF⟩ := kF.facts
        exact bodyPost_ret (v := .tuple #[.agg #[.int .i64 0, .int .i64 0], .int .i64 2]) (by simp [results, Tryd.results9, go_sem, cF]) rfl ⟨by rw [HV.out], hBF⟩
      · refine (Check_ok u v _ (by omega) (by omega) (by omega)).mono ?_
        rintro e w5 ⟨rfl, rfl⟩
        have HV : Hid (parA l = (u, v, 0)) := Lib.hid (by rw [HP.out, if_neg hbad])
        clear hbad HP cR fR lR
        generalize (w4.alloc (.cells #[.int .i64 u, .int .i64 v] 23)).alloc (.cells #[.int .i64 u, .int .i64 v] 23) = w6 at *
        obtain ⟨cR, fR, lR⟩ := kR.facts
        obtain ⟨cX, fX, lX⟩ := kX.facts
        go_wp2_with fail
        have kF := kR.put2' (.int .i64 u) (.int .i64 v)
        have hBF := below_put2' (p := w.heap.size) hB1 (by omega) (.int .i64 u) (.int .i64 v)
        clear cR fR lR
        generalize ((w6.setCell ⟨w.heap.size, 0, none⟩ (.int .i64 u)).setCell ⟨w.heap.size, 1, none⟩ (.int .i64 v)) = wF at *
        obtain ⟨cF, fF, lF⟩ := kF.facts
        exact bodyPost_ret (v := .tuple #[.agg #[.int .i64 u, .int .i64 v], .int .i64 0]) (by simp [results, Tryd.results9, go_sem, cF]) rfl ⟨by rw [HV.out], hBF⟩
      
  all_goals
    have HV : Hid (parA l = (0, 0, 3)) := Lib.hid hpar
    have hx2 : ∀ x, numM 18 c1 = some x → (x : Int) < 1000000000000000000 := fun x h => by have := numM_lt 18 _ _ h; omega
    have hy2 : ∀ y, numM 18 tl = some y → (y : Int) < 1000000000000000000 := fun y h => by have := numM_lt 18 _ _ h; omega
    clear hx2 hy2 hn1 hn2 hpar HP
    generalize hw1 : w.alloc (.cells #[.int .i64 0, .int .i64 0] 23) = w1 at *
    obtain ⟨cR, fR, lR⟩ := kR.facts
    rcases fb with _ | _
    all_goals
      simp only [if_true, if_false, Bool.false_eq_true] at htl
      go_enter Tryd.func9, Tryd.ntmps9
      go_wp2_with fail
      refine (Cut_any l [46, 46] _ hl hC).mono ?_
      rw [HC.out]
      rintro e w2 ⟨rfl, hb2⟩
      simp only
      clear cR fR lR hw1
      replace kR := kR.to hb2
      replace hB1 := bnext hB1 hb2
      obtain ⟨cR, fR, lR⟩ := kR.facts
      go_wp2_with fail
      refine (number_any c1 _ (by omega)).mono ?_
      rw [N1.out]
      rintro e w3 ⟨rfl, hb3⟩
      clear cR fR lR
      replace kR := kR.to hb3
      replace hB1 := bnext hB1 hb3
      obtain ⟨cR, fR, lR⟩ := kR.facts
      simp only [Option.getD_some, Option.isSome_some, Option.getD_none, Option.isSome_none]
      go_wp2_with fail
      rw [← htl]
      refine (number_any tl _ (by omega)).mono ?_
      rw [N2.out]
      rintro e w4 ⟨rfl, hb4⟩
      clear cR fR lR
      replace kR := kR.to hb4
      replace hB1 := bnext hB1 hb4
      obtain ⟨cR, fR, lR⟩ := kR.facts
      simp only [Option.getD_some, Option.isSome_some, Option.getD_none, Option.isSome_none]
      go_wp2_with fail
      have kF := kR.put2' (.int .i64 0) (.int .i64 0)
      have hBF := below_put2' (p := w.heap.size) hB1 (by omega) (.int .i64 0) (.int .i64 0)
      clear cR fR lR
      generalize ((w4.setCell ⟨w.heap.size, 0, none⟩ (.int .i64 0)).setCell ⟨w.heap.size, 1, none⟩ (.int .i64 0)) = wF at *
      obtain ⟨cF, fF, lF⟩ := kF.facts
      exact bodyPost_ret (v := .tuple #[.agg #[.int .i64 0, .int .i64 0], .int .i64 3]) (by simp [results, Tryd.results9, go_sem, cF]) rfl ⟨by rw [HV.out], hBF⟩
end Go.Proofs.YtmaebbbaooodaaaDoor
