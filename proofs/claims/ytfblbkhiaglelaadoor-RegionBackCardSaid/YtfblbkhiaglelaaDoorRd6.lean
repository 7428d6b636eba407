/- The text of regions: which regions a text is, by the program. -/
import Derived.Test.YtfblbkhiaglelaaDoorRd5
import Derived.Test.YtfblbkhiaglelaaDoorRgB
import Derived.Test.YtfblbkhiaglelaaDoorRgE
import Derived.Test.YtfblbkhiaglelaaDoorOwn2
import Derived.StillTailTactics
namespace Go.Proofs.YtfblbkhiaglelaaDoor
open Go Go.Proofs Go.RowKit
set_option linter.unusedSimpArgs false
set_option linter.unusedVariables false
set_option maxRecDepth 100000

theorem parF_len (s : List UInt8) : ∀ (f a : Nat) (out : List (Int × Int)) (pl : List Int) (o : List (Int × Int)) (p : List Int), out.length = pl.length → parF s f a out pl = (o, p, none) → o.length = p.length
  | 0, a, out, pl, o, p, h, e => by
    simp only [parF, Prod.mk.injEq] at e
    rw [← e.1, ← e.2.1]; exact h
  | f + 1, a, out, pl, o, p, h, e => by
    rw [parF] at e
    split at e
    · simp at e
    · split at e
      · simp only [Prod.mk.injEq] at e
        rw [← e.1, ← e.2.1]; simp [h]
      · split at e
        · exact parF_len s f _ _ _ o p (by simp [h]) e
        · simp at e
theorem parF_bd (s : List UInt8) : ∀ (f a : Nat) (out : List (Int × Int)) (pl : List Int) (o : List (Int × Int)) (p : List Int), parF s f a out pl = (o, p, none) → o.length ≤ out.length + f
  | 0, a, out, pl, o, p, e => by
    simp only [parF, Prod.mk.injEq] at e
    rw [← e.1]; omega
  | f + 1, a, out, pl, o, p, e => by
    rw [parF] at e
    split at e
    · simp at e
    · split at e
      · simp only [Prod.mk.injEq] at e
        rw [← e.1]; simp
      · split at e
        · have := parF_bd s f _ _ _ o p e
          simp at this
          omega
        · simp at e
theorem rgF_idx (rs : List (Int × Int)) : ∀ (f i : Nat), (rgF rs f i).1 ≠ 0 → ∃ k, i ≤ k ∧ k < i + f ∧ (rgF rs f i).2 = (k : Int)
  | 0, i, h => by simp [rgF] at h
  | f + 1, i, h => by
    rw [rgF] at h ⊢
    split at h
    · rename_i h0
      rw [if_pos h0]
      obtain ⟨k, h1, h2, h3⟩ := rgF_idx rs f (i + 1) h
      exact ⟨k, by omega, by omega, h3⟩
    · rename_i h0
      rw [if_neg h0]
      exact ⟨i, by omega, by omega, rfl⟩
theorem regE_idx (rs : List (Int × Int)) (h : (regE rs).1 ≠ 0) : ∃ k, k < rs.length ∧ (regE rs).2 = (k : Int) := by
  obtain ⟨k, _, h2, h3⟩ := rgF_idx rs rs.length 0 h
  exact ⟨k, by omega, h3⟩
/-- All ranges of a text. -/
def parA (s : List UInt8) : List (Int × Int) × List Int × Option Nat := if s.length = 0 then ([], [], none) else parF s (s.length + 1) 0 [] []
theorem parA_len (s : List UInt8) (o : List (Int × Int)) (p : List Int) (h : parA s = (o, p, none)) : o.length = p.length := by
  unfold parA at h
  split at h
  · simp only [Prod.mk.injEq] at h
    rw [← h.1, ← h.2.1]; rfl
  · exact parF_len s _ _ _ _ o p rfl h
theorem parA_bd (s : List UInt8) (o : List (Int × Int)) (p : List Int) (h : parA s = (o, p, none)) : o.length ≤ s.length + 1 := by
  unfold parA at h
  split at h
  · simp only [Prod.mk.injEq] at h
    rw [← h.1]; simp
  · have := parF_bd s _ _ _ _ o p h
    simpa using this
theorem parG_long (s : List UInt8) (h : 200 < s.length) : parG s = ([], 4, 200) := by unfold parG; rw [if_pos h]
theorem parG_bad (s : List UInt8) (h : ¬ 200 < s.length) (o : List (Int × Int)) (p : List Int) (q : Nat) (e : parA s = (o, p, some q)) : parG s = ([], 3, (q : Int)) := by
  unfold parG
  unfold parA at e
  rw [if_neg h]
  split at e
  · cases e
  · rename_i h0
    rw [if_neg h0, e]
theorem parG_no (s : List UInt8) (h : ¬ 200 < s.length) (o : List (Int × Int)) (p : List Int) (e : parA s = (o, p, none)) (k : Nat) (z : Int) (hz : (regE o).1 ≠ 0) (hk : (regE o).2 = (k : Int)) (hp : p.getD k 0 = z) : parG s = ([], (regE o).1, z) := by
  unfold parG
  unfold parA at e
  rw [if_neg h]
  split at e
  · simp only [Prod.mk.injEq] at e
    rw [← e.1] at hz
    exact absurd rfl hz
  · rename_i h0
    rw [if_neg h0, e]
    simp only
    rw [if_pos hz, hk, Int.toNat_natCast, hp]
theorem parG_ok (s : List UInt8) (h : ¬ 200 < s.length) (o : List (Int × Int)) (p : List Int) (e : parA s = (o, p, none)) (hz : (regE o).1 = 0) : parG s = (o, 0, 0) := by
  unfold parG
  unfold parA at e
  rw [if_neg h]
  split at e
  · rename_i h0
    simp only [Prod.mk.injEq] at e
    rw [if_pos h0, ← e.1]
  · rename_i h0
    rw [if_neg h0, e]
    simp only
    rw [if_neg (by simpa using hz)]
set_option maxHeartbeats 1000000 in
theorem rparse_nil (b : Nat) (w : World) (K : Bk w b #[.string ⟨([] : List UInt8).toArray⟩, .int .i64 0, .bool false] 71) :
    Calls Tryd.prog 41 #[.pointer (some ⟨b, 0, none⟩)] w fun e w' => PsE w b [] ([], [], none) e w' := by
  have cb0 := K.cell 0
  simp only [List.getElem?_toArray, List.getElem?_cons_zero, List.getElem?_cons_succ] at cb0
  go_enter Tryd.func41, Tryd.ntmps41
  go_wp2_with fail
  go_loopw [2, 3] (fun v1 v2 wr => v1 = .slice none 0 0 ∧ v2 = .slice none 0 0 ∧ wr = w) (fun _ _ _ => 0)
  case atStart => exact ⟨rfl, rfl, rfl⟩
  case round =>
    obtain ⟨rfl, rfl, rfl⟩ := hrel
    go_wp2_with fail
    go_ret2
    exact ⟨Tch.refl _ _, .slice none 0 0, .slice none 0 0, 0, rfl, ⟨World.ownsRow_nil _ _ _ _, World.ownsRow_nil _ _ _ _, fun g e => by cases e⟩, K⟩
theorem rparseA (s : List UInt8) (b : Nat) (w : World) (K : Bk w b #[.string ⟨s.toArray⟩, .int .i64 0, .bool false] 71) (hs : s.length ≤ 1000) :
    Calls Tryd.prog 41 #[.pointer (some ⟨b, 0, none⟩)] w fun e w' => PsE w b s (parA s) e w' := by
  unfold parA
  by_cases h : s.length = 0
  · obtain rfl : s = [] := List.eq_nil_of_length_eq_zero h
    exact rparse_nil b w K
  · rw [if_neg h]
    exact rparse_any s b w K (by omega) hs
/-- Regions and a fault as results. -/
def RgPar (w w' : World) (R : List (Int × Int) × Int × Int) (e : Ending) : Prop :=
  ∃ A c, e = .returned (.tuple #[.slice A R.1.length c, .agg #[.int .i64 R.2.1, .int .i64 R.2.2]]) ∧ Rd w' 2 A R.1.length (flat2 .i64 R.1) ∧ Below w.heap.size w w'
theorem put2F {w : World} {b : Nat} {x y u v : Value} {t : TypeId} (K : Bk w b #[x, y] t) : Bk ((w.setCell ⟨b, 0, none⟩ u).setCell ⟨b, 1, none⟩ v) b #[u, v] t := (K.put 0 u).put 1 v
theorem below2F {a w : World} {B b : Nat} (h : Below B a w) (hb : B ≤ b) (u v : Value) : Below B a ((w.setCell ⟨b, 0, none⟩ u).setCell ⟨b, 1, none⟩ v) := (h.setCell (p := ⟨b, 0, none⟩) hb u).setCell (p := ⟨b, 1, none⟩) hb v
set_option maxHeartbeats 2000000 in
theorem Parse24_any (s : List UInt8) (w : World) (hs : s.length ≤ 1000) :
    Calls Tryd.prog 21 #[.string ⟨s.toArray⟩] w fun e w' => RgPar w w' (parG s) e := by
  have kR := Bk.new w #[.int .i64 0, .int .i64 0] 42
  have hB1 := balloc (Below.refl _ w) (.cells #[.int .i64 0, .int .i64 0] 42)
  by_cases hL : 200 < s.length
  · rw [parG_long s hL]
    have hLI : (200 : Int) < (s.length : Int) := by omega
    go_enter Tryd.func21, Tryd.ntmps21
    go_wp2_with fail
    exact bodyPost_ret (v := .tuple #[.slice none 0 0, .agg #[.int .i64 4, .int .i64 200]]) (by simp [results, Tryd.results21, go_sem]) rfl ⟨none, 0, rfl, Rd.zero _, balloc (Below.refl _ _) _⟩
  · have hLI : ¬ (200 : Int) < (s.length : Int) := by omega
    have HP := Lib.hid (fun b w K => rparseA s b w K hs)
    obtain ⟨R, hR⟩ : ∃ R, parA s = R := ⟨_, rfl⟩
    rw [hR] at HP
    have K0 := Bk.new (w.alloc (.cells #[.int .i64 0, .int .i64 0] 42)) #[.string ⟨s.toArray⟩, .int .i64 0, .bool false] 71
    rw [World.size_alloc] at K0
    replace kR := kR.alloc (.cells #[.string ⟨s.toArray⟩, .int .i64 0, .bool false] 71)
    replace hB1 := balloc hB1 (.cells #[.string ⟨s.toArray⟩, .int .i64 0, .bool false] 71)
    go_enter Tryd.func21, Tryd.ntmps21
    go_wp2_with fail
    generalize (w.alloc (.cells #[.int .i64 0, .int .i64 0] 42)).alloc (.cells #[.string ⟨s.toArray⟩, .int .i64 0, .bool false] 71) = w0 at *
    obtain ⟨b, hb⟩ : ∃ b, w.heap.size + 1 = b := ⟨_, rfl⟩
    rw [hb] at K0 ⊢
    have hpb : w.heap.size < b := by omega
    have hpl := kR.lt
    clear hb
    go_at_call 41
    refine (HP.out b w0 K0).mono ?_
    intro e w2 h2
    clear HP
    rcases R with ⟨out, pl, _ | q⟩
    · obtain ⟨T2, v1, v2, z, rfl, TW, K2⟩ := h2
      have hB2 := T2.below hB1 (by omega) (by omega)
      have kR2 := T2.bk kR (by omega)
      have hsz := T2.size
      have hlen := parA_len s out pl hR
      have hbd := parA_bd s out pl hR
      have own1 := TW.a
      obtain ⟨A1, c1, rfl, r1⟩ := own_slice TW.a
      obtain ⟨A2, c2, rfl, r2⟩ := own_slice TW.b
      have e2 := K2.cell 2
      simp only [List.getElem?_toArray, List.getElem?_cons_zero, List.getElem?_cons_succ] at e2
      have HC := Lib.hid (fun w r => rCheckP_any A1 out.length c1 out w r (by omega))
      clear TW K0 T2 hB1 kR K2
      by_cases hE : (regE out).1 = 0
      · have HV := Lib.hid (parG_ok s hL out pl hR hE)
        rw [hE] at HC
        clear hR hE hlen
        obtain ⟨N, hN⟩ : ∃ N, out.length = N := ⟨_, rfl⟩
        rw [hN] at HC r1 hbd own1 ⊢
        have HN := Lib.hid hN
        clear hN
        go_wp2_with fail
        go_at_call 28
        refine (HC.out _ r1).mono ?_
        rintro e w3 ⟨rfl, hb3⟩
        have own3 := own_below own1 hb3
        clear own1 r1
        have kR3 := kR2.to hb3
        have hB3 := hB2.trans (hb3.mono (by omega))
        obtain ⟨cR, fR, lR⟩ := kR3.facts
        go_wp2_with fail
        clear cR fR lR
        have kF := put2F (u := .int .i64 0) (v := .int .i64 0) kR3
        have hBF := below2F hB3 (Nat.le_refl _) (.int .i64 0) (.int .i64 0)
        have rF := Rd.own (own_far (p := ⟨w.heap.size, 1, none⟩) (own_far (p := ⟨w.heap.size, 0, none⟩) own3 hpl (.int .i64 0)) hpl (.int .i64 0))
        generalize ((w3.setCell ⟨w.heap.size, 0, none⟩ (.int .i64 0)).setCell ⟨w.heap.size, 1, none⟩ (.int .i64 0)) = wF at *
        obtain ⟨cF, fF, lF⟩ := kF.facts
        exact bodyPost_ret (v := .tuple #[.slice A1 N c1, .agg #[.int .i64 0, .int .i64 0]]) (by simp [results, Tryd.results21, go_sem, cF]) rfl ⟨A1, c1, by rw [HV.out, ← HN.out], by rw [HV.out]; simp only [HN.out]; exact rF, hBF⟩
      · obtain ⟨k, hk, hk2⟩ := regE_idx out hE
        obtain ⟨bb, off, z, rfl, hbb, hz, cz⟩ := r2.num (i := k) (by omega)
        have HV := Lib.hid (parG_no s hL out pl hR k z hE hk2 (by rw [List.getD_eq_getElem?_getD, hz]; rfl))
        rw [hk2] at HC
        have hkp : k < pl.length := by omega
        have hkI : (k : Int) < (pl.length : Int) := by omega
        have hpN : pl.length ≤ 10000 := by omega
        obtain ⟨E, hEE⟩ : ∃ E, (regE out).1 = E := ⟨_, rfl⟩
        rw [hEE] at HC HV hE
        have hE' : (E != 0) = true := by simpa using hE
        clear hR hE hlen hk2 hz hEE own1
        go_wp2_with fail
        go_at_call 28
        refine (HC.out _ r1).mono ?_
        rintro e w3 ⟨rfl, hb3⟩
        have kR3 := kR2.to hb3
        have hB3 := hB2.trans (hb3.mono (by omega))
        have c3 := (hb3.cell (p := ⟨bb, off + k, none⟩) hbb).trans cz
        clear cz r1 r2 e2 HC
        obtain ⟨cR, fR, lR⟩ := kR3.facts
        go_wp2_with fail
        go_still_tail 7, (by kernel_rfl)
        change wpList _ _ _ _ _ w3.drew
        go_wp2_with fail
        have kF := (put2F (u := .int .i64 E) (v := .int .i64 z) kR3).drew
        have hBF := below_drew (below2F hB3 (Nat.le_refl _) (.int .i64 E) (.int .i64 z))
        clear cR fR lR
        generalize (((w3.setCell ⟨w.heap.size, 0, none⟩ (.int .i64 E)).setCell ⟨w.heap.size, 1, none⟩ (.int .i64 z)).drew) = wF at *
        obtain ⟨cF, fF, lF⟩ := kF.facts
        exact bodyPost_ret (v := .tuple #[.slice none 0 0, .agg #[.int .i64 E, .int .i64 z]]) (by simp [results, Tryd.results21, go_sem, cF]) rfl ⟨none, 0, by rw [HV.out]; rfl, by rw [HV.out]; exact Rd.zero _, hBF⟩
    · obtain ⟨T2, rfl, K2⟩ := h2
      have HV := Lib.hid (parG_bad s hL out pl q hR)
      have hB2 := T2.below hB1 (by omega) (by omega)
      have kR2 := T2.bk kR (by omega)
      have e1 := K2.cell 1
      have e2 := K2.cell 2
      simp only [List.getElem?_toArray, List.getElem?_cons_zero, List.getElem?_cons_succ] at e1 e2
      obtain ⟨cR, fR, lR⟩ := kR2.facts
      clear K0 T2 hB1 kR K2 hR
      go_wp2_with fail
      go_still_tail 4, (by kernel_rfl)
      change wpList _ _ _ _ _ w2.drew
      go_wp2_with fail
      have kF := (put2F (u := .int .i64 3) (v := .int .i64 (q : Int)) kR2).drew
      have hBF := below_drew (below2F hB2 (Nat.le_refl _) (.int .i64 3) (.int .i64 (q : Int)))
      clear cR fR lR
      generalize (((w2.setCell ⟨w.heap.size, 0, none⟩ (.int .i64 3)).setCell ⟨w.heap.size, 1, none⟩ (.int .i64 (q : Int))).drew) = wF at *
      obtain ⟨cF, fF, lF⟩ := kF.facts
      exact bodyPost_ret (v := .tuple #[.slice none 0 0, .agg #[.int .i64 3, .int .i64 (q : Int)]]) (by simp [results, Tryd.results21, go_sem, cF]) rfl ⟨none, 0, by rw [HV.out]; rfl, by rw [HV.out]; exact Rd.zero _, hBF⟩
end Go.Proofs.YtfblbkhiaglelaaDoor
