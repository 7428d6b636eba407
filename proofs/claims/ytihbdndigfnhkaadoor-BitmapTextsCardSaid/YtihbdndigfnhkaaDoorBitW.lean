/- Texts of sets: which set a text is, by the program. -/
import Derived.Test.YtihbdndigfnhkaaDoorBitU
namespace Go.Proofs.YtihbdndigfnhkaaDoor
open Go Go.Proofs Go.RowKit
set_option linter.unusedSimpArgs false
set_option linter.unusedVariables false
set_option maxRecDepth 100000

theorem Bk.put2' {w : World} {b : Nat} {t : TypeId} {x y : Value} (h : Bk w b #[x, y] t) (u v : Value) : Bk ((w.setCell ⟨b, 0, none⟩ u).setCell ⟨b, 1, none⟩ v) b #[u, v] t := (h.put 0 u).put 1 v
theorem below_put2' {a w : World} {p : Nat} (h : Below a.heap.size a w) (hp : a.heap.size ≤ p) (u v : Value) : Below a.heap.size a ((w.setCell ⟨p, 0, none⟩ u).setCell ⟨p, 1, none⟩ v) := (h.setCell (p := ⟨p, 0, none⟩) hp u).setCell (p := ⟨p, 1, none⟩) hp v
theorem own_put2' {w : World} {B p : Nat} {e : TypeId} {sz n : Nat} {v : Value} {xs : List Value} (h : w.ownsRow B e sz v n xs) (hp : p < B) (u z : Value) : ((w.setCell ⟨p, 0, none⟩ u).setCell ⟨p, 1, none⟩ z).ownsRow B e sz v n xs := own_far (p := ⟨p, 1, none⟩) (own_far (p := ⟨p, 0, none⟩) h hp u) hp z
theorem Rd.far' {w : World} {sz n : Nat} {A : Option Addr} {xs : List Value} (h : Rd w sz A n xs) {p : Addr} (hp : ∀ b off, 0 < n → A = some ⟨b, off, none⟩ → b ≠ p.block) (u : Value) : Rd (w.setCell p u) sz A n xs := by
  refine ⟨h.1, fun hn => ?_⟩
  obtain ⟨b, off, e, hb, hc⟩ := h.2 hn
  refine ⟨b, off, e, by simpa using hb, fun j v hv => cell_far (hc j v hv) (by exact hp b off hn e) u⟩
theorem byW_len (l : List UInt8) : (byW l).length = l.length := by simp [byW]
theorem Rd.byte {w : World} {A : Option Addr} {n : Nat} {l : List UInt8} (h : Rd w 1 A n (byW l)) {i : Nat} (hi : i < n) :
    ∃ b off, A = some ⟨b, off, none⟩ ∧ b < w.heap.size ∧ w.cell? ⟨b, off + i, none⟩ = some (.int .u8 ((l.getD i 0).toNat : Int)) := by
  obtain ⟨b, off, e, hb, hc⟩ := h.2 (by omega)
  have hl : i < l.length := by have := h.1; rw [byW_len] at this; omega
  exact ⟨b, off, e, hb, hc _ _ (by simp [byW, List.getD_eq_getElem?_getD, List.getElem?_eq_getElem hl])⟩
/-- The loop over the digits. -/
def ParRel (w3 : World) (g gb wB m n : Nat) (ds : List UInt8) (i : Value) (wr : World) : Prop :=
  ∃ k : Nat, k ≤ ds.length ∧ i = .int .i64 k ∧ Hid (allOK n ds k = true) ∧ wr.ownsRow w3.heap.size 61 1 (.slice (some ⟨g, 0, none⟩) m m) m (uw (parW n ds k)) ∧ Rd wr 1 (some ⟨gb, 0, none⟩) ds.length (byW ds) ∧ Bk wr wB #[.int .i64 0, .slice none 0 0] 24 ∧ Below w3.heap.size w3 wr

set_option maxHeartbeats 1000000 in
theorem Parse_bad (l : List UInt8) (w : World) (hl : l.length ≤ 10000) (hC : CutOK w) (hz : sizB l = none) :
    Calls Tryd.prog 33 #[.string ⟨l.toArray⟩] w fun e w' => BitsRes w w' (0, [], 3) e := by
  have hcl := cut_len l [58]
  rcases hcut : Lib.cut l [58] with ⟨c1, c2, fb⟩
  unfold sizB at hz
  rw [hcut] at hz hcl
  simp only at hz hcl
  have HC := Lib.hid hcut
  clear hcut
  have kR := Bk.new w #[.int .i64 0, .slice none 0 0] 24
  have hB1 := balloc (Below.refl _ w) (.cells #[.int .i64 0, .slice none 0 0] 24)
  replace hC := hC.alloc (.cells #[.int .i64 0, .slice none 0 0] 24)
  generalize hw1 : w.alloc (.cells #[.int .i64 0, .slice none 0 0] 24) = w1 at *
  obtain ⟨cR, fR, lR⟩ := kR.facts
  have hcase : (fb = false ∧ ∃ x ok, (numM 4 c1).getD 0 = x ∧ (numM 4 c1).isSome = ok ∧ x < 10000) ∨ (fb = true ∧ numM 4 c1 = none) ∨ (fb = true ∧ ∃ n, numM 4 c1 = some n ∧ n < 10000 ∧ c2.length ≠ (n + 3) / 4) := by
    have hb : ∀ n, numM 4 c1 = some n → n < 10000 := fun n h => by have := numM_lt 4 _ _ h; omega
    rcases fb with _ | _
    · refine .inl ⟨rfl, _, _, rfl, rfl, ?_⟩
      rcases hn : numM 4 c1 with _ | n
      · simp
      · simpa using hb n hn
    · rcases hn : numM 4 c1 with _ | n
      · exact .inr (.inl ⟨rfl, rfl⟩)
      · refine .inr (.inr ⟨rfl, n, rfl, hb n hn, ?_⟩)
        rw [hn] at hz
        simp only [if_true] at hz
        intro h
        rw [if_pos h] at hz
        cases hz
  clear hz
  have hsz := Lib.hid (size_any c1)
  rcases hcase with ⟨rfl, x, ok, e1, e2, hx⟩ | ⟨rfl, hn⟩ | ⟨rfl, n, hn, hx, hne⟩
  · rw [e1, e2] at hsz
    clear e1 e2
    go_enter Tryd.func33, Tryd.ntmps33
    go_wp2_with fail
    refine (Cut_any l [58] _ (by omega) hC).mono ?_
    rw [HC.out]
    rintro e w2 ⟨rfl, hb2⟩
    simp only
    clear cR fR lR hw1
    replace kR := kR.to hb2
    replace hB1 := bnext hB1 hb2
    go_wp2_with fail
    refine (hsz.out _ (by omega)).mono ?_
    rintro e w3 ⟨rfl, hb3⟩
    replace kR := kR.to hb3
    replace hB1 := bnext hB1 hb3
    obtain ⟨cR, fR, lR⟩ := kR.facts
    go_wp2_with fail
    have kF := kR.put2' (.int .i64 0) (.slice none 0 0)
    have hBF := below_put2' (p := w.heap.size) hB1 (by omega) (.int .i64 0) (.slice none 0 0)
    clear cR fR lR
    generalize ((w3.setCell ⟨w.heap.size, 0, none⟩ (.int .i64 0)).setCell ⟨w.heap.size, 1, none⟩ (.slice none 0 0)) = wF at *
    obtain ⟨cF, fF, lF⟩ := kF.facts
    exact bodyPost_ret (v := .tuple #[.agg #[.int .i64 0, .slice none 0 0], .int .i64 3]) (by simp [results, Tryd.results33, go_sem, cF]) rfl ⟨none, 0, 0, rfl, own_nil _ _ _ _, hBF⟩
  · rw [hn] at hsz
    clear hn
    go_enter Tryd.func33, Tryd.ntmps33
    go_wp2_with fail
    refine (Cut_any l [58] _ (by omega) hC).mono ?_
    rw [HC.out]
    rintro e w2 ⟨rfl, hb2⟩
    simp only
    clear cR fR lR hw1
    replace kR := kR.to hb2
    replace hB1 := bnext hB1 hb2
    go_wp2_with fail
    refine (hsz.out _ (by omega)).mono ?_
    rintro e w3 ⟨rfl, hb3⟩
    simp only [Option.getD_none, Option.isSome_none]
    replace kR := kR.to hb3
    replace hB1 := bnext hB1 hb3
    obtain ⟨cR, fR, lR⟩ := kR.facts
    go_wp2_with fail
    have kF := kR.put2' (.int .i64 0) (.slice none 0 0)
    have hBF := below_put2' (p := w.heap.size) hB1 (by omega) (.int .i64 0) (.slice none 0 0)
    clear cR fR lR
    generalize ((w3.setCell ⟨w.heap.size, 0, none⟩ (.int .i64 0)).setCell ⟨w.heap.size, 1, none⟩ (.slice none 0 0)) = wF at *
    obtain ⟨cF, fF, lF⟩ := kF.facts
    exact bodyPost_ret (v := .tuple #[.agg #[.int .i64 0, .slice none 0 0], .int .i64 3]) (by simp [results, Tryd.results33, go_sem, cF]) rfl ⟨none, 0, 0, rfl, own_nil _ _ _ _, hBF⟩
  · rw [hn] at hsz
    have hneI : ((c2.length : Int) == ((n : Int) + 3) / 4) = false := by rw [beq_eq_false_iff_ne]; omega
    clear hn hne
    go_enter Tryd.func33, Tryd.ntmps33
    go_wp2_with fail
    refine (Cut_any l [58] _ (by omega) hC).mono ?_
    rw [HC.out]
    rintro e w2 ⟨rfl, hb2⟩
    simp only
    clear cR fR lR hw1
    replace kR := kR.to hb2
    replace hB1 := bnext hB1 hb2
    go_wp2_with fail
    refine (hsz.out _ (by omega)).mono ?_
    rintro e w3 ⟨rfl, hb3⟩
    simp only [Option.getD_some, Option.isSome_some]
    replace kR := kR.to hb3
    replace hB1 := bnext hB1 hb3
    obtain ⟨cR, fR, lR⟩ := kR.facts
    go_wp2_with fail
    have kF := kR.put2' (.int .i64 0) (.slice none 0 0)
    have hBF := below_put2' (p := w.heap.size) hB1 (by omega) (.int .i64 0) (.slice none 0 0)
    clear cR fR lR
    generalize ((w3.setCell ⟨w.heap.size, 0, none⟩ (.int .i64 0)).setCell ⟨w.heap.size, 1, none⟩ (.slice none 0 0)) = wF at *
    obtain ⟨cF, fF, lF⟩ := kF.facts
    exact bodyPost_ret (v := .tuple #[.agg #[.int .i64 0, .slice none 0 0], .int .i64 3]) (by simp [results, Tryd.results33, go_sem, cF]) rfl ⟨none, 0, 0, rfl, own_nil _ _ _ _, hBF⟩
theorem sizB_some (l : List UInt8) (n : Nat) (ds : List UInt8) (h : sizB l = some (n, ds)) : ∃ c1, Lib.cut l [58] = (c1, ds, true) ∧ numM 4 c1 = some n ∧ ds.length = (n + 3) / 4 ∧ n < 10000 := by
  rcases hcut : Lib.cut l [58] with ⟨c1, c2, fb⟩
  unfold sizB at h
  rw [hcut] at h
  simp only at h
  rcases fb with _ | _
  · cases h
  · simp only [if_true] at h
    rcases hn : numM 4 c1 with _ | x
    · rw [hn] at h; cases h
    · rw [hn] at h
      simp only at h
      split at h
      · rename_i hl
        injection h with h
        injection h with h1 h2
        subst h1 h2
        exact ⟨c1, rfl, hn, hl, by have := numM_lt 4 _ _ hn; omega⟩
      · cases h

end Go.Proofs.YtihbdndigfnhkaaDoor
