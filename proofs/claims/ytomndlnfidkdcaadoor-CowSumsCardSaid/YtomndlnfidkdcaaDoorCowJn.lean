/- Words of a sharing in memory; entry.Unpack of a valid word. -/
import Derived.Test.YtomndlnfidkdcaaDoorCowJm
namespace Go.Proofs.YtomndlnfidkdcaaDoor
open Go Go.Proofs Go.RowKit Go.Maps
set_option linter.unusedSimpArgs false
set_option linter.unusedVariables false
set_option maxRecDepth 100000

theorem InS.cells {w : World} {b off n : Nat} {t : Sh} (h : InS w (some ⟨b, off, none⟩) n t) {i j m : Nat} (hi : i < n) (hm : (rowAt t i).length = m) (hj : j < m) :
    ∃ bR ofR cB, b < w.heap.size ∧ w.cell? ⟨b, off + i, none⟩ = some (.slice (some ⟨bR, ofR, none⟩) m cB) ∧ bR < w.heap.size ∧ w.cell? ⟨bR, ofR + j, none⟩ = some (.int .u64 ((wordAt t i j : Nat) : Int)) := by
  subst hm
  obtain ⟨b', off', B, cB, e, hbl, hcell, hRl, hqt, hl70, hsm⟩ := h.at hi
  injection e with e
  injection e with e1 e2
  subst e1 e2
  obtain ⟨bR, ofR, x, rfl, hbR, hx, hxs, hxc⟩ := hRl.word hsm hj
  have hxw : wordAt t i j = x := hx
  exact ⟨bR, ofR, cB, hbl, hcell, hbR, by rw [hxw]; exact hxc⟩
theorem InS.base {w : World} {A : Option Addr} {n : Nat} {t : Sh} (h : InS w A n t) (hn : 0 < n) : ∃ b off, A = some ⟨b, off, none⟩ := by
  obtain ⟨b, off, _, _, e, _⟩ := h.at hn
  exact ⟨b, off, e⟩
theorem unpR_eq {x : Nat} (h : unpE x = 0) : unpR x = (entW x, 0) := Prod.ext rfl (by rw [unpR_err, h])
theorem oUnpack (x : Nat) (k n : Int) (a b c : Bool) (w : World) (h0 : unpE x = 0) (he : entW x = (k, n, a, b, c)) (hL : LayOK w) :
    Calls Tryd.prog 40 #[.int .u64 x] w fun e w' => e = .returned (.tuple #[.agg #[.int .i64 k, .int .i64 n, .bool a, .bool b, .bool c], .int .i64 0]) ∧ Below w.heap.size w w' := by
  have h := Unpack_any x w (by have := unpE_bd x h0; omega) hL
  rw [unpR_eq h0, he] at h
  exact h
theorem MdV.word {t : Sh} (h : MdV t) {i j : Nat} (hi : i < t.length) (hj : j < 6) : unpE (wordAt t i j) = 0 := h.v.ok _ (rowAt_mem hi) _ (wordAt_mem (by rw [h.row hi]; exact hj))
theorem MdV.bound {t : Sh} (h : MdV t) {i j : Nat} (hi : i < t.length) (hj : j < 6) {k n : Int} {a b c : Bool} (he : entW (wordAt t i j) = (k, n, a, b, c)) : (k = 0 ∨ k = 1 ∨ k = 2) ∧ 0 ≤ n ∧ n < 50 := by
  have hn := h.num _ (rowAt_mem hi) _ (wordAt_mem (by rw [h.row hi]; exact hj))
  rw [he] at hn
  rcases ent_cases _ (h.word hi hj) with ⟨e, _⟩ | ⟨m, b', c', e, h0, h1⟩ | ⟨m, e, h0, h1⟩ <;> rw [he] at e <;> injection e with e1 e2 <;> injection e2 with e2 e3 <;> subst e1 e2
  · exact ⟨.inl rfl, by omega, hn⟩
  · exact ⟨.inr (.inl rfl), by omega, hn⟩
  · exact ⟨.inr (.inr rfl), by omega, hn⟩
theorem MdV.shr {t : Sh} (h : MdV t) {i j : Nat} (hi : i < t.length) (hj : j < 6) : shR t i j = (shL t i j, 0) := by
  unfold shR
  rw [if_neg (by simp [ask_ok h.v hi (by rw [h.row hi]; exact hj)])]
  simp only [Int.toNat_natCast]
/-- How many words are not 0 among the first q rows and the first p words of row q. -/
def wantN (t : Sh) (q p : Nat) : Nat := nzS (t.take q) + nzL ((rowAt t q).take p)
theorem wantN_all (t : Sh) : wantN t t.length 0 = nzS t := by simp [wantN, nzL]
theorem wantN_next {t : Sh} {q m : Nat} (h : q < t.length) (hm : (rowAt t q).length = m) : wantN t q m = wantN t (q + 1) 0 := by
  unfold wantN
  rw [List.take_add_one, sh_at h, ← hm, List.take_length]
  simp [nzL, nzS]
theorem wantN_succ {t : Sh} {q p : Nat} (h : p < (rowAt t q).length) : wantN t q (p + 1) = wantN t q p + (if wordAt t q p ≠ 0 then 1 else 0) := by
  unfold wantN nzL wordAt
  rw [List.take_add_one, List.getElem?_eq_getElem h, List.getD_eq_getElem?_getD, List.getElem?_eq_getElem h, List.countP_append]
  simp [List.countP_cons, Nat.add_assoc]
theorem wantN_le {t : Sh} (h : ∀ l ∈ t, l.length = 6) : ∀ q p, q ≤ t.length → wantN t q p ≤ q * 6 + p := by
  intro q p hq
  have h1 : ∀ u : Sh, (∀ l ∈ u, l.length = 6) → nzS u ≤ u.length * 6 := by
    intro u
    induction u with
    | nil => intro _; simp [nzS]
    | cons l u ih =>
      intro hu
      have h2 := ih fun m hm => hu m (by simp [hm])
      have h3 : nzL l ≤ l.length := List.countP_le_length
      have h4 := hu l (by simp)
      simp only [nzS, List.map_cons, List.sum_cons, List.length_cons, Nat.succ_mul] at h2 ⊢
      omega
  have h2 := h1 (t.take q) fun l hl => h l (List.mem_of_mem_take hl)
  have h3 : nzL ((rowAt t q).take p) ≤ ((rowAt t q).take p).length := List.countP_le_length
  have h4 : ((rowAt t q).take p).length ≤ p := by simp; omega
  have h5 : (t.take q).length ≤ q := by simp; omega
  unfold wantN
  have h6 : (t.take q).length * 6 ≤ q * 6 := Nat.mul_le_mul_right _ h5
  omega
theorem maps_at (t : Sh) (k : Int) (i : Nat) (hi : i < 256) : (mapsL t k)[i]? = some ((cntS t (k, (i : Int)) : Nat) : Int) := by
  unfold mapsL
  rw [List.getElem?_map, List.getElem?_range hi]
  rfl
theorem MdV.few {t : Sh} (h : MdV t) (a : Int × Int) : cntS t a ≤ 24 := by
  have h1 := cntS_len (m := 6) (t := t) (fun l hl => by rw [h.six l hl]; exact Nat.le_refl _) a
  have := h.hi
  omega
theorem sum_made {t : Sh} (h : MdV t) : sumN (bothS t) 256 = nzS t := sum_all t h.v.ok
theorem both_bd {t : Sh} (h : MdV t) (k : Nat) : sumN (bothS t) k ≤ k * 48 := sumN_bd (fun i => by have := h.few (1, (i : Int)); have := h.few (2, (i : Int)); unfold bothS; omega) k
theorem RR.take {α : Type} {f : List α → List Value} {sz : Nat} {w : World} {A : Option Addr} {n : Nat} {L : List (List α)} (h : RR f sz w A n L) {k : Nat} (hk : k ≤ n) : RR f sz w A k (L.take k) := by
  obtain ⟨h1, vs, h2, h3⟩ := h
  refine ⟨by rw [List.length_take]; omega, vs.take k, ⟨by rw [List.length_take, h2.1]; omega, fun hk0 => ?_⟩, fun i l hl => ?_⟩
  · obtain ⟨b, off, e, hb, hc⟩ := h2.2 (by omega)
    refine ⟨b, off, e, hb, fun j u hu => ?_⟩
    rw [List.getElem?_take] at hu
    split at hu
    · exact hc j u hu
    · cases hu
  · rw [List.getElem?_take] at hl
    split at hl
    · rename_i hik
      obtain ⟨B, c, e, hr⟩ := h3 i l hl
      exact ⟨B, c, by rw [List.getElem?_take, if_pos hik]; exact e, hr⟩
    · cases hl
end Go.Proofs.YtomndlnfidkdcaaDoor
