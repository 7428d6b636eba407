/- Boxes and rows that lie apart; entries of a leaf that are used. -/
import Derived.Test.YtnmknbnidfmmoaaDoorOthers
namespace Go.Proofs.YtnmknbnidfmmoaaDoor
open Go Go.Proofs Go.RowKit
set_option linter.unusedSimpArgs false
set_option linter.unusedVariables false

theorem Rd.apart {w : World} {A : Option Addr} {n g : Nat} {xs : List Value} {cs : Array Value} {t : TypeId} (h : Rd w 1 A n xs) (k : Bk w g cs t) (hn : cs.size < n) : ∀ b off, 0 < n → A = some ⟨b, off, none⟩ → b ≠ g := by
  intro b off h0 he hb
  obtain ⟨b', off', e', hb', hc⟩ := h.2 (by omega)
  rw [he] at e'
  obtain ⟨rfl, rfl⟩ : b = b' ∧ off = off' := by injection e' with e'; injection e' with e1 e2; exact ⟨e1, e2⟩
  subst hb
  have hl : cs.size < xs.length := by have := h.1; omega
  have h1 := hc cs.size xs[cs.size] (by rw [List.getElem?_eq_getElem hl])
  rw [k.cell] at h1
  rw [Array.getElem?_eq_none (by omega)] at h1
  exact absurd h1 (by simp)
theorem TbV.put5 {w : World} {v : Value} {t : Tb} {g : Nat} {cs : Array Value} {ty : TypeId} (h : TbV w v t) (k : Bk w g cs ty) (h1 : cs.size < t.2.1.length) (h2 : cs.size < t.2.2.length) (y0 y1 y2 y3 y4 : Value) :
    TbV (((((w.setCell ⟨g, 0, none⟩ y0).setCell ⟨g, 1, none⟩ y1).setCell ⟨g, 2, none⟩ y2).setCell ⟨g, 3, none⟩ y3).setCell ⟨g, 4, none⟩ y4) v t := by
  obtain ⟨A, c, B, d, rfl, r1, r2, r3⟩ := h
  have k1 := r1.apart k h1
  have k2 := r2.apart k h2
  exact ⟨A, c, B, d, rfl, ((((r1.far (p := ⟨g, 0, none⟩) k1 y0).far (p := ⟨g, 1, none⟩) k1 y1).far (p := ⟨g, 2, none⟩) k1 y2).far (p := ⟨g, 3, none⟩) k1 y3).far (p := ⟨g, 4, none⟩) k1 y4,
    ((((r2.far (p := ⟨g, 0, none⟩) k2 y0).far (p := ⟨g, 1, none⟩) k2 y1).far (p := ⟨g, 2, none⟩) k2 y2).far (p := ⟨g, 3, none⟩) k2 y3).far (p := ⟨g, 4, none⟩) k2 y4, r3⟩
theorem Bk.far5 {w : World} {b g : Nat} {cs : Array Value} {t : TypeId} (h : Bk w b cs t) (hp : b ≠ g) (y0 y1 y2 y3 y4 : Value) :
    Bk (((((w.setCell ⟨g, 0, none⟩ y0).setCell ⟨g, 1, none⟩ y1).setCell ⟨g, 2, none⟩ y2).setCell ⟨g, 3, none⟩ y3).setCell ⟨g, 4, none⟩ y4) b cs t :=
  ((((h.far (p := ⟨g, 0, none⟩) hp y0).far (p := ⟨g, 1, none⟩) hp y1).far (p := ⟨g, 2, none⟩) hp y2).far (p := ⟨g, 3, none⟩) hp y3).far (p := ⟨g, 4, none⟩) hp y4
/-- Whether one of the first entries of a leaf is used. -/
def usedB (es : List Nat) (l : Nat) : Nat → Bool
  | 0 => false
  | j + 1 => usedB es l j || (unpK (es.getD (l * 8 + j) 0) != 0)
theorem usedB_iff (es : List Nat) (l j : Nat) : usedB es l j = false ↔ ∀ i, i < j → unpK (es.getD (l * 8 + i) 0) = 0 := by
  induction j with
  | zero => simp [usedB]
  | succ j ih =>
    unfold usedB
    rw [Bool.or_eq_false_iff, ih]
    constructor
    · rintro ⟨h1, h2⟩ i hi
      rcases Nat.lt_or_ge i j with h3 | h3
      · exact h1 i h3
      · rw [show i = j by omega]
        simpa using h2
    · intro h
      exact ⟨fun i hi => h i (by omega), by simpa using h j (by omega)⟩
theorem used_empty (es : List Nat) (l : Nat) : usedB es l 8 = !emptyB es l := by
  rcases he : emptyB es l with _ | _
  · rcases hu : usedB es l 8 with _ | _
    · have := (empty_iff es l).2 ((usedB_iff es l 8).1 hu)
      rw [this] at he
      exact absurd he (by simp)
    · rfl
  · rw [(usedB_iff es l 8).2 ((empty_iff es l).1 he)]
    rfl
theorem get_is {r : Int} {ls : List Int} {es : List Nat} (h : tabE r ls es = 0) (p : Nat) (hp : p < 64) : getR r ls es p = unpR (es.getD p 0) := by
  obtain ⟨_, _, _, _, _, h1, h2, _⟩ := get_at h p hp
  rw [h1, h2]
/-- What clearing an entry of a table that is made leaves. -/
theorem back_made {es : List Nat} (h : tabE 1 (mdL 8) es = 0) (p : Nat) (hp : p < 64) (hk : unpK (es.getD p 0) ≠ 0) :
    ∃ (lb : List Int) (leaf : Int) (u : Bool), clearR 1 (mdL 8) es p = ((1, lb, es.set p 0), leaf, 0) ∧ tabE 1 lb (es.set p 0) = 0 ∧ usedB (es.set p 0) (p / 8) 8 = u ∧ decide (lb.getD (p / 8) 0 = -1) = !u ∧ (leaf == -1) = u ∧ (u = true ∨ (leaf == 100 + (p : Int) / 8) = true) := by
  have h8 := (tab_zero h).2.2.2.2.2.2.2 p hp
  have hU := (tab_zero h).2.2.2.2.2.2.1 p hp
  rw [unpK_eq _ hU] at hk
  have hne : (mdL 8).getD (p / 8) 0 ≠ -1 := fun e => h8 ⟨by omega, e⟩
  have hat := (mdL_at (p / 8) (by omega)).resolve_left hne
  rcases back_clear h p hp (by rw [unpK_eq _ hU]; exact hk) with ⟨he, h1, h2⟩ | ⟨he, h1, h2⟩
  · refine ⟨_, _, _, h1, h2, rfl, ?_, ?_, ?_⟩
    · rw [used_empty, he, getD_setI _ _ _ _ (by rw [md_len]; omega), if_pos rfl]
      rfl
    · rw [used_empty, he]
      simpa using hne
    · right
      rw [hat]
      simp
  · refine ⟨_, _, _, h1, h2, rfl, ?_, ?_, ?_⟩
    · rw [used_empty, he]
      simpa using hne
    · rw [used_empty, he]
      rfl
    · left
      rw [used_empty, he]
      rfl
end Go.Proofs.YtnmknbnidfmmoaaDoor
