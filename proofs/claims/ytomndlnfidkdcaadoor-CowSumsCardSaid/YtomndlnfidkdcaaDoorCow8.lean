/- Tables of entries that a call owns: they grow, and their entries are changed. -/
import Derived.Test.YtomndlnfidkdcaaDoorCow7
import Derived.Test.YtomndlnfidkdcaaDoorOwn2
namespace Go.Proofs.YtomndlnfidkdcaaDoor
open Go Go.Proofs Go.RowKit Go.Maps
set_option linter.unusedSimpArgs false
set_option linter.unusedVariables false
set_option maxRecDepth 100000

set_option maxHeartbeats 1000000 in
theorem CloneE_any (ad : Addr) (n c : Nat) (l : List En5) (w : World) (hr : Rd w 5 (some ad) n (ew l)) (hn : n ≤ 1000) :
    Calls Tryd.prog 70 #[.slice (some ad) n c] w fun e w' => ∃ v', e = .returned v' ∧ w'.ownsRow w.heap.size 61 5 v' n (ew l) ∧ Below w.heap.size w w' := by
  have hnil := fun (w : World) (A : Option Addr) (n c : Nat) => Lib.run_eql_slice_nil (P := Tryd.prog) w 69 61 A n c 0 0 Tryd.underlying69
  obtain ⟨i0, hi, hz0, hz1, hz2⟩ := info_parts infoEn
  go_enter Tryd.func70, Tryd.ntmps70
  go_wp2_with (at_builtin; refine wpList_append_rd _ rfl _ _ 69 rfl w.heap.size 61 i0 (.agg #[.int .i64 0, .int .i64 0, .bool false, .bool false, .bool false]) 5 24 Tryd.underlying69 hi hz0 hz1 hz2 rfl (by decide) _ _ _ rfl (own_empty w 61 5) _ n c (ew l) rfl (hr.alloc _) (ew_one _) (by simp only [maxLen]; omega) (by omega) (by simp) ?_; intro v' w1 hown' hgrow)
  go_ret
  rw [Nat.zero_add, List.nil_append] at hown'
  exact ⟨_, rfl, hown', (((Below.refl _ w).alloc (Nat.le_refl _) _).grown hgrow (by simp) (fun k e => by cases e; exact Nat.le_refl _))⟩

theorem ew_set : ∀ (l : List En5) (j : Nat) (e : En5), (((((ew l).set (j * 5) (.int .i64 e.1)).set (j * 5 + 1) (.int .i64 e.2.1)).set (j * 5 + 2) (.bool e.2.2.1)).set (j * 5 + 3) (.bool e.2.2.2.1)).set (j * 5 + 4) (.bool e.2.2.2.2) = ew (l.set j e)
  | [], j, e => by simp [ew]
  | x :: l, 0, e => by
    rw [List.set_cons_zero, ew_cons, ew_cons]
    rfl
  | x :: l, j + 1, e => by
    rw [List.set_cons_succ, ew_cons, ew_cons, ← ew_set l j e, show (j + 1) * 5 = j * 5 + 1 + 1 + 1 + 1 + 1 by omega]
    rfl
theorem putEn_grown (w : World) (g q : Nat) (e : En5) : w.grownBy (putEn w g q e) (some g) := by
  have one : ∀ (w : World) (o : Nat) (v : Value), w.grownBy (w.setCell ⟨g, o, none⟩ v) (some g) := fun w o v =>
    ⟨rfl, rfl, rfl, by simp, fun k _ hk => Below.heap_setCell w ⟨g, o, none⟩ v k (fun e => hk (by rw [e]))⟩
  have two : ∀ {a b c : World}, a.grownBy b (some g) → b.grownBy c (some g) → a.grownBy c (some g) := fun h k =>
    ⟨k.os.trans h.os, k.tape.trans h.tape, k.output.trans h.output, Nat.le_trans h.size k.size, fun i hi hne => (k.block i (Nat.lt_of_lt_of_le hi h.size) hne).trans (h.block i hi hne)⟩
  exact two (two (two (two (one _ _ _) (one _ _ _)) (one _ _ _)) (one _ _ _)) (one _ _ _)

/-- Tables of entries in blocks of the call's own, from block base on: the outer row vs, and one row a table, no two in one block. -/
structure UOv (w : World) (base : Nat) (vu : Value) (U : List (List En5)) (vs : List Value) : Prop where
  outer : w.ownsRow base 69 1 vu U.length vs
  rows : ∀ (i : Nat) (l : List En5), U[i]? = some l → ∃ r : Value, vs[i]? = some r ∧ w.ownsRow base 61 5 r l.length (ew l)
  off : ∀ (i : Nat) (r : Value) (g : Nat), vs[i]? = some r → r.ownBlock = some g → vu.ownBlock ≠ some g
  apart : ∀ (i j : Nat) (ri rj : Value) (g : Nat), i ≠ j → vs[i]? = some ri → vs[j]? = some rj → ri.ownBlock = some g → rj.ownBlock ≠ some g
def UO (w : World) (base : Nat) (vu : Value) (U : List (List En5)) : Prop := ∃ vs : List Value, UOv w base vu U vs
section
variable {w w' w1 : World} {base : Nat} {vu : Value} {U : List (List En5)} {vs : List Value}
theorem own_kept {e : TypeId} {sz n : Nat} {v : Value} {xs : List Value} (h : w.ownsRow base e sz v n xs) {row : Option Nat} (hg : w.grownBy w' row) (hrow : ∀ g, v.ownBlock = some g → row ≠ some g) : w'.ownsRow base e sz v n xs := by
  refine h.kept hg ?_
  cases hv : v.ownBlock with
  | none => exact .inl rfl
  | some g => exact .inr fun e1 => hrow g hv e1.symm
theorem UOv.kept (h : UOv w base vu U vs) {row : Option Nat} (hg : w.grownBy w' row) (hrow : ∀ g, row = some g → g < base ∨ w.heap.size ≤ g) : UOv w' base vu U vs := by
  have key : ∀ {e : TypeId} {sz n : Nat} {v : Value} {xs : List Value}, w.ownsRow base e sz v n xs → w'.ownsRow base e sz v n xs := by
    intro e sz n v xs h
    refine own_kept h hg fun g hv e1 => ?_
    have := h.lt g hv
    rcases hrow g e1 with h1 | h1 <;> omega
  exact ⟨key h.outer, fun i l hl => by
    obtain ⟨r, hr, ho⟩ := h.rows i l hl
    exact ⟨r, hr, key ho⟩, h.off, h.apart⟩
theorem grown_of {w w' : World} (hb : Below w.heap.size w w') : w.grownBy w' none := ⟨hb.os, hb.tape, hb.output, hb.size, fun k hk _ => hb.block k hk⟩
theorem UOv.to (h : UOv w base vu U vs) (hb : Below w.heap.size w w') : UOv w' base vu U vs := h.kept (grown_of hb) (fun g e => by cases e)
theorem UO.kept (h : UO w base vu U) {row : Option Nat} (hg : w.grownBy w' row) (hrow : ∀ g, row = some g → g < base ∨ w.heap.size ≤ g) : UO w' base vu U := by
  obtain ⟨vs, h⟩ := h
  exact ⟨vs, h.kept hg hrow⟩
theorem UO.to (h : UO w base vu U) (hb : Below w.heap.size w w') : UO w' base vu U := by
  obtain ⟨vs, h⟩ := h
  exact ⟨vs, h.to hb⟩
theorem UO.alloc (h : UO w base vu U) (o : Obj) : UO (w.alloc o) base vu U := h.to (balloc (Below.refl _ _) _)
theorem UO.shape (h : UO w base vu U) : ∃ A c, vu = .slice A U.length c := by
  obtain ⟨vs, h1⟩ := h
  obtain ⟨A, c, e, _⟩ := own_slice h1.outer
  exact ⟨A, c, e⟩
theorem UO.rr {A : Option Addr} {n c : Nat} (h : UO w base (.slice A n c) U) (hn : U.length = n) : RR ew 5 w A n U := by
  obtain ⟨vs, h1, h2, _⟩ := h
  rw [hn] at h1
  refine ⟨hn, vs, Rd.own h1, fun i l hl => ?_⟩
  obtain ⟨r, hr, ho⟩ := h2 i l hl
  obtain ⟨B, cB, rfl, hR⟩ := own_slice ho
  exact ⟨B, cB, hr, hR⟩
theorem UOv.len (h : UOv w base vu U vs) : vs.length = U.length := by have := h.outer.1; omega
theorem UOv.row_lt (h : UOv w base vu U vs) {i : Nat} {r : Value} {g : Nat} (hr : vs[i]? = some r) (hg : r.ownBlock = some g) : base ≤ g ∧ g < w.heap.size := by
  have hi : i < U.length := by rw [← h.len]; exact (List.getElem?_eq_some_iff.1 hr).1
  obtain ⟨r', h1, h2⟩ := h.rows i _ (List.getElem?_eq_getElem hi)
  rw [hr] at h1
  injection h1 with h1
  subst h1
  exact h2.lt g hg
/-- A table more. -/
theorem UOv.push (h : UOv w base vu U vs) (hb : Below w.heap.size w w1) (hbase : base ≤ w.heap.size) (o : Obj) {r : Value} {l : List En5} (hr : w1.ownsRow w.heap.size 61 5 r l.length (ew l)) {v' : Value} {w2 : World}
    (hown : w2.ownsRow base 69 1 v' (U.length + 1) (vs ++ [r])) (hg : (w1.alloc o).grownBy w2 vu.ownBlock) (hloc : v'.ownBlock = vu.ownBlock ∨ v'.ownBlock = some (w1.alloc o).heap.size) : UOv w2 base v' (U ++ [l]) (vs ++ [r]) := by
  have hA := (h.to hb).to (balloc (Below.refl _ _) o)
  have hrA := hr.alloc o
  have hsz : w.heap.size ≤ (w1.alloc o).heap.size := by have := hb.size; simp; omega
  have hlen := h.len
  have hvu : ∀ g, vu.ownBlock = some g → g < w.heap.size := fun g hg => (h.outer.lt g hg).2
  have hr2 : ∀ g, r.ownBlock = some g → w.heap.size ≤ g ∧ g < (w1.alloc o).heap.size := fun g hg => hrA.lt g hg
  have hrv : ∀ g, r.ownBlock = some g → vu.ownBlock ≠ some g := fun g h1 h2 => by
    have := (hr2 g h1).1
    have := hvu g h2
    omega
  have rOld : ∀ (i : Nat) (q : Value) (g : Nat), vs[i]? = some q → q.ownBlock = some g → g < w.heap.size := fun i q g h1 h2 => (h.row_lt h1 h2).2
  have at_ : ∀ (i : Nat) (q : Value), (vs ++ [r])[i]? = some q → (i < vs.length ∧ vs[i]? = some q) ∨ (i = vs.length ∧ q = r) := by
    intro i q hq
    rcases Nat.lt_or_ge i vs.length with h1 | h1
    · rw [List.getElem?_append_left h1] at hq
      exact .inl ⟨h1, hq⟩
    · rw [List.getElem?_append_right h1] at hq
      rcases Nat.eq_zero_or_pos (i - vs.length) with h2 | h2
      · rw [h2] at hq
        simp at hq
        exact .inr ⟨by omega, hq.symm⟩
      · rw [List.getElem?_eq_none (by simp; omega)] at hq
        cases hq
  refine ⟨by simpa using hown, fun i m hm => ?_, fun i q g hq hqg => ?_, fun i j qi qj g hij hqi hqj hg1 => ?_⟩
  · rcases Nat.lt_or_ge i U.length with h1 | h1
    · rw [List.getElem?_append_left h1] at hm
      obtain ⟨q, hq, ho⟩ := hA.rows i m hm
      refine ⟨q, by rw [List.getElem?_append_left (by omega)]; exact hq, own_kept ho hg fun g hqg => ?_⟩
      exact h.off i q g hq hqg
    · rw [List.getElem?_append_right h1] at hm
      have h2 : i - U.length = 0 := by
        rcases Nat.eq_zero_or_pos (i - U.length) with h2 | h2
        · exact h2
        · rw [List.getElem?_eq_none (by simp; omega)] at hm
          cases hm
      rw [h2] at hm
      simp at hm
      subst hm
      refine ⟨r, by rw [List.getElem?_append_right (by omega), show i - vs.length = 0 by omega]; rfl, own_kept (own_less hrA hbase) hg fun g hqg => hrv g hqg⟩
  · rcases at_ i q hq with ⟨_, h1⟩ | ⟨_, rfl⟩
    · rcases hloc with h2 | h2
      · rw [h2]; exact h.off i q g h1 hqg
      · rw [h2]
        intro h3
        injection h3 with h3
        have := rOld i q g h1 hqg
        omega
    · rcases hloc with h2 | h2
      · rw [h2]; exact hrv g hqg
      · rw [h2]
        intro h3
        injection h3 with h3
        have := (hr2 g hqg).2
        omega
  · rcases at_ i qi hqi with ⟨_, h1⟩ | ⟨h1', rfl⟩
    · rcases at_ j qj hqj with ⟨_, h2⟩ | ⟨_, rfl⟩
      · exact h.apart i j qi qj g hij h1 h2 hg1
      · intro h3
        have := rOld i qi g h1 hg1
        have := (hr2 g h3).1
        omega
    · rcases at_ j qj hqj with ⟨_, h2⟩ | ⟨h2', rfl⟩
      · intro h3
        have := rOld j qj g h2 h3
        have := (hr2 g hg1).1
        omega
      · omega
/-- An entry is changed. -/
theorem UOv.put {A : Option Addr} {n c : Nat} (h : UOv w base (.slice A n c) U vs) (hn : U.length = n) {i j : Nat} {l : List En5} {x : En5} (hi : U[i]? = some l) (hj : l[j]? = some x) :
    ∃ ga g cR, A = some ⟨ga, 0, none⟩ ∧ ga < w.heap.size ∧ w.cell? ⟨ga, i, none⟩ = some (.slice (some ⟨g, 0, none⟩) l.length cR) ∧ base ≤ g ∧ g < w.heap.size ∧ ga ≠ g ∧ (∀ o, w.frozen? ⟨g, o, none⟩ = false) ∧
      (w.cell? ⟨g, j * 5, none⟩ = some (.int .i64 x.1) ∧ w.cell? ⟨g, j * 5 + 1, none⟩ = some (.int .i64 x.2.1) ∧ w.cell? ⟨g, j * 5 + 2, none⟩ = some (.bool x.2.2.1) ∧ w.cell? ⟨g, j * 5 + 3, none⟩ = some (.bool x.2.2.2.1) ∧ w.cell? ⟨g, j * 5 + 4, none⟩ = some (.bool x.2.2.2.2)) ∧
      ∀ e, UOv (putEn w g j e) base (.slice A n c) (U.set i (l.set j e)) vs := by
  have hiU : i < U.length := (List.getElem?_eq_some_iff.1 hi).1
  have hjl : j < l.length := (List.getElem?_eq_some_iff.1 hj).1
  obtain ⟨ga, capa, hva, hba, hla⟩ := h.outer.form (by omega)
  have hA : A = some ⟨ga, 0, none⟩ := by injection hva
  subst hA
  obtain ⟨r, hr, ho⟩ := h.rows i l hi
  obtain ⟨g, cR, rfl, hbg, hlg⟩ := ho.form (by omega)
  have hne : ga ≠ g := fun e => h.off i _ g hr rfl (by rw [← e]; rfl)
  have hU : w.ownsRow base 69 1 (.slice (some ⟨ga, 0, none⟩) n c) n vs := hn ▸ h.outer
  have c0 := hU.cellAt i (by omega)
  rw [hr] at c0
  obtain ⟨a0, a1, a2, a3, a4⟩ := ew_at l j x hj
  refine ⟨ga, g, cR, rfl, hla, c0, hbg, hlg, hne, fun o => ho.frozenAt o, ⟨(ho.cellAt _ (by omega)).trans a0, (ho.cellAt _ (by omega)).trans a1, (ho.cellAt _ (by omega)).trans a2, (ho.cellAt _ (by omega)).trans a3, (ho.cellAt _ (by omega)).trans a4⟩, fun e => ?_⟩
  have hgr := putEn_grown w g j e
  refine ⟨by rw [List.length_set]; exact own_kept h.outer hgr (fun q hq e1 => h.off i _ g hr rfl (by rw [hq]; exact e1.symm)), fun k m hm => ?_, h.off, h.apart⟩
  by_cases hk : k = i
  · subst hk
    rw [List.getElem?_set_self (by omega)] at hm
    injection hm with hm
    subst hm
    refine ⟨_, hr, ?_⟩
    rw [List.length_set, ← ew_set]
    exact (((((ho.stored (j * 5) _).1.stored (j * 5 + 1) _).1.stored (j * 5 + 2) _).1.stored (j * 5 + 3) _).1.stored (j * 5 + 4) _).1
  · rw [List.getElem?_set_ne (fun e1 => hk e1.symm)] at hm
    obtain ⟨q, hq, hoq⟩ := h.rows k m hm
    exact ⟨q, hq, own_kept hoq hgr (fun b hb e1 => h.apart k i q _ b hk hq hr hb (by injection e1 with e1; rw [← e1]; rfl))⟩
end
end Go.Proofs.YtomndlnfidkdcaaDoor
