/- Rows that are changed entry by entry, and what a fork, and an eviction, make of a sharing. No walk here. -/
import Derived.Test.YtomndlnfidkdcaaDoorCowS
namespace Go.Proofs.YtomndlnfidkdcaaDoor
open Go Go.Proofs Go.RowKit Go.Maps
set_option linter.unusedSimpArgs false
set_option linter.unusedVariables false

/-- The first k of D are laid over by the changed ones of E. -/
def mixL {α β : Type} (f : α → β) (E : List α) (D : List β) (k : Nat) : List β := (E.take k).map f ++ D.drop k
section
variable {α β : Type} {f : α → β} {E : List α} {D : List β} {k : Nat}
theorem mixL_zero : mixL f E D 0 = D := by simp [mixL]
theorem mixL_full (h : E.length = D.length) : mixL f E D E.length = E.map f := by
  unfold mixL
  rw [List.take_length, h, List.drop_length, List.append_nil]
theorem mixL_len (h : E.length = D.length) (hk : k ≤ E.length) : (mixL f E D k).length = E.length := by simp [mixL]; omega
theorem mixL_at (h : E.length = D.length) (hk : k ≤ E.length) : (mixL f E D k)[k]? = D[k]? := by
  unfold mixL
  rw [List.getElem?_append_right (by simp; omega), List.getElem?_drop]
  congr 1
  simp
  omega
theorem mixL_set {e : α} (h : E.length = D.length) (he : E[k]? = some e) : (mixL f E D k).set k (f e) = mixL f E D (k + 1) := by
  have hk : k < E.length := (List.getElem?_eq_some_iff.1 he).1
  unfold mixL
  have hl : ((E.take k).map f).length = k := by rw [List.length_map, List.length_take]; omega
  rw [List.take_add_one, he, List.set_append_right _ _ (by omega), hl, Nat.sub_self, List.drop_eq_getElem_cons (i := k) (by omega), List.map_append, List.set_cons_zero]
  simp
theorem mixL_keep {f : α → α} {e : α} {E : List α} (he : E[k]? = some e) (hf : f e = e) : mixL f E E k = mixL f E E (k + 1) := by
  have hk : k < E.length := (List.getElem?_eq_some_iff.1 he).1
  have h2 := mixL_at (f := f) (E := E) (D := E) rfl (Nat.le_of_lt hk)
  rw [he] at h2
  obtain ⟨h3, h4⟩ := List.getElem?_eq_some_iff.1 h2
  rw [← mixL_set rfl he, hf, ← h4, List.set_getElem_self]
end
theorem UOv.far {w w' : World} {base : Nat} {vu : Value} {U : List (List En5)} {vs : List Value} (h : UOv w base vu U vs) {b : Nat} (hg : w.grownBy w' (some b)) (ho : vu.ownBlock ≠ some b) (hr : ∀ (i : Nat) (r : Value), vs[i]? = some r → r.ownBlock ≠ some b) : UOv w' base vu U vs := by
  refine ⟨own_kept h.outer hg fun g hv e => ho (by rw [hv, e]), fun i l hl => ?_, h.off, h.apart⟩
  obtain ⟨r, h1, h2⟩ := h.rows i l hl
  exact ⟨r, h1, own_kept h2 hg fun g hv e => hr i r h1 (by rw [hv, e])⟩
/-- A table more, of a row that was made before. -/
theorem UOv.push2 {w w2 : World} {base : Nat} {vu : Value} {U : List (List En5)} {vs : List Value} (h : UOv w base vu U vs) {r : Value} {l : List En5} (hr : w.ownsRow base 61 5 r l.length (ew l)) (o : Obj)
    (hru : ∀ g, r.ownBlock = some g → vu.ownBlock ≠ some g) (hrr : ∀ (i : Nat) (q : Value) (g : Nat), vs[i]? = some q → r.ownBlock = some g → q.ownBlock ≠ some g) {v' : Value}
    (hown : w2.ownsRow base 69 1 v' (U.length + 1) (vs ++ [r])) (hg : (w.alloc o).grownBy w2 vu.ownBlock) (hloc : v'.ownBlock = vu.ownBlock ∨ v'.ownBlock = some (w.alloc o).heap.size) : UOv w2 base v' (U ++ [l]) (vs ++ [r]) := by
  have hA := h.to (balloc (Below.refl _ _) o)
  have hrA := hr.alloc o
  have hlen := h.len
  have hr2 : ∀ g, r.ownBlock = some g → g < (w.alloc o).heap.size := fun g hg => (hrA.lt g hg).2
  have rOld : ∀ (i : Nat) (q : Value) (g : Nat), vs[i]? = some q → q.ownBlock = some g → g < (w.alloc o).heap.size := fun i q g h1 h2 => (hA.row_lt h1 h2).2
  have at_ : ∀ (i : Nat) (q : Value), (vs ++ [r])[i]? = some q → (i < vs.length ∧ vs[i]? = some q) ∨ (i = vs.length ∧ q = r) := by
    intro i q hq
    rcases Nat.lt_or_ge i vs.length with h1 | h1
    · rw [List.getElem?_append_left h1] at hq
      exact .inl ⟨h1, hq⟩
    · rw [List.getElem?_append_right h1] at hq
      rcases Nat.eq_zero_or_pos (i - vs.length) with h2 | h2
      · rw [h2] at hq
        simp at hq
        exact .inr ⟨by omega, hq.symm⟩
      · rw [List.getElem?_eq_none (by simp; omega)] at hq
        cases hq
  refine ⟨by simpa using hown, fun i m hm => ?_, fun i q g hq hqg => ?_, fun i j qi qj g hij hqi hqj hg1 => ?_⟩
  · rcases Nat.lt_or_ge i U.length with h1 | h1
    · rw [List.getElem?_append_left h1] at hm
      obtain ⟨q, hq, ho⟩ := hA.rows i m hm
      refine ⟨q, by rw [List.getElem?_append_left (by omega)]; exact hq, own_kept ho hg fun g hqg => ?_⟩
      exact h.off i q g hq hqg
    · rw [List.getElem?_append_right h1] at hm
      have h2 : i - U.length = 0 := by
        rcases Nat.eq_zero_or_pos (i - U.length) with h2 | h2
        · exact h2
        · rw [List.getElem?_eq_none (by simp; omega)] at hm
          cases hm
      rw [h2] at hm
      simp at hm
      subst hm
      exact ⟨r, by rw [List.getElem?_append_right (by omega), show i - vs.length = 0 by omega]; rfl, own_kept hrA hg fun g hqg => hru g hqg⟩
  · have hq2 : vu.ownBlock ≠ some g := by
      rcases at_ i q hq with ⟨_, h1⟩ | ⟨_, rfl⟩
      · exact h.off i q g h1 hqg
      · exact hru g hqg
    have hql : g < (w.alloc o).heap.size := by
      rcases at_ i q hq with ⟨_, h1⟩ | ⟨_, rfl⟩
      · exact rOld i q g h1 hqg
      · exact hr2 g hqg
    rcases hloc with h2 | h2
    · rw [h2]; exact hq2
    · rw [h2]
      intro h3
      injection h3 with h3
      omega
  · rcases at_ i qi hqi with ⟨_, h1⟩ | ⟨h1', rfl⟩
    · rcases at_ j qj hqj with ⟨_, h2⟩ | ⟨_, rfl⟩
      · exact h.apart i j qi qj g hij h1 h2 hg1
      · exact fun h3 => hrr i qi g h1 h3 hg1
    · rcases at_ j qj hqj with ⟨_, h2⟩ | ⟨h2', rfl⟩
      · exact hrr j qj g h2 hg1
      · omega
/-- A row of entries in a block of the call's own: an entry is changed. -/
theorem own_put {w : World} {base g c n : Nat} {l : List En5} (h : w.ownsRow base 61 5 (.slice (some ⟨g, 0, none⟩) n c) n (ew l)) (hn : l.length = n) {j : Nat} {x : En5} (hj : l[j]? = some x) :
    (∀ o, w.frozen? ⟨g, o, none⟩ = false) ∧ (w.cell? ⟨g, j * 5, none⟩ = some (.int .i64 x.1) ∧ w.cell? ⟨g, j * 5 + 1, none⟩ = some (.int .i64 x.2.1) ∧ w.cell? ⟨g, j * 5 + 2, none⟩ = some (.bool x.2.2.1) ∧ w.cell? ⟨g, j * 5 + 3, none⟩ = some (.bool x.2.2.2.1) ∧ w.cell? ⟨g, j * 5 + 4, none⟩ = some (.bool x.2.2.2.2)) ∧
      ∀ e, (putEn w g j e).ownsRow base 61 5 (.slice (some ⟨g, 0, none⟩) n c) n (ew (l.set j e)) := by
  have hjl : j < l.length := (List.getElem?_eq_some_iff.1 hj).1
  obtain ⟨a0, a1, a2, a3, a4⟩ := ew_at l j x hj
  refine ⟨fun o => h.frozenAt o, ⟨(h.cellAt _ (by omega)).trans a0, (h.cellAt _ (by omega)).trans a1, (h.cellAt _ (by omega)).trans a2, (h.cellAt _ (by omega)).trans a3, (h.cellAt _ (by omega)).trans a4⟩, fun e => ?_⟩
  rw [← ew_set]
  exact (((((h.stored (j * 5) _).1.stored (j * 5 + 1) _).1.stored (j * 5 + 2) _).1.stored (j * 5 + 3) _).1.stored (j * 5 + 4) _).1
theorem own_putOther {w : World} {base : Nat} {e : TypeId} {sz n : Nat} {v : Value} {xs : List Value} (h : w.ownsRow base e sz v n xs) {g : Nat} (hne : v.ownBlock ≠ some g) (q : Nat) (x : En5) : (putEn w g q x).ownsRow base e sz v n xs :=
  own_kept h (putEn_grown w g q x) fun b hb e1 => hne (by rw [hb, e1])
theorem bk_putEn {w : World} {b : Nat} {cs : Array Value} {t : TypeId} (h : Bk w b cs t) {g : Nat} (hne : b ≠ g) (q : Nat) (x : En5) : Bk (putEn w g q x) b cs t :=
  ((((h.far (p := ⟨g, q * 5, none⟩) hne _).far (p := ⟨g, q * 5 + 1, none⟩) hne _).far (p := ⟨g, q * 5 + 2, none⟩) hne _).far (p := ⟨g, q * 5 + 3, none⟩) hne _).far (p := ⟨g, q * 5 + 4, none⟩) hne _
theorem UOv.cell {w : World} {base ga n c i : Nat} {U : List (List En5)} {vs : List Value} {r : Value} (h : UOv w base (.slice (some ⟨ga, 0, none⟩) n c) U vs) (hn : U.length = n) (hv : vs[i]? = some r) : w.cell? ⟨ga, i, none⟩ = some r := by
  have hi : i < vs.length := (List.getElem?_eq_some_iff.1 hv).1
  have hU : w.ownsRow base 69 1 (.slice (some ⟨ga, 0, none⟩) n c) n vs := hn ▸ h.outer
  have hl := h.len
  exact (hU.cellAt i (by omega)).trans hv
theorem made_ew (n : Nat) : (madeCells #[.int .i64 0, .int .i64 0, .bool false, .bool false, .bool false] (n * 5)).toList = ew (List.replicate n e0) := by
  apply List.ext_getElem?
  intro c
  rw [Array.getElem?_toList]
  by_cases hc : c < n * 5
  · have hq : c / 5 < n := by omega
    obtain ⟨a0, a1, a2, a3, a4⟩ := ew_at (List.replicate n e0) (c / 5) e0 (by rw [List.getElem?_replicate, if_pos hq])
    have hcase : c % 5 = 0 ∨ c % 5 = 1 ∨ c % 5 = 2 ∨ c % 5 = 3 ∨ c % 5 = 4 := by omega
    rcases hcase with e | e | e | e | e
    · conv => rhs; rw [show c = c / 5 * 5 by omega]
      rw [a0]; simp [madeCells, hc, e, e0]
    · conv => rhs; rw [show c = c / 5 * 5 + 1 by omega]
      rw [a1]; simp [madeCells, hc, e, e0]
    · conv => rhs; rw [show c = c / 5 * 5 + 2 by omega]
      rw [a2]; simp [madeCells, hc, e, e0]
    · conv => rhs; rw [show c = c / 5 * 5 + 3 by omega]
      rw [a3]; simp [madeCells, hc, e, e0]
    · conv => rhs; rw [show c = c / 5 * 5 + 4 by omega]
      rw [a4]; simp [madeCells, hc, e, e0]
  · rw [List.getElem?_eq_none (by rw [ew_len, List.length_replicate]; omega), Array.getElem?_eq_none (by rw [size_madeCells]; omega)]
theorem own_made (w : World) (n : Nat) (hn : n ≤ 1000) {base : Nat} (hb : base ≤ w.heap.size) : (w.alloc (.cells (madeCells #[.int .i64 0, .int .i64 0, .bool false, .bool false, .bool false] (n * 5)) 61)).ownsRow base 61 5 (.slice (some ⟨w.heap.size, 0, none⟩) n n) n (ew (List.replicate n e0)) := by
  refine ⟨by rw [ew_len, List.length_replicate], .inr ⟨w.heap.size, n, _, rfl, hb, heap_alloc_new w _, Nat.le_refl _, by unfold maxLen; omega, size_madeCells _ _, ?_⟩⟩
  rw [made_ew, List.take_of_length_le (by rw [ew_len, List.length_replicate]; omega)]
/-- The child's entries. -/
def childE (e : En5) : En5 := forgetE (shareE e)
theorem share_chk (x : Nat) (h : unpE x = 0) : chkE (shareE (entW x)) = 0 ∧ chkE (childE (entW x)) = 0 ∧ packE (shareE (entW x)) = shareW x ∧ packE (childE (entW x)) = childW x := by
  have hc := entW_chk x h
  have hp := pack_entW x h
  unfold shareW childW
  rcases ent_cases x h with ⟨e, _⟩ | ⟨n, b, c, e, h0, h1⟩ | ⟨n, e, h0, h1⟩
  · rw [e] at hc hp ⊢
    exact ⟨hc, hc, hp, hp⟩
  · rw [e]
    exact ⟨chk_own n false true c h0 h1 (by decide), chk_own n false true false h0 h1 (by decide), rfl, rfl⟩
  · rw [e] at hc hp ⊢
    exact ⟨hc, hc, hp, hp⟩
/-- What a fork leaves, as words. -/
theorem fork_pack {t : Sh} (h : ∀ l ∈ t, ∀ x ∈ l, unpE x = 0) {i : Nat} (hi : i < t.length) :
    ((dec t).set i (((rowAt t i).map entW).map shareE) ++ [((rowAt t i).map entW).map childE]).map (fun l => l.map packE) = t.set i ((rowAt t i).map shareW) ++ [(rowAt t i).map childW] := by
  have hr := h _ (rowAt_mem hi)
  have h1 : (((rowAt t i).map entW).map shareE).map packE = (rowAt t i).map shareW := by
    rw [List.map_map, List.map_map]
    exact List.map_congr_left fun x hx => (share_chk x (hr x hx)).2.2.1
  have h2 : (((rowAt t i).map entW).map childE).map packE = (rowAt t i).map childW := by
    rw [List.map_map, List.map_map]
    exact List.map_congr_left fun x hx => (share_chk x (hr x hx)).2.2.2
  rw [List.map_append, List.map_set, shut_dec h, h1, List.map_singleton, h2]
theorem fork_chk {t : Sh} (h : ∀ l ∈ t, ∀ x ∈ l, unpE x = 0) {i : Nat} (hi : i < t.length) :
    ∀ l ∈ (dec t).set i (((rowAt t i).map entW).map shareE) ++ [((rowAt t i).map entW).map childE], ∀ e ∈ l, chkE e = 0 := by
  have hr := h _ (rowAt_mem hi)
  intro l hl e he
  rcases List.mem_append.1 hl with hl | hl
  · rcases List.mem_or_eq_of_mem_set hl with hl | rfl
    · exact dec_chk h l hl e he
    · obtain ⟨y, hy, rfl⟩ := List.mem_map.1 he
      obtain ⟨x, hx, rfl⟩ := List.mem_map.1 hy
      exact (share_chk x (hr x hx)).1
  · rw [List.mem_singleton.1 hl] at he
    obtain ⟨y, hy, rfl⟩ := List.mem_map.1 he
    obtain ⟨x, hx, rfl⟩ := List.mem_map.1 hy
    exact (share_chk x (hr x hx)).2.1
/-- The entries of a frame that is evicted. -/
def outF (frame slot : Int) (e : En5) : En5 := if useE e = (1, frame) then (2, slot, false, false, false) else e
theorem out_pack {t : Sh} (h : ∀ l ∈ t, ∀ x ∈ l, unpE x = 0) (frame slot : Int) : ((dec t).map (List.map (outF frame slot))).map (fun l => l.map packE) = t.map fun l => l.map (outW frame slot) := by
  unfold dec
  rw [List.map_map, List.map_map]
  apply List.map_congr_left
  intro l hl
  simp only [Function.comp]
  rw [List.map_map, List.map_map]
  apply List.map_congr_left
  intro x hx
  simp only [Function.comp]
  unfold outF outW
  by_cases hu : useW x = (1, frame)
  · rw [if_pos (show useE (entW x) = (1, frame) from hu), if_pos hu]
  · rw [if_neg (show ¬ useE (entW x) = (1, frame) from hu), if_neg hu]
    exact pack_entW x (h l hl x hx)
end Go.Proofs.YtomndlnfidkdcaaDoor
