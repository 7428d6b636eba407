/- Maps that a call makes for itself, as a relation between keys and values. -/
import Derived.Maps.Own
import Derived.Maps.OwnOps
import Derived.WideKeyEntry
import Derived.Test.YtomndlnfidkdcaaDoorBase
namespace Go.Proofs.YtomndlnfidkdcaaDoor
open Go Go.RowKit Go.Maps
open Go.ChangeMaps (setBlock modify_eq_set heap_setBlock_same heap_setBlock_other)
open Go.MapKept (Stamped stamped_iff stamped_push stamped_modify stamped_empty)
open Go.WideElems (findIdx_born findIdx_arr)
set_option linter.unusedSimpArgs false
set_option linter.unusedVariables false

section
variable {P : Program} {k t e : TypeId} {w w' : World} {B : Nat} {S : Value → Value → Prop}

/-- Block B is a map that holds just the pairs of S; no key twice, each a key. -/
def MapG (P : Program) (k : TypeId) (w : World) (B : Nat) (S : Value → Value → Prop) : Prop :=
  ∃ a c, w.heap[B]? = some (.map a c) ∧ (∀ e ∈ a.toList, S e.key e.val) ∧ (∀ x v, S x v → ∃ e ∈ a.toList, e.key = x ∧ e.val = v) ∧ (∀ e ∈ a.toList, ∃ l, keyOf P k e.key = some l) ∧ Stamped a c
theorem MapG.lt (h : MapG P k w B S) : B < w.heap.size := by
  obtain ⟨a, c, hb, _⟩ := h
  exact (Array.getElem?_eq_some_iff.1 hb).1
theorem MapG.block (h : MapG P k w B S) (hb : w'.heap[B]? = w.heap[B]?) : MapG P k w' B S := by
  obtain ⟨a, c, h1, h2⟩ := h
  exact ⟨a, c, hb.trans h1, h2⟩
theorem MapG.to (h : MapG P k w B S) (hb : Below w.heap.size w w') : MapG P k w' B S := h.block (hb.block B h.lt)
theorem MapG.below {n : Nat} (h : MapG P k w B S) (hb : Below n w w') (hB : B < n) : MapG P k w' B S := h.block (hb.block B hB)
theorem MapG.alloc (h : MapG P k w B S) (o : Obj) : MapG P k (w.alloc o) B S := h.block (Below.heap_alloc w o B h.lt)
theorem MapG.new (w : World) : MapG P k (w.alloc (.map #[] 0)) w.heap.size (fun _ _ => False) := ⟨#[], 0, (MapKept.heap_alloc w _).1, by simp, by simp, by simp, stamped_empty 0⟩
theorem MapG.iff {S' : Value → Value → Prop} (h : MapG P k w B S) (hS : ∀ x v, S x v ↔ S' x v) : MapG P k w B S' := by
  obtain ⟨a, c, h1, h2, h3, h4⟩ := h
  exact ⟨a, c, h1, fun e he => (hS _ _).1 (h2 e he), fun x v hx => h3 x v ((hS _ _).2 hx), h4⟩

/-- m[k] and v, ok := m[k]. -/
theorem MapG.look (c : Bool) (K : Keyed P k) (ht : P.underlying t = some (.map k e)) {z : Value} (hz : (zeroValue e).run P w = .ok z w) (h : MapG P k w B S) {x : Value} {l : Lit} (hx : keyOf P k x = some l) :
    (∃ v, S x v ∧ (Instr.lookup t (.map (some B)) x c).run P w = .ok (if c then .tuple #[v, .bool true] else v) w) ∨
    ((∀ v, ¬ S x v) ∧ (Instr.lookup t (.map (some B)) x c).run P w = .ok (if c then .tuple #[z, .bool false] else z) w) := by
  obtain ⟨a, cl, hb, h1, h2, h3, h4⟩ := h
  rcases K.find w hx a.toList h3 with ⟨f1, f2⟩ | ⟨j, e0, f1, f2, f3⟩
  · refine .inr ⟨fun v hv => ?_, by simp [Instr.lookup, run_underlying ht, MapKept.run_getObj_map hb, K.check w _ hx, f1, hz, Result.andThen]⟩
    obtain ⟨e0, he, e1, _⟩ := h2 x v hv
    exact f2 e0 he e1
  · have hm0 : e0 ∈ a.toList := List.mem_of_getElem? f2
    exact .inl ⟨e0.val, f3 ▸ h1 e0 hm0, by simp [Instr.lookup, run_underlying ht, MapKept.run_getObj_map hb, K.check w _ hx, f1, Result.andThen]⟩

/-- No two values at one key. -/
theorem MapG.one (h : MapG P k w B S) {x u v : Value} (hu : S x u) (hv : S x v) : u = v := by
  obtain ⟨a, cl, hb, h1, h2, h3, h4⟩ := h
  obtain ⟨e0, m0, k0, v0⟩ := h2 x u hu
  obtain ⟨e1, m1, k1, v1⟩ := h2 x v hv
  obtain ⟨i, hi, ei⟩ := List.getElem_of_mem m0
  obtain ⟨j, hj, ej⟩ := List.getElem_of_mem m1
  have hp := List.pairwise_iff_getElem.1 ((stamped_iff _ _).1 h4).2.2
  rcases Nat.lt_trichotomy i j with hlt | heq | hgt
  · exact absurd (by rw [ei, ej, k0, k1]) (hp i j hi hj hlt)
  · subst heq
    rw [← v0, ← v1, ← ei, ← ej]
  · exact absurd (by rw [ei, ej, k0, k1]) (hp j i hj hi hgt)

/-- m[k] = v. -/
theorem MapG.store (K : Keyed P k) (ht : P.underlying t = some (.map k e)) (h : MapG P k w B S) {x v : Value} {l : Lit} (hx : keyOf P k x = some l) :
    ∃ w', (Instr.mapUpdate t (.map (some B)) x v).run P w = .ok () w' ∧ MapG P k w' B (fun y u => (y = x ∧ u = v) ∨ (y ≠ x ∧ S y u)) ∧ w.grownBy w' (some B) := by
  obtain ⟨a, cl, hb, h1, h2, h3, h4⟩ := h
  have hg : ∀ o, w.grownBy (ChangeMaps.setBlock w B o) (some B) := fun o =>
    ⟨rfl, rfl, rfl, by simp [ChangeMaps.setBlock], fun i _ hi => heap_setBlock_other hb _ (fun e => hi (by rw [e]))⟩
  rcases K.find w hx a.toList h3 with ⟨f1, f2⟩ | ⟨j, e0, f1, f2, f3⟩
  · refine ⟨ChangeMaps.setBlock w B (.map (a.push ⟨x, v, cl⟩) (cl + 1)), by simp [Instr.mapUpdate, run_underlying ht, MapKept.run_getObj_map hb, K.check w false hx, f1, MapKept.run_setObj_map _ hb, Result.andThen, ChangeMaps.setBlock], ?_, hg _⟩
    refine ⟨_, _, heap_setBlock_same hb _, ?_, ?_, ?_, ?_⟩
    · intro q hq
      simp only [Array.toList_push, List.mem_append, List.mem_singleton] at hq
      rcases hq with hq | rfl
      · exact .inr ⟨f2 q hq, h1 q hq⟩
      · exact .inl ⟨rfl, rfl⟩
    · rintro y u (⟨rfl, rfl⟩ | ⟨hne, hS⟩)
      · exact ⟨⟨y, u, cl⟩, by simp, rfl, rfl⟩
      · obtain ⟨q, hq, e1, e2⟩ := h2 y u hS
        exact ⟨q, by simp [hq], e1, e2⟩
    · intro q hq
      simp only [Array.toList_push, List.mem_append, List.mem_singleton] at hq
      rcases hq with hq | rfl
      · exact h3 q hq
      · exact ⟨l, hx⟩
    · exact stamped_push h4 f2
  · have hj : a[j]? = some e0 := by simpa using f2
    have hjl : j < a.toList.length := (List.getElem?_eq_some_iff.1 f2).1
    have hp := List.pairwise_iff_getElem.1 ((stamped_iff _ _).1 h4).2.2
    have hlist : (a.modify j (fun e' => { e' with key := x, val := v })).toList = a.toList.set j { e0 with key := x, val := v } := by rw [Array.toList_modify, modify_eq_set _ _ _ _ f2]
    have e0j : a.toList[j] = e0 := (List.getElem?_eq_some_iff.1 f2).2
    have other : ∀ i (hi : i < a.toList.length), i ≠ j → (a.toList[i]).key ≠ x := fun i hi hne e1 => by
      rcases Nat.lt_or_gt_of_ne hne with hlt | hgt
      · exact hp i j hi hjl hlt (by rw [e0j, e1, f3])
      · exact hp j i hjl hi hgt (by rw [e0j, e1, f3])
    have who : ∀ q ∈ a.toList.set j { e0 with key := x, val := v }, q = { e0 with key := x, val := v } ∨ (q ∈ a.toList ∧ q.key ≠ x) := by
      intro q hq
      obtain ⟨i, hi, ex⟩ := List.getElem_of_mem hq
      rw [List.getElem_set] at ex
      split at ex
      · exact .inl ex.symm
      · rename_i hne
        have hi' : i < a.toList.length := by simpa using hi
        exact .inr ⟨ex ▸ List.getElem_mem hi', ex ▸ other i hi' (fun e1 => hne e1.symm)⟩
    refine ⟨ChangeMaps.setBlock w B (.map (a.modify j (fun e' => { e' with key := x, val := v })) cl), by simp [Instr.mapUpdate, run_underlying ht, MapKept.run_getObj_map hb, K.check w false hx, f1, hj, f3, K.stays w hx, MapKept.run_setObj_map _ hb, Result.andThen, ChangeMaps.setBlock], ?_, hg _⟩
    refine ⟨_, _, heap_setBlock_same hb _, ?_, ?_, ?_, ?_⟩
    · intro q hq
      rw [hlist] at hq
      rcases who q hq with rfl | ⟨hq', hne⟩
      · exact .inl ⟨rfl, rfl⟩
      · exact .inr ⟨hne, h1 q hq'⟩
    · rintro y u (⟨rfl, rfl⟩ | ⟨hne, hS⟩)
      · refine ⟨{ e0 with key := y, val := u }, ?_, rfl, rfl⟩
        rw [hlist]
        exact List.mem_iff_getElem.2 ⟨j, by simpa using hjl, by simp⟩
      · obtain ⟨q, hq, e1, e2⟩ := h2 y u hS
        refine ⟨q, ?_, e1, e2⟩
        rw [hlist]
        obtain ⟨i, hi, ei⟩ := List.getElem_of_mem hq
        have hij : i ≠ j := by
          rintro rfl
          exact hne (by rw [← e1, ← ei, e0j, f3])
        exact List.mem_iff_getElem.2 ⟨i, by simpa using hi, by rw [List.getElem_set_ne (fun e => hij e.symm)]; exact ei⟩
    · intro q hq
      rw [hlist] at hq
      rcases who q hq with rfl | ⟨hq', _⟩
      · exact ⟨l, hx⟩
      · exact h3 q hq'
    · exact stamped_modify h4 _ _ (fun _ _ => rfl) (fun e' _ he' => by rw [hj] at he'; cases he'; exact f3.symm)

/-- What stands behind 'the entry of m at x, then a store into it'. -/
theorem MapG.entry (K : Keyed P k) (ht : P.underlying t = some (.map k e)) {z : Value} (hz : (zeroValue e).run P w = .ok z w) (h : MapG P k w B S) {x : Value} {l : Lit} (hx : keyOf P k x = some l) :
    ∃ v0 st w1, (Instr.mapEntry t (.map (some B)) x).run P w = .ok (.tuple #[v0, goInt st]) w1 ∧ w.grownBy w1 (some B) ∧ MapG P k w1 B (fun y u => (y = x ∧ u = v0) ∨ (y ≠ x ∧ S y u)) ∧ (S x v0 ∨ ((∀ v, ¬ S x v) ∧ v0 = z)) ∧
      ∀ w2 val, w2.heap[B]? = w1.heap[B]? → ∃ w3, (Instr.entryStore t (.map (some B)) (goInt st) val).run P w2 = .ok () w3 ∧ MapG P k w3 B (fun y u => (y = x ∧ u = val) ∨ (y ≠ x ∧ S y u)) ∧ w2.grownBy w3 (some B) := by
  obtain ⟨a, cl, hb, h1, h2, h3, h4⟩ := h
  have hg : ∀ (u : World) o, u.grownBy (setBlock u B o) (some B) → True := fun _ _ _ => trivial
  have hgr : ∀ (u : World) {a' : Array MapEntry} {c' : Nat}, u.heap[B]? = some (.map a' c') → ∀ o, u.grownBy (setBlock u B o) (some B) := fun u a' c' hb' o =>
    ⟨rfl, rfl, rfl, by simp [setBlock], fun i _ hi => heap_setBlock_other hb' _ (fun e => hi (by rw [e]))⟩
  obtain ⟨s1, s2, s3⟩ := h4
  rcases K.find w hx a.toList h3 with ⟨f1, f2⟩ | ⟨j, e0, f1, f2, f3⟩
  · have mk : ∀ v, (∀ e ∈ (a.push ⟨x, v, cl⟩).toList, (e.key = x ∧ e.val = v) ∨ (e.key ≠ x ∧ S e.key e.val)) ∧ (∀ y u, ((y = x ∧ u = v) ∨ (y ≠ x ∧ S y u)) → ∃ e ∈ (a.push ⟨x, v, cl⟩).toList, e.key = y ∧ e.val = u) ∧ (∀ e ∈ (a.push ⟨x, v, cl⟩).toList, ∃ l, keyOf P k e.key = some l) ∧ Stamped (a.push ⟨x, v, cl⟩) (cl + 1) := by
      intro v
      refine ⟨?_, ?_, ?_, stamped_push ⟨s1, s2, s3⟩ f2⟩
      · intro q hq
        simp only [Array.toList_push, List.mem_append, List.mem_singleton] at hq
        rcases hq with hq | rfl
        · exact .inr ⟨f2 q hq, h1 q hq⟩
        · exact .inl ⟨rfl, rfl⟩
      · rintro y u (⟨rfl, rfl⟩ | ⟨hne, hS⟩)
        · exact ⟨⟨y, u, cl⟩, by simp, rfl, rfl⟩
        · obtain ⟨q, hq, e1, e2⟩ := h2 y u hS
          exact ⟨q, by simp [hq], e1, e2⟩
      · intro q hq
        simp only [Array.toList_push, List.mem_append, List.mem_singleton] at hq
        rcases hq with hq | rfl
        · exact h3 q hq
        · exact ⟨l, hx⟩
    refine ⟨z, cl, setBlock w B (.map (a.push ⟨x, z, cl⟩) (cl + 1)), by simp [Instr.mapEntry, run_underlying ht, MapKept.run_getObj_map hb, K.check w false hx, f1, hz, MapKept.run_setObj_map _ hb, Result.andThen, setBlock], hgr w hb _, ⟨_, _, heap_setBlock_same hb _, mk z⟩, .inr ⟨fun v hv => ?_, rfl⟩, fun w2 val hw2 => ?_⟩
    · obtain ⟨q, hq, e1, _⟩ := h2 x v hv
      exact f2 q hq e1
    · have hb2 : w2.heap[B]? = some (.map (a.push ⟨x, z, cl⟩) (cl + 1)) := hw2.trans (heap_setBlock_same hb _)
      have hlast : (a.push ⟨x, z, cl⟩).toList[a.size]? = some ⟨x, z, cl⟩ := by simp
      have hidx : (a.push ⟨x, z, cl⟩).findIdx? (fun e => ((e.born : Nat) : Int) == ((cl : Nat) : Int)) = some a.size := by
        rw [findIdx_arr]
        exact findIdx_born (stamped_push ⟨s1, s2, s3⟩ f2 (val := z)).2.1 hlast
      have hmod : (a.push ⟨x, z, cl⟩).modify a.size (fun e => { e with val := val }) = a.push ⟨x, val, cl⟩ := by
        apply Array.ext'
        rw [Array.toList_modify, modify_eq_set _ _ _ _ hlast]
        simp
      exact ⟨setBlock w2 B (.map (a.push ⟨x, val, cl⟩) (cl + 1)), by simp [Instr.entryStore, MapKept.run_getObj_map hb2, asInt, asIntOf, goInt, hidx, hmod, MapKept.run_setObj_map _ hb2, Result.andThen, setBlock], ⟨_, _, heap_setBlock_same hb2 _, mk val⟩, hgr w2 hb2 _⟩
  · have hj : a[j]? = some e0 := by simpa using f2
    have hjl : j < a.toList.length := (List.getElem?_eq_some_iff.1 f2).1
    have hp := List.pairwise_iff_getElem.1 ((stamped_iff _ _).1 ⟨s1, s2, s3⟩).2.2
    have e0j : a.toList[j] = e0 := (List.getElem?_eq_some_iff.1 f2).2
    have other : ∀ i (hi : i < a.toList.length), i ≠ j → (a.toList[i]).key ≠ x := fun i hi hne e1 => by
      rcases Nat.lt_or_gt_of_ne hne with hlt | hgt
      · exact hp i j hi hjl hlt (by rw [e0j, e1, f3])
      · exact hp j i hjl hi hgt (by rw [e0j, e1, f3])
    have hsame : a.modify j (fun e' => { e' with key := x }) = a := by
      apply Array.ext'
      rw [Array.toList_modify, modify_eq_set _ _ _ _ f2]
      apply List.ext_getElem
      · simp
      · intro i hi hi'
        rw [List.getElem_set]
        split
        · rename_i e1
          subst e1
          rw [e0j]
          subst f3
          rfl
        · rfl
    have mk : ∀ v, (∀ e ∈ (a.modify j (fun e' => { e' with val := v })).toList, (e.key = x ∧ e.val = v) ∨ (e.key ≠ x ∧ S e.key e.val)) ∧ (∀ y u, ((y = x ∧ u = v) ∨ (y ≠ x ∧ S y u)) → ∃ e ∈ (a.modify j (fun e' => { e' with val := v })).toList, e.key = y ∧ e.val = u) ∧ (∀ e ∈ (a.modify j (fun e' => { e' with val := v })).toList, ∃ l, keyOf P k e.key = some l) ∧ Stamped (a.modify j (fun e' => { e' with val := v })) cl := by
      intro v
      have hlist : (a.modify j (fun e' => { e' with val := v })).toList = a.toList.set j { e0 with val := v } := by rw [Array.toList_modify, modify_eq_set _ _ _ _ f2]
      have who : ∀ q ∈ a.toList.set j { e0 with val := v }, q = { e0 with val := v } ∨ (q ∈ a.toList ∧ q.key ≠ x) := by
        intro q hq
        obtain ⟨i, hi, ex⟩ := List.getElem_of_mem hq
        rw [List.getElem_set] at ex
        split at ex
        · exact .inl ex.symm
        · rename_i hne
          have hi' : i < a.toList.length := by simpa using hi
          exact .inr ⟨ex ▸ List.getElem_mem hi', ex ▸ other i hi' (fun e1 => hne e1.symm)⟩
      rw [hlist]
      refine ⟨?_, ?_, ?_, stamped_modify ⟨s1, s2, s3⟩ _ _ (fun _ _ => rfl) (fun _ _ _ => rfl)⟩
      · intro q hq
        rcases who q hq with rfl | ⟨hq', hne⟩
        · exact .inl ⟨f3, rfl⟩
        · exact .inr ⟨hne, h1 q hq'⟩
      · rintro y u (⟨rfl, rfl⟩ | ⟨hne, hS⟩)
        · exact ⟨{ e0 with val := u }, List.mem_iff_getElem.2 ⟨j, by simpa using hjl, by simp⟩, f3, rfl⟩
        · obtain ⟨q, hq, e1, e2⟩ := h2 y u hS
          refine ⟨q, ?_, e1, e2⟩
          obtain ⟨i, hi, ei⟩ := List.getElem_of_mem hq
          have hij : i ≠ j := by
            rintro rfl
            exact hne (by rw [← e1, ← ei, e0j, f3])
          exact List.mem_iff_getElem.2 ⟨i, by simpa using hi, by rw [List.getElem_set_ne (fun e => hij e.symm)]; exact ei⟩
      · intro q hq
        rcases who q hq with rfl | ⟨hq', _⟩
        · exact ⟨l, by rw [f3]; exact hx⟩
        · exact h3 q hq'
    have hval : a.modify j (fun e' => { e' with val := e0.val }) = a := by
      apply Array.ext'
      rw [Array.toList_modify, modify_eq_set _ _ _ _ f2]
      apply List.ext_getElem
      · simp
      · intro i hi hi'
        rw [List.getElem_set]
        split
        · rename_i e1
          subst e1
          rw [e0j]
        · rfl
    have hm0 := mk e0.val
    rw [hval] at hm0
    refine ⟨e0.val, e0.born, setBlock w B (.map a cl), by simp [Instr.mapEntry, run_underlying ht, MapKept.run_getObj_map hb, K.check w false hx, f1, hj, f3, K.stays w hx, hsame, MapKept.run_setObj_map _ hb, Result.andThen, setBlock], hgr w hb _, ⟨_, _, heap_setBlock_same hb _, hm0⟩, .inl (f3 ▸ h1 e0 (List.mem_of_getElem? f2)), fun w2 val hw2 => ?_⟩
    have hb2 : w2.heap[B]? = some (.map a cl) := hw2.trans (heap_setBlock_same hb _)
    have hidx : a.findIdx? (fun e => ((e.born : Nat) : Int) == ((e0.born : Nat) : Int)) = some j := by
      rw [findIdx_arr]
      exact findIdx_born s2 f2
    exact ⟨setBlock w2 B (.map (a.modify j (fun e' => { e' with val := val })) cl), by simp [Instr.entryStore, MapKept.run_getObj_map hb2, asInt, asIntOf, goInt, hidx, MapKept.run_setObj_map _ hb2, Result.andThen, setBlock], ⟨_, _, heap_setBlock_same hb2 _, mk val⟩, hgr w2 hb2 _⟩
end

/-- A count for each key: where it is 0 there may be no entry. -/
def TallyG {α : Type} (P : Program) (k : TypeId) (kf : α → Value) (w : World) (B : Nat) (f : α → Int) : Prop :=
  ∃ S, MapG P k w B S ∧ (∀ y u, S y u → ∃ a, y = kf a ∧ u = .int .i64 (f a)) ∧ ∀ a, f a ≠ 0 → S (kf a) (.int .i64 (f a))
section
variable {α : Type} {P : Program} {k t e : TypeId} {kf : α → Value} {w w' : World} {B : Nat} {f : α → Int}
theorem TallyG.lt (h : TallyG P k kf w B f) : B < w.heap.size := by obtain ⟨S, hS, _⟩ := h; exact hS.lt
theorem TallyG.to (h : TallyG P k kf w B f) (hb : Below w.heap.size w w') : TallyG P k kf w' B f := by obtain ⟨S, hS, h2⟩ := h; exact ⟨S, hS.to hb, h2⟩
theorem TallyG.below {n : Nat} (h : TallyG P k kf w B f) (hb : Below n w w') (hB : B < n) : TallyG P k kf w' B f := by obtain ⟨S, hS, h2⟩ := h; exact ⟨S, hS.below hb hB, h2⟩
theorem TallyG.alloc (h : TallyG P k kf w B f) (o : Obj) : TallyG P k kf (w.alloc o) B f := by obtain ⟨S, hS, h2⟩ := h; exact ⟨S, hS.alloc o, h2⟩
theorem TallyG.block (h : TallyG P k kf w B f) (hb : w'.heap[B]? = w.heap[B]?) : TallyG P k kf w' B f := by obtain ⟨S, hS, h2⟩ := h; exact ⟨S, hS.block hb, h2⟩
theorem TallyG.new (w : World) : TallyG P k kf (w.alloc (.map #[] 0)) w.heap.size (fun _ => 0) := ⟨_, MapG.new w, fun _ _ h => h.elim, fun _ h => absurd rfl h⟩
theorem TallyG.look (K : Keyed P k) (hinj : ∀ a b, kf a = kf b → a = b) (ht : P.underlying t = some (.map k e)) (hz : (zeroValue e).run P w = .ok (.int .i64 0) w) (h : TallyG P k kf w B f) (a : α) {l : Lit} (hx : keyOf P k (kf a) = some l) :
    (Instr.lookup t (.map (some B)) (kf a) false).run P w = .ok (.int .i64 (f a)) w := by
  obtain ⟨S, hS, h1, h2⟩ := h
  rcases hS.look false K ht hz hx with ⟨v, hv, hr⟩ | ⟨hn, hr⟩
  · obtain ⟨b, hb, rfl⟩ := h1 _ _ hv
    rw [hr, hinj _ _ hb]
    rfl
  · have : f a = 0 := Classical.byContradiction fun h0 => hn _ (h2 a h0)
    rw [hr, this]
    rfl
theorem TallyG.store [DecidableEq α] (K : Keyed P k) (hinj : ∀ a b, kf a = kf b → a = b) (ht : P.underlying t = some (.map k e)) (h : TallyG P k kf w B f) (a : α) (n : Int) {l : Lit} (hx : keyOf P k (kf a) = some l) :
    ∃ w', (Instr.mapUpdate t (.map (some B)) (kf a) (.int .i64 n)).run P w = .ok () w' ∧ TallyG P k kf w' B (fun b => if b = a then n else f b) ∧ w.grownBy w' (some B) := by
  obtain ⟨S, hS, h1, h2⟩ := h
  obtain ⟨w', hr, hS', hg⟩ := hS.store (v := .int .i64 n) K ht hx
  refine ⟨w', hr, ⟨_, hS', ?_, ?_⟩, hg⟩
  · rintro y u (⟨rfl, rfl⟩ | ⟨hne, hy⟩)
    · exact ⟨a, rfl, by simp⟩
    · obtain ⟨b, rfl, rfl⟩ := h1 y u hy
      exact ⟨b, rfl, by simp only; rw [if_neg (fun e => hne (by rw [e]))]⟩
  · intro b hb
    by_cases e : b = a
    · subst e
      exact .inl ⟨rfl, by simp⟩
    · simp only [if_neg e] at hb ⊢
      exact .inr ⟨fun e' => e (hinj _ _ e'), h2 b hb⟩
/-- f[a]++ as it is carried out: the count that is there, the entry, the store into it. -/
theorem TallyG.entry [DecidableEq α] (K : Keyed P k) (hinj : ∀ a b, kf a = kf b → a = b) (ht : P.underlying t = some (.map k e)) (hz : ∀ u, (zeroValue e).run P u = .ok (.int .i64 0) u) (h : TallyG P k kf w B f) (a : α) {l : Lit} (hx : keyOf P k (kf a) = some l) :
    ∃ st w1, (Instr.mapEntry t (.map (some B)) (kf a)).run P w = .ok (.tuple #[.int .i64 (f a), goInt st]) w1 ∧ (Instr.lookup t (.map (some B)) (kf a) false).run P w = .ok (.int .i64 (f a)) w ∧ (Instr.lookup t (.map (some B)) (kf a) false).run P w1 = .ok (.int .i64 (f a)) w1 ∧ w.grownBy w1 (some B) ∧
      ∀ n, ∃ w3, (Instr.entryStore t (.map (some B)) (goInt st) (.int .i64 n)).run P w1 = .ok () w3 ∧ TallyG P k kf w3 B (fun b => if b = a then n else f b) ∧ w1.grownBy w3 (some B) := by
  have hl := h.look K hinj ht (hz w) a hx
  obtain ⟨S, hS, h1, h2⟩ := h
  obtain ⟨v0, st, w1, hr, hg, hM, hv, hst⟩ := hS.entry K ht (hz w) hx
  have hv0 : v0 = .int .i64 (f a) := by
    rcases hv with hv | ⟨hn, rfl⟩
    · obtain ⟨b, hb, rfl⟩ := h1 _ _ hv
      rw [hinj _ _ hb]
    · have : f a = 0 := Classical.byContradiction fun h0 => hn _ (h2 a h0)
      rw [this]
  subst hv0
  refine ⟨st, w1, hr, hl, ?_, hg, fun n => ?_⟩
  · rcases hM.look false K ht (hz w1) hx with ⟨v, hv, hr1⟩ | ⟨hn, _⟩
    · rcases hv with ⟨_, rfl⟩ | ⟨hne, _⟩
      · simpa using hr1
      · exact absurd rfl hne
    · exact absurd (.inl ⟨rfl, rfl⟩) (hn (.int .i64 (f a)))
  · obtain ⟨w3, hr3, hM3, hg3⟩ := hst w1 (.int .i64 n) rfl
    refine ⟨w3, hr3, ⟨_, hM3, ?_, ?_⟩, hg3⟩
    · rintro y u (⟨rfl, rfl⟩ | ⟨hne, hy⟩)
      · exact ⟨a, rfl, by simp⟩
      · obtain ⟨b, rfl, rfl⟩ := h1 y u hy
        exact ⟨b, rfl, by simp only; rw [if_neg (fun e => hne (by rw [e]))]⟩
    · intro b hb
      by_cases e : b = a
      · subst e
        exact .inl ⟨rfl, by simp⟩
      · simp only [if_neg e] at hb ⊢
        exact .inr ⟨fun e' => e (hinj _ _ e'), h2 b hb⟩
end
end Go.Proofs.YtomndlnfidkdcaaDoor
