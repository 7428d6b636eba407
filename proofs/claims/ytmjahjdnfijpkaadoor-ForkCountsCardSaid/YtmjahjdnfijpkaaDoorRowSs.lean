/- Arguments that are lists of address spaces: how they come in. -/
import Derived.Test.YtmjahjdnfijpkaaDoorGR
import Derived.Test.YtmjahjdnfijpkaaDoorHF
namespace Go.Proofs.YtmjahjdnfijpkaaDoor
open Go Go.RowKit Go.WideShapes Go.ChangeShapes
set_option linter.unusedSimpArgs false
set_option linter.unusedVariables false

theorem flatMap_atS {α : Type} (f : α → List Value) (n : Nat) (hf : ∀ r, (f r).length = n) : ∀ (l : List α) (k j : Nat) (r : α), l[k]? = some r → j < n → (l.flatMap f)[k * n + j]? = (f r)[j]?
  | [], k, j, r, h, hj => by simp at h
  | x :: l, k, j, r, h, hj => by
    rw [List.flatMap_cons]
    have hl := hf x
    cases k with
    | zero =>
      simp at h
      subst h
      rw [Nat.zero_mul, Nat.zero_add, List.getElem?_append_left (by omega)]
    | succ k =>
      have h2 : (k + 1) * n + j - (f x).length = k * n + j := by rw [hl, Nat.succ_mul]; omega
      rw [List.getElem?_append_right (by rw [hl, Nat.succ_mul]; omega), h2]
      exact flatMap_atS f n hf l k j r (by simpa using h) hj
abbrev SpA : Type := Sp × (Option Addr × Nat) × (Option Addr × Nat) × (Option Addr × Nat)
def spaC (x : SpA) : List Value := [.slice x.2.1.1 x.1.1.length x.2.1.2, .int .i64 x.1.2.1, .slice x.2.2.1.1 x.1.2.2.1.length x.2.2.1.2, .slice x.2.2.2.1 x.1.2.2.2.length x.2.2.2.2]
section
variable {H : Type} {enc : TypeId × Value → H} {P : Program} {w : World} {base : Nat} {spare : Nat → Bool} {held : Bool}
/-- A list of address spaces that came in. -/
theorem open_spaces {ts t eR eI eW : TypeId} {g0 g1 q0 q1 f0 f1 f2 : Field} {v : Value} {d : DataW H} {p : List MemPlace} {r : Reach} {b0 : Nat} (hts : P.underlying ts = some (.slice t)) (hs : P.underlying t = some (.struct #[g0, g1])) (ho0 : g0.offset = 0) (ho1 : g1.offset = 1) (hk0 : P.cellsOf g0.type = 1) (hk1 : P.cellsOf g1.type = 3) (hC : P.cellsOf t = 4)
    (hR : P.underlying g0.type = some (.slice eR)) (heR : P.underlying eR = some (.struct #[q0, q1])) (honeR : Go.Deep.oneCellFields P #[q0, q1] = true) (hCR : P.cellsOf eR = 2) (hq0 : P.underlying q0.type = some (.int .i64)) (hq1 : P.underlying q1.type = some (.int .i64))
    (hT : P.underlying g1.type = some (.struct #[f0, f1, f2])) (honeT : Go.Deep.oneCellFields P #[f0, f1, f2] = true)
    (h0 : P.underlying f0.type = some (.int .i64)) (h1 : P.underlying f1.type = some (.slice eI)) (he0 : P.underlying eI = some (.int .i64)) (hC0 : P.cellsOf eI = 1) (h2 : P.underlying f2.type = some (.slice eW)) (he1 : P.underlying eW = some (.int .u64)) (hC1 : P.cellsOf eW = 1)
    (hv : Value.okWide P w r b0 ts v) (h : DataW.Trod enc P w base spare held ts v d p) :
    ∃ (l : List Sp) (A : Option Addr) (c : Nat), v = .slice A l.length c ∧ l.length ≤ maxLen ∧ SpsV w A l ∧ ∀ k, k < l.length → wsmall (l.getD k sp0).2.2.2 := by
  obtain ⟨A', n', c', rfl⟩ := okWide_slice hts hv
  obtain ⟨fuel, hf⟩ := h
  obtain ⟨A, n, c, xs, hcs, hn, _, hl, hr, hq⟩ := open_rd (α := SpA) spaC (fun x => Rd w 2 x.2.1.1 x.1.1.length (flat2 .i64 x.1.1) ∧ Rd w 1 x.2.2.1.1 x.1.2.2.1.length (iw x.1.2.2.1) ∧ Rd w 1 x.2.2.2.1 x.1.2.2.2.length (uw x.1.2.2.2) ∧ x.1.2.2.1.length ≤ x.2.2.1.2 ∧ wsmall x.1.2.2.2) 4 (fun _ => rfl) (by omega) hts hC (fun m cs' y hy => by
    obtain ⟨rs, R, ls, es, A, L, B, c, cl, d, he, k1, k2, k3, k4, k5, k6⟩ := open_space0 hs ho0 ho1 hk0 hk1 hC hR heR honeR hCR hq0 hq1 hT honeT h0 h1 he0 hC0 h2 he1 hC1 hy
    exact ⟨((rs, R, ls, es), (A, c), (L, cl), (B, d)), he, k2, k3, k4, k5, k6⟩) hf
  have he : Value.slice A' n' c' = .slice A n c := by simpa [Value.cells] using hcs
  rw [he]
  subst hl
  have hg : ∀ k, k < xs.length → ∃ x, xs[k]? = some x ∧ (xs.map Prod.fst).getD k sp0 = x.1 ∧ x ∈ xs := fun k hk => ⟨xs[k], List.getElem?_eq_getElem hk, by rw [List.getD_eq_getElem?_getD, List.getElem?_map, List.getElem?_eq_getElem hk]; rfl, List.getElem_mem hk⟩
  refine ⟨xs.map Prod.fst, A, c, by rw [List.length_map], by rw [List.length_map]; exact hn, ⟨xs.flatMap spaC, by rw [List.length_map]; exact hr, fun k hk => ?_⟩, fun k hk => ?_⟩
  · rw [List.length_map] at hk
    obtain ⟨x, hx, e, hm⟩ := hg k hk
    obtain ⟨p1, p2, p3, p4, _⟩ := hq x hm
    rw [e]
    exact ⟨x.2.1.1, x.2.1.2, x.2.2.1.1, x.2.2.1.2, x.2.2.2.1, x.2.2.2.2, flatMap_atS spaC 4 (fun _ => rfl) xs k 0 x hx (by omega), flatMap_atS spaC 4 (fun _ => rfl) xs k 1 x hx (by omega), flatMap_atS spaC 4 (fun _ => rfl) xs k 2 x hx (by omega), flatMap_atS spaC 4 (fun _ => rfl) xs k 3 x hx (by omega), p1, p2, p3, p4⟩
  · rw [List.length_map] at hk
    obtain ⟨x, hx, e, hm⟩ := hg k hk
    rw [e]
    exact (hq x hm).2.2.2.2
end
end Go.Proofs.YtmjahjdnfijpkaaDoor
