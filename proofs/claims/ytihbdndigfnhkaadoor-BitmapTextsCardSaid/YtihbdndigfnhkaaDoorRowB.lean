/- Arguments that are lists of words, of numbers, and sets: how they come in. -/
import Derived.Test.YtihbdndigfnhkaaDoorRow
import Derived.Test.YtihbdndigfnhkaaDoorBit2
namespace Go.Proofs.YtihbdndigfnhkaaDoor
open Go Go.RowKit Go.WideShapes Go.ChangeShapes
set_option linter.unusedSimpArgs false
set_option linter.unusedVariables false

theorem flat_words : ∀ ws : List Nat, (ws.flatMap fun r : Nat => [Value.int .u64 (r : Int)]) = uw ws
  | [] => rfl
  | a :: l => by rw [List.flatMap_cons, flat_words l]; rfl
theorem flat_ints : ∀ zs : List Int, (zs.flatMap fun r : Int => [Value.int .i64 r]) = zs.map (Value.int .i64)
  | [] => rfl
  | a :: l => by rw [List.flatMap_cons, flat_ints l]; rfl
section
variable {H : Type} {enc : TypeId × Value → H} {P : Program} {w : World} {base : Nat} {spare : Nat → Bool} {held : Bool}
theorem open_words0 {t e : TypeId} {fuel : Nat} {cs : List Value} {x : DataW H × List MemPlace} (ht : P.underlying t = some (.slice e)) (he : P.underlying e = some (.int .u64)) (hC : P.cellsOf e = 1)
    (h : DataW.trod enc P w base spare held fuel t cs = some x) : ∃ (A : Option Addr) (n c : Nat) (ws : List Nat), cs = [.slice A n c] ∧ n ≤ maxLen ∧ ws.length = n ∧ Rd w 1 A n (uw ws) ∧ wsmall ws := by
  obtain ⟨A, n, c, ws, hcs, hn, _, hl, hr, hq⟩ := open_rd (α := Nat) (fun r => [Value.int .u64 (r : Int)]) (fun r => r < 18446744073709551616) 1 (fun _ => rfl) (by omega) ht hC (fun m cs' y hy => by
    obtain ⟨k, e1, _, hw⟩ := DataW.trod_int he hy
    subst e1
    simp [Lit.wf, IntKind.min, IntKind.max, IntKind.signed, IntKind.bits] at hw
    exact ⟨k.toNat, by rw [Int.toNat_of_nonneg hw.1], by omega⟩) h
  refine ⟨A, n, c, ws, hcs, hn, hl, ?_, hq⟩
  rwa [flat_words] at hr
theorem open_ints0 {t e : TypeId} {fuel : Nat} {cs : List Value} {x : DataW H × List MemPlace} (ht : P.underlying t = some (.slice e)) (he : P.underlying e = some (.int .i64)) (hC : P.cellsOf e = 1)
    (h : DataW.trod enc P w base spare held fuel t cs = some x) : ∃ (A : Option Addr) (n c : Nat) (zs : List Int), cs = [.slice A n c] ∧ n ≤ maxLen ∧ zs.length = n ∧ Rd w 1 A n (zs.map (Value.int .i64)) ∧ ∀ z ∈ zs, -9223372036854775808 ≤ z ∧ z ≤ 9223372036854775807 := by
  obtain ⟨A, n, c, zs, hcs, hn, _, hl, hr, hq⟩ := open_rd (α := Int) (fun r => [Value.int .i64 r]) (fun z => -9223372036854775808 ≤ z ∧ z ≤ 9223372036854775807) 1 (fun _ => rfl) (by omega) ht hC (fun m cs' y hy => by
    obtain ⟨k, e1, _, hw⟩ := DataW.trod_int he hy
    subst e1
    simp [Lit.wf, IntKind.min, IntKind.max, IntKind.signed, IntKind.bits] at hw
    exact ⟨k, rfl, by omega⟩) h
  refine ⟨A, n, c, zs, hcs, hn, hl, ?_, hq⟩
  rwa [flat_ints] at hr
theorem open_ints {t e : TypeId} {v : Value} {d : DataW H} {p : List MemPlace} {r : Reach} {b0 : Nat} (ht : P.underlying t = some (.slice e)) (he : P.underlying e = some (.int .i64)) (hC : P.cellsOf e = 1)
    (hv : Value.okWide P w r b0 t v) (h : DataW.Trod enc P w base spare held t v d p) :
    ∃ (A : Option Addr) (n c : Nat) (zs : List Int), v = .slice A n c ∧ n ≤ maxLen ∧ zs.length = n ∧ Rd w 1 A n (zs.map (Value.int .i64)) ∧ ∀ z ∈ zs, -9223372036854775808 ≤ z ∧ z ≤ 9223372036854775807 := by
  obtain ⟨a, len, cap, rfl⟩ := okWide_slice ht hv
  obtain ⟨fuel, hf⟩ := h
  obtain ⟨A, n, c, zs, hcs, h1, h2, h3, h4⟩ := open_ints0 ht he hC hf
  have hcs' : [Value.slice a len cap] = [Value.slice A n c] := by simpa [Value.cells] using hcs
  injection hcs' with hcs' _
  exact ⟨A, n, c, zs, hcs', h1, h2, h3, h4⟩
/-- A set that came in. -/
theorem open_bits {t u e : TypeId} {f0 f1 : Field} {v : Value} {d : DataW H} {p : List MemPlace} {r : Reach} {b0 : Nat} (hs : P.underlying t = some (.struct #[f0, f1])) (hone : Go.Deep.oneCellFields P #[f0, f1] = true) (hC : P.cellsOf t = 2)
    (h0 : P.underlying f0.type = some (.int .i64)) (h1 : P.underlying f1.type = some (.slice e)) (he : P.underlying e = some (.int .u64)) (hCe : P.cellsOf e = 1)
    (hv : Value.okWide P w r b0 t v) (h : DataW.Trod enc P w base spare held t v d p) :
    ∃ (N : Int) (A : Option Addr) (n c : Nat) (ws : List Nat), v = .agg #[.int .i64 N, .slice A n c] ∧ n ≤ maxLen ∧ ws.length = n ∧ Rd w 1 A n (uw ws) ∧ wsmall ws := by
  obtain ⟨v0, v1, y0, y1, m, rfl, _, _, hy0, hy1⟩ := Go.Joins.open_agg2 hs hone hC hv h
  obtain ⟨N, e0, _, _⟩ := DataW.trod_int h0 hy0
  obtain ⟨A, n, c, ws, e1, k1, k2, k3, k4⟩ := open_words0 h1 he hCe hy1
  simp at e0 e1
  subst e0 e1
  exact ⟨N, A, n, c, ws, rfl, k1, k2, k3, k4⟩
end
end Go.Proofs.YtihbdndigfnhkaaDoor
