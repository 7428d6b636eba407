/- What the listed package variable of the page tables' chapters gives: the table of fields. Entries that come in. -/
import Derived.Test.YtnmknbnidfmmoaaDoorRow
import Derived.Test.YtnmknbnidfmmoaaDoorEn1
import Derived.LaidMore
import Derived.Lib.LaidTab
import Derived.MakeChecks
namespace Go.Proofs.YtnmknbnidfmmoaaDoor
open Go Go.RowKit Go.WideShapes Go.ChangeShapes Go.ChangeAt
set_option linter.unusedSimpArgs false
set_option linter.unusedVariables false
set_option maxRecDepth 100000

def laid1 : List (String × DataW Unit) := [("headgate/entry.layout", Rows.laid_headgate_entry_layout)]
theorem gLay : Tryd.prog.globalNamed "headgate/entry.layout" = some 0 := by kernel_rfl
theorem tLay : (Tryd.prog.globals[0]?).map (·.type) = some 91 := by kernel_rfl
theorem cLay : Tryd.prog.cellsOf 91 = 6 := by kernel_rfl
theorem cField : Tryd.prog.cellsOf 90 = 2 := by kernel_rfl
theorem fieldOne : (match Tryd.prog.underlying 90 with | some (.struct fs) => Go.Deep.oneCellFields Tryd.prog fs | _ => false) = true := by kernel_rfl
theorem cU64 : Tryd.prog.cellsOf 66 = 1 := by kernel_rfl

/-- A struct of two words that reads as two numbers holds them. -/
theorem two_words {enc : TypeId × Value → Unit} {W : World} {sp : Nat → Bool} {m : Nat} {c0 c1 : Value} {x : DataW Unit × List MemPlace} {a b : Int}
    (h : DataW.trod enc Tryd.prog W 0 sp false m 90 [c0, c1] = some x) (hx : x.1 = .agg [.lit (.int .u64 a), .lit (.int .u64 b)]) : c0 = .int .u64 a ∧ c1 = .int .u64 b := by
  have he := Tryd.underlying90
  have hone : Go.Deep.oneCellFields Tryd.prog _ = true := fieldOne
  obtain ⟨xs, m', rfl, hxx, hlen, hxl, hg⟩ := DataW.trod_struct he h
  have hxl : xs.length = 2 := hxl
  obtain ⟨o0, k0⟩ := Go.Deep.hone_of hone 0 _ rfl
  obtain ⟨o1, k1⟩ := Go.Deep.hone_of hone 1 _ rfl
  have g0 := hg 0 _ rfl
  have g1 := hg 1 _ rfl
  rw [o0, k0] at g0
  rw [o1, k1] at g1
  simp only [List.drop_zero, List.take_succ_cons, List.take_zero, List.drop_succ_cons] at g0 g1
  match xs, hxl with
  | [y0, y1], _ =>
    simp only [List.getElem?_cons_zero, List.getElem?_cons_succ] at g0 g1
    obtain ⟨n0, e0, f0, _⟩ := DataW.trod_int Tryd.underlying88 g0
    obtain ⟨n1, e1, f1, _⟩ := DataW.trod_int Tryd.underlying66 g1
    simp at e0 e1
    subst e0 e1
    rw [hxx] at hx
    rw [f0, f1] at hx
    simp at hx
    exact ⟨by rw [hx.1], by rw [hx.2]⟩
theorem glob_of {W : World} (h : laidMetH Tryd.prog laid1 W) : LayOK W := by
  rw [MakeChecks.laidMetH_plain _ _ _ (by kernel_rfl)] at h
  obtain ⟨ps, ⟨g0, t0, cs0, f0, p0, q0, hg0, ht0, hv0, hd0, _, _⟩, _, _⟩ := h
  obtain rfl := Option.some.inj (gLay.symm.trans hg0)
  obtain rfl := Option.some.inj (tLay.symm.trans ht0)
  obtain ⟨xs, m1, rfl, hx1, hlen, hn3, hel⟩ := DataW.trod_array Tryd.underlying91 hd0
  have h0 := hel 0 (by decide)
  have h1 := hel 1 (by decide)
  have h2 := hel 2 (by decide)
  rw [cField] at h0 h1 h2
  rw [cLay] at hlen
  have hv := World.var?_cell gLay hv0
  obtain ⟨l⟩ := cs0
  simp only at hlen h0 h1 h2 hv
  match l, hlen with
  | [a0, a1, a2, a3, a4, a5], _ =>
    match xs, hn3 with
    | [x0, x1, x2], _ =>
      simp only [Nat.zero_mul, List.drop_zero, List.take_succ_cons, List.take_zero, Nat.one_mul, List.drop_succ_cons, show 2 * 2 = 4 from rfl, List.getElem?_cons_zero, List.getElem?_cons_succ] at h0 h1 h2
      have hx2 := congrArg Prod.fst hx1
      simp only [Rows.laid_headgate_entry_layout, List.map_cons, List.map_nil, DataW.agg.injEq, List.cons.injEq, and_true] at hx2
      obtain ⟨r0, r1⟩ := two_words h0 hx2.1.symm
      obtain ⟨r2, r3⟩ := two_words h1 hx2.2.1.symm
      obtain ⟨r4, r5⟩ := two_words h2 hx2.2.2.symm
      subst r0 r1 r2 r3 r4 r5
      intro j hj
      have hj6 : j = 0 ∨ j = 1 ∨ j = 2 ∨ j = 3 ∨ j = 4 ∨ j = 5 := by omega
      rcases hj6 with rfl | rfl | rfl | rfl | rfl | rfl
      · exact hv 0
      · exact hv 1
      · exact hv 2
      · exact hv 3
      · exact hv 4
      · exact hv 5
theorem cEntry : Tryd.prog.cellsOf 35 = 5 := by kernel_rfl
theorem entryOne : (match Tryd.prog.underlying 35 with | some (.struct fs) => Go.Deep.oneCellFields Tryd.prog fs | _ => false) = true := by kernel_rfl
/-- An entry that came in. -/
theorem open_entry {H : Type} {enc : TypeId × Value → H} {W : World} {base : Nat} {spare : Nat → Bool} {held : Bool} {v : Value} {d : DataW H} {p : List MemPlace} {r : Reach} {b0 : Nat}
    (hv : Value.okWide Tryd.prog W r b0 35 v) (h : DataW.Trod enc Tryd.prog W base spare held 35 v d p) :
    ∃ (k n : Int) (a b c : Bool), v = .agg #[.int .i64 k, .int .i64 n, .bool a, .bool b, .bool c] := by
  have he := Tryd.underlying35
  have hone : Go.Deep.oneCellFields Tryd.prog _ = true := entryOne
  obtain ⟨cs, rfl, hsz⟩ := okWide_struct he hv
  rw [cEntry] at hsz
  obtain ⟨fuel, hf⟩ := h
  obtain ⟨xs, m', rfl, hxx, hlen, hxl, hg⟩ := DataW.trod_struct he hf
  have hxl : xs.length = 5 := hxl
  obtain ⟨l⟩ := cs
  match l, hsz with
  | [c0, c1, c2, c3, c4], _ =>
    obtain ⟨o0, k0⟩ := Go.Deep.hone_of hone 0 _ rfl
    obtain ⟨o1, k1⟩ := Go.Deep.hone_of hone 1 _ rfl
    obtain ⟨o2, k2⟩ := Go.Deep.hone_of hone 2 _ rfl
    obtain ⟨o3, k3⟩ := Go.Deep.hone_of hone 3 _ rfl
    obtain ⟨o4, k4⟩ := Go.Deep.hone_of hone 4 _ rfl
    have g0 := hg 0 _ rfl
    have g1 := hg 1 _ rfl
    have g2 := hg 2 _ rfl
    have g3 := hg 3 _ rfl
    have g4 := hg 4 _ rfl
    rw [o0, k0] at g0
    rw [o1, k1] at g1
    rw [o2, k2] at g2
    rw [o3, k3] at g3
    rw [o4, k4] at g4
    simp only [Value.cells, List.drop_zero, List.take_succ_cons, List.take_zero, List.drop_succ_cons] at g0 g1 g2 g3 g4
    match xs, hxl with
    | [y0, y1, y2, y3, y4], _ =>
      simp only [List.getElem?_cons_zero, List.getElem?_cons_succ] at g0 g1 g2 g3 g4
      obtain ⟨n0, e0, _, _⟩ := DataW.trod_int Tryd.underlying3 g0
      obtain ⟨n1, e1, _, _⟩ := DataW.trod_int Tryd.underlying3 g1
      obtain ⟨n2, e2, _⟩ := DataW.trod_bool Tryd.underlying4 g2
      obtain ⟨n3, e3, _⟩ := DataW.trod_bool Tryd.underlying4 g3
      obtain ⟨n4, e4, _⟩ := DataW.trod_bool Tryd.underlying4 g4
      simp at e0 e1 e2 e3 e4
      subst e0 e1 e2 e3 e4
      exact ⟨n0, n1, n2, n3, n4, rfl⟩
/-- A word that came in. -/
theorem open_u64 {a : Int} (h : (Lit.int .u64 a).wf = true) : ∃ x : Nat, a = x ∧ x < 18446744073709551616 := by
  simp [Lit.wf, IntKind.min, IntKind.max, IntKind.signed, IntKind.bits] at h
  exact ⟨a.toNat, by omega, by omega⟩
theorem open_i64 {a : Int} (h : (Lit.int .i64 a).wf = true) : -9223372036854775808 ≤ a ∧ a ≤ 9223372036854775807 := by
  simp [Lit.wf, IntKind.min, IntKind.max, IntKind.signed, IntKind.bits] at h
  omega
end Go.Proofs.YtnmknbnidfmmoaaDoor
