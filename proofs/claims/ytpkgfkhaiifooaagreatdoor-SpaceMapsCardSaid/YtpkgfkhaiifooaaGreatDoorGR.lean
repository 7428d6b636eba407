/- Several texts in one. -/
import Derived.WalkKit
import Derived.ProofKit
import Derived.OpenShut
import Derived.Carry
import Derived.Lib.SmallJoins
import Derived.Deep.Slices
import Derived.Deep.Fields
import Derived.Test.YtpkgfkhaiifooaaGreatDoorRows
import Derived.Test.YtpkgfkhaiifooaaGreatDoorBase
import Derived.Test.YtpkgfkhaiifooaaGreatDoorGE
import Derived.LaidMore
import Derived.Lib.LaidTab
import Derived.MakeChecks
import Derived.Test.YtpkgfkhaiifooaaGreatDoorTab1
import Derived.Test.YtpkgfkhaiifooaaGreatDoorGA
/- From a contract to the row: a law that returns true and leaves old memory alone meets its row, whatever its parameters are. -/
namespace Go.Proofs.YtpkgfkhaiifooaaGreatDoor
open Go Go.RowKit Go.WideShapes Go.ChangeShapes
set_option linter.unusedSimpArgs false
set_option linter.unusedVariables false

section
variable {H : Type} {enc : TypeId × Value → H} {P : Program}
theorem trodAll_stays (hl : laidOutB P = true) {W W' : World} {sp : Nat → Bool} : ∀ {ts : List TypeId} {vs : List Value} {ds : List (DataW H)} {ps : List MemPlace},
    (∀ t ∈ ts, P.readableRec t = true ∧ t < P.types.size) → DataW.TrodAll enc P W 0 (fun _ => true) true ts vs ds ps → (∀ x ∈ ps, W.sameAt W' x) → (∀ x ∈ ps, sp x.block = true) → DataW.TrodAll enc P W' 0 sp true ts vs ds ps
  | [], [], [], _, _, h, _, _ => h
  | t :: ts, _ :: _, _ :: _, _, hr, ⟨p, q, h1, h2, e⟩, hs, hsp =>
    ⟨p, q, WideElems.Trod_stays hl (hr t (by simp)).1 (hr t (by simp)).2 h1 (fun x hx => hs x (by rw [e]; exact List.mem_append_left _ hx)) (fun x hx => hsp x (by rw [e]; exact List.mem_append_left _ hx)),
      trodAll_stays hl (fun u hu => hr u (by simp [hu])) h2 (fun x hx => hs x (by rw [e]; exact List.mem_append_right _ hx)) (fun x hx => hsp x (by rw [e]; exact List.mem_append_right _ hx)), e⟩

theorem post_law {f : Func} {s : ChangeSpec} {apart fresh handsOn again : Bool} {W W' : World} {args : Array Value} {ds : List (DataW H)} {before : List MemPlace} {T : TypeId}
    (hl : laidOutB P = true) (hT : P.underlying T = some .bool) (hrt : f.resultTypes = #[T]) (hvars : s.vars = [])
    (hread : ∀ t ∈ f.params.toList, P.readableRec t = true ∧ t < P.types.size)
    (hW : DataW.Whole enc P f.params.toList s.vars apart W args.toList ds [] before)
    (hres : (s.fn H (ds ++ [])).results = [.lit (.bool true)]) (harg : (s.fn H (ds ++ [])).args = ds) (hvar : (s.fn H (ds ++ [])).vars = [])
    (hb : Below W.heap.size W W') : s.post enc P f apart fresh handsOn again W args (.bool true) W' := by
  have hlt : ∀ p ∈ before, p.block < W.heap.size := fun p hp => hW.lt p hp
  have hW0 := hW
  obtain ⟨pa, pv, hA, hV, hps, hz, hn⟩ := hW
  rw [hvars] at hV
  have hpv : pv = [] := hV
  subst hpv
  rw [List.append_nil] at hps
  subst hps
  have hr : ∀ (b : Nat) (sp : Nat → Bool) (hd : Bool), DataW.TrodAll enc P W' b sp hd f.resultTypes.toList ((Value.bool true).resultList f.resultTypes.size) (s.fn H (ds ++ [])).results [] := by
    intro b sp hd
    rw [hres, hrt]
    exact trodAll_cons_mk (shut_bool hT _) trodAll_mk0
  have ha : ∀ sp : Nat → Bool, (∀ p ∈ before, sp p.block = true) → DataW.TrodAll enc P W' 0 sp true f.params.toList args.toList (s.fn H (ds ++ [])).args before := fun sp hsp => by
    rw [harg]
    exact trodAll_stays hl hread hA (fun x hx => hb.same (hlt x hx)) hsp
  have hv : ∀ sp : Nat → Bool, DataW.TrodVars enc P W' sp s.vars (s.fn H (ds ++ [])).vars [] := fun sp => by rw [hvar, hvars]; rfl
  refine ⟨ds, [], before, [], before, [], hW0, hr _ _ _, ha _ (fun p hp => by simpa using hlt p hp), hv _, World.keptBut_mono (fun p hp => ⟨hp, Or.inr (by simpa using hp)⟩) (hb.frame (· ∈ before)), fun _ => ?_⟩
  refine ⟨?_, _, _, ([] ++ before) ++ [], ⟨[] ++ before, [], trodAll_append (ha _ (fun _ _ => rfl)) (hr _ _ _), hv _, rfl, ?_, ?_⟩, ?_⟩
  · intro j t r ht hrr
    rw [hrt] at ht hrr
    match j with
    | 0 =>
      simp at ht
      subst ht
      have : r = .bool true := by simpa [Value.resultList] using hrr.symm
      subst this
      exact okWide_bool_mk hT _
    | j + 1 => simp at ht
  · intro b off hp
    have hin : MemPlace.cell b off ∈ before := by simpa using hp
    rw [hb.frozen (hlt _ hin)]
    exact hz b off (by simpa using hin)
  · intro hap
    simpa using hn hap
  · intro p hp _
    simpa using hp
end

section
variable {H : Type} {enc : TypeId × Value → H} {P : Program} {w : World} {base : Nat} {spare : Nat → Bool} {held : Bool}
theorem flatMap_at {α : Type} (f : α → List Value) (sz : Nat) (hf : ∀ r, (f r).length = sz) (hsz : 0 < sz) : ∀ (rs : List α) (j : Nat) (u : Value), (rs.flatMap f)[j]? = some u → ∃ r, rs[j / sz]? = some r ∧ (f r)[j % sz]? = some u
  | [], j, u, h => by simp at h
  | r :: rs, j, u, h => by
    rw [List.flatMap_cons] at h
    by_cases hj : j < sz
    · rw [List.getElem?_append_left (by rw [hf]; exact hj)] at h
      exact ⟨r, by rw [Nat.div_eq_of_lt hj]; rfl, by rw [Nat.mod_eq_of_lt hj]; exact h⟩
    · rw [List.getElem?_append_right (by rw [hf]; omega), hf] at h
      obtain ⟨q, h1, h2⟩ := flatMap_at f sz hf hsz rs (j - sz) u h
      have e1 : j / sz = (j - sz) / sz + 1 := by
        rw [Nat.div_eq_sub_div hsz (by omega)]
      have e2 : j % sz = (j - sz) % sz := (Nat.mod_eq_sub_mod (by omega))
      exact ⟨q, by rw [e1]; exact h1, by rw [e2]; exact h2⟩
theorem flatMap_len {α : Type} (f : α → List Value) (sz : Nat) (hf : ∀ r, (f r).length = sz) (rs : List α) : (rs.flatMap f).length = rs.length * sz := by
  induction rs with
  | nil => simp
  | cons r rs ih => rw [List.flatMap_cons, List.length_append, hf, ih, List.length_cons, Nat.succ_mul]; omega

/-- A slice that came in, element by element: it reads as a list. -/
theorem open_rd {α : Type} [Inhabited α] (f : α → List Value) (Q : α → Prop) (sz : Nat) (hf : ∀ r, (f r).length = sz) (hsz : 0 < sz) {t e : TypeId} {fuel : Nat} {cs : List Value} {x : DataW H × List MemPlace}
    (ht : P.underlying t = some (.slice e)) (hC : P.cellsOf e = sz)
    (hdec : ∀ (n : Nat) (cs' : List Value) (y : DataW H × List MemPlace), DataW.trod enc P w base spare held n e cs' = some y → ∃ r, cs' = f r ∧ Q r)
    (h : DataW.trod enc P w base spare held fuel t cs = some x) :
    ∃ (A : Option Addr) (n c : Nat) (rs : List α), cs = [.slice A n c] ∧ n ≤ maxLen ∧ n ≤ c ∧ rs.length = n ∧ Rd w sz A n (rs.flatMap f) ∧ ∀ r ∈ rs, Q r := by
  rcases Go.Deep.open_slice ht h with ⟨rfl, _⟩ | ⟨a, len, cap, m, n, D, Pl, rfl, hb, hl, hm, hmm, _, hx⟩
  · exact ⟨none, 0, 0, [], rfl, by unfold maxLen; omega, by omega, rfl, Rd.zero _, by simp⟩
  · have hlm : len ≤ m := by rw [hmm]; split <;> omega
    rw [hC] at hx
    obtain ⟨R, hR⟩ := Go.Deep.choose_lt (α := α) (p := fun i r => w.cells? base (a.add (i * sz)) sz = some (f r) ∧ Q r) (n := len) (fun i hi => by
      obtain ⟨cs', h1, h2⟩ := hx i (by omega)
      obtain ⟨r, rfl, hq⟩ := hdec _ _ _ h2
      exact ⟨r, h1, hq⟩)
    refine ⟨some a, len, cap, (List.range len).map R, rfl, by omega, hl, by simp, ⟨by rw [flatMap_len f sz hf]; simp, fun hn => ?_⟩, ?_⟩
    · obtain ⟨b, off, spot⟩ := a
      have hcell : ∀ i j u, i < len → (f (R i))[j]? = some u → w.cell? ((⟨b, off, spot⟩ : Addr).add (i * sz + j)) = some u := by
        intro i j u hi hu
        obtain ⟨_, _, hat⟩ := World.cells?_some (hR i hi).1
        have hj : j < sz := by rw [← hf (R i)]; exact (List.getElem?_eq_some_iff.1 hu).1
        rw [← Go.Deep.add_add, hat j hj, hu]
      have h00 : (f (R 0))[0]? = some ((f (R 0))[0]'(by rw [hf]; exact hsz)) := List.getElem?_eq_getElem (by rw [hf]; exact hsz)
      have hspot : spot = none := by simpa [Addr.add] using World.cell?_spot (hcell 0 0 _ hn h00)
      subst hspot
      have hlt := World.block_lt_of_cell? w _ (hcell 0 0 _ hn h00)
      refine ⟨b, off, rfl, by simpa [Addr.add] using hlt, fun j u hu => ?_⟩
      obtain ⟨r, h1, h2⟩ := flatMap_at f sz hf hsz _ j u hu
      have hji : j / sz < len := by
        have := (List.getElem?_eq_some_iff.1 h1).1
        simpa using this
      rw [List.getElem?_map, List.getElem?_range hji] at h1
      simp at h1
      subst h1
      have hc := hcell _ _ _ hji h2
      rw [Nat.mul_comm, Nat.div_add_mod] at hc
      rw [← hc, Go.WideShapes.add_plain]
    · intro r hr
      simp at hr
      obtain ⟨i, hi, rfl⟩ := hr
      exact (hR i hi).2

/-- A slice of pairs of numbers that came in. -/
theorem open_pairs {k : IntKind} {t e : TypeId} {f0 f1 : Field} {v : Value} {d : DataW H} {p : List MemPlace} {r : Reach} {b0 : Nat} (ht : P.underlying t = some (.slice e)) (he : P.underlying e = some (.struct #[f0, f1]))
    (hone : Go.Deep.oneCellFields P #[f0, f1] = true) (hC : P.cellsOf e = 2) (h0 : P.underlying f0.type = some (.int k)) (h1 : P.underlying f1.type = some (.int k))
    (hv : Value.okWide P w r b0 t v) (h : DataW.Trod enc P w base spare held t v d p) :
    ∃ (A : Option Addr) (n c : Nat) (rs : List (Int × Int)), v = .slice A n c ∧ n ≤ maxLen ∧ rs.length = n ∧ Rd w 2 A n (flat2 k rs) := by
  obtain ⟨a, len, cap, rfl⟩ := okWide_slice ht hv
  obtain ⟨fuel, hf⟩ := h
  obtain ⟨A, n, c, rs, hcs, hn, _, hl, hr, _⟩ := open_rd (α := Int × Int) (fun r => [Value.int k r.1, Value.int k r.2]) (fun _ => True) 2 (fun _ => rfl) (by omega) ht hC (fun m cs' y hy => by
    obtain ⟨xs, m', rfl, _, hlen, hxl, hg⟩ := DataW.trod_struct he hy
    have hxl : xs.length = 2 := hxl
    rw [hC] at hlen
    match cs', hlen with
    | [c0, c1], _ =>
      obtain ⟨o0, k0⟩ := Go.Deep.hone_of hone 0 f0 rfl
      obtain ⟨o1, k1⟩ := Go.Deep.hone_of hone 1 f1 rfl
      have g0 := hg 0 f0 rfl
      have g1 := hg 1 f1 rfl
      rw [o0, k0] at g0
      rw [o1, k1] at g1
      simp only [List.drop_zero, List.take_succ_cons, List.take_zero, List.drop_succ_cons] at g0 g1
      have q0 : ∃ y, DataW.trod enc P w base spare held m' f0.type [c0] = some y := by
        rw [g0]; exact ⟨_, List.getElem?_eq_getElem (by omega)⟩
      have q1 : ∃ y, DataW.trod enc P w base spare held m' f1.type [c1] = some y := by
        rw [g1]; exact ⟨_, List.getElem?_eq_getElem (by omega)⟩
      obtain ⟨y0, q0⟩ := q0
      obtain ⟨y1, q1⟩ := q1
      obtain ⟨n0, e0, _, _⟩ := DataW.trod_int h0 q0
      obtain ⟨n1, e1, _, _⟩ := DataW.trod_int h1 q1
      simp at e0 e1
      subst e0 e1
      exact ⟨(n0, n1), rfl, trivial⟩) hf
  have hcs' : [Value.slice a len cap] = [Value.slice A n c] := by simpa [Value.cells] using hcs
  injection hcs' with hcs' _
  exact ⟨A, n, c, rs, hcs', hn, hl, hr⟩
end
end Go.Proofs.YtpkgfkhaiifooaaGreatDoor
/- What the listed package variable of the page tables' chapters gives: the table of fields. Entries that come in. -/
namespace Go.Proofs.YtpkgfkhaiifooaaGreatDoor
open Go Go.RowKit Go.WideShapes Go.ChangeShapes Go.ChangeAt
set_option linter.unusedSimpArgs false
set_option linter.unusedVariables false
set_option maxRecDepth 100000

def laid1 : List (String × DataW Unit) := [("headgate/entry.layout", Rows.laid_headgate_entry_layout)]
theorem gLay : Tryz.prog.globalNamed "headgate/entry.layout" = some 0 := by kernel_rfl
theorem tLay : (Tryz.prog.globals[0]?).map (·.type) = some 137 := by kernel_rfl
theorem cLay : Tryz.prog.cellsOf 137 = 6 := by kernel_rfl
theorem cField : Tryz.prog.cellsOf 136 = 2 := by kernel_rfl
theorem fieldOne : (match Tryz.prog.underlying 136 with | some (.struct fs) => Go.Deep.oneCellFields Tryz.prog fs | _ => false) = true := by kernel_rfl
theorem cU64 : Tryz.prog.cellsOf 85 = 1 := by kernel_rfl

/-- A struct of two words that reads as two numbers holds them. -/
theorem two_words {enc : TypeId × Value → Unit} {W : World} {sp : Nat → Bool} {m : Nat} {c0 c1 : Value} {x : DataW Unit × List MemPlace} {a b : Int}
    (h : DataW.trod enc Tryz.prog W 0 sp false m 136 [c0, c1] = some x) (hx : x.1 = .agg [.lit (.int .u64 a), .lit (.int .u64 b)]) : c0 = .int .u64 a ∧ c1 = .int .u64 b := by
  have he := Tryz.underlying136
  have hone : Go.Deep.oneCellFields Tryz.prog _ = true := fieldOne
  obtain ⟨xs, m', rfl, hxx, hlen, hxl, hg⟩ := DataW.trod_struct he h
  have hxl : xs.length = 2 := hxl
  obtain ⟨o0, k0⟩ := Go.Deep.hone_of hone 0 _ rfl
  obtain ⟨o1, k1⟩ := Go.Deep.hone_of hone 1 _ rfl
  have g0 := hg 0 _ rfl
  have g1 := hg 1 _ rfl
  rw [o0, k0] at g0
  rw [o1, k1] at g1
  simp only [List.drop_zero, List.take_succ_cons, List.take_zero, List.drop_succ_cons] at g0 g1
  match xs, hxl with
  | [y0, y1], _ =>
    simp only [List.getElem?_cons_zero, List.getElem?_cons_succ] at g0 g1
    obtain ⟨n0, e0, f0, _⟩ := DataW.trod_int Tryz.underlying120 g0
    obtain ⟨n1, e1, f1, _⟩ := DataW.trod_int Tryz.underlying85 g1
    simp at e0 e1
    subst e0 e1
    rw [hxx] at hx
    rw [f0, f1] at hx
    simp at hx
    exact ⟨by rw [hx.1], by rw [hx.2]⟩
theorem glob_of {W : World} (h : laidMetH Tryz.prog laid1 W) : LayOK W := by
  rw [MakeChecks.laidMetH_plain _ _ _ (by kernel_rfl)] at h
  obtain ⟨ps, ⟨g0, t0, cs0, f0, p0, q0, hg0, ht0, hv0, hd0, _, _⟩, _, _⟩ := h
  obtain rfl := Option.some.inj (gLay.symm.trans hg0)
  obtain rfl := Option.some.inj (tLay.symm.trans ht0)
  obtain ⟨xs, m1, rfl, hx1, hlen, hn3, hel⟩ := DataW.trod_array Tryz.underlying137 hd0
  have h0 := hel 0 (by decide)
  have h1 := hel 1 (by decide)
  have h2 := hel 2 (by decide)
  rw [cField] at h0 h1 h2
  rw [cLay] at hlen
  have hv := World.var?_cell gLay hv0
  obtain ⟨l⟩ := cs0
  simp only at hlen h0 h1 h2 hv
  match l, hlen with
  | [a0, a1, a2, a3, a4, a5], _ =>
    match xs, hn3 with
    | [x0, x1, x2], _ =>
      simp only [Nat.zero_mul, List.drop_zero, List.take_succ_cons, List.take_zero, Nat.one_mul, List.drop_succ_cons, show 2 * 2 = 4 from rfl, List.getElem?_cons_zero, List.getElem?_cons_succ] at h0 h1 h2
      have hx2 := congrArg Prod.fst hx1
      simp only [Rows.laid_headgate_entry_layout, List.map_cons, List.map_nil, DataW.agg.injEq, List.cons.injEq, and_true] at hx2
      obtain ⟨r0, r1⟩ := two_words h0 hx2.1.symm
      obtain ⟨r2, r3⟩ := two_words h1 hx2.2.1.symm
      obtain ⟨r4, r5⟩ := two_words h2 hx2.2.2.symm
      subst r0 r1 r2 r3 r4 r5
      intro j hj
      have hj6 : j = 0 ∨ j = 1 ∨ j = 2 ∨ j = 3 ∨ j = 4 ∨ j = 5 := by omega
      rcases hj6 with rfl | rfl | rfl | rfl | rfl | rfl
      · exact hv 0
      · exact hv 1
      · exact hv 2
      · exact hv 3
      · exact hv 4
      · exact hv 5
theorem cEntry : Tryz.prog.cellsOf 57 = 5 := by kernel_rfl
theorem entryOne : (match Tryz.prog.underlying 57 with | some (.struct fs) => Go.Deep.oneCellFields Tryz.prog fs | _ => false) = true := by kernel_rfl
/-- An entry that came in. -/
theorem open_entry {H : Type} {enc : TypeId × Value → H} {W : World} {base : Nat} {spare : Nat → Bool} {held : Bool} {v : Value} {d : DataW H} {p : List MemPlace} {r : Reach} {b0 : Nat}
    (hv : Value.okWide Tryz.prog W r b0 57 v) (h : DataW.Trod enc Tryz.prog W base spare held 57 v d p) :
    ∃ (k n : Int) (a b c : Bool), v = .agg #[.int .i64 k, .int .i64 n, .bool a, .bool b, .bool c] := by
  have he := Tryz.underlying57
  have hone : Go.Deep.oneCellFields Tryz.prog _ = true := entryOne
  obtain ⟨cs, rfl, hsz⟩ := okWide_struct he hv
  rw [cEntry] at hsz
  obtain ⟨fuel, hf⟩ := h
  obtain ⟨xs, m', rfl, hxx, hlen, hxl, hg⟩ := DataW.trod_struct he hf
  have hxl : xs.length = 5 := hxl
  obtain ⟨l⟩ := cs
  match l, hsz with
  | [c0, c1, c2, c3, c4], _ =>
    obtain ⟨o0, k0⟩ := Go.Deep.hone_of hone 0 _ rfl
    obtain ⟨o1, k1⟩ := Go.Deep.hone_of hone 1 _ rfl
    obtain ⟨o2, k2⟩ := Go.Deep.hone_of hone 2 _ rfl
    obtain ⟨o3, k3⟩ := Go.Deep.hone_of hone 3 _ rfl
    obtain ⟨o4, k4⟩ := Go.Deep.hone_of hone 4 _ rfl
    have g0 := hg 0 _ rfl
    have g1 := hg 1 _ rfl
    have g2 := hg 2 _ rfl
    have g3 := hg 3 _ rfl
    have g4 := hg 4 _ rfl
    rw [o0, k0] at g0
    rw [o1, k1] at g1
    rw [o2, k2] at g2
    rw [o3, k3] at g3
    rw [o4, k4] at g4
    simp only [Value.cells, List.drop_zero, List.take_succ_cons, List.take_zero, List.drop_succ_cons] at g0 g1 g2 g3 g4
    match xs, hxl with
    | [y0, y1, y2, y3, y4], _ =>
      simp only [List.getElem?_cons_zero, List.getElem?_cons_succ] at g0 g1 g2 g3 g4
      obtain ⟨n0, e0, _, _⟩ := DataW.trod_int Tryz.underlying3 g0
      obtain ⟨n1, e1, _, _⟩ := DataW.trod_int Tryz.underlying3 g1
      obtain ⟨n2, e2, _⟩ := DataW.trod_bool Tryz.underlying4 g2
      obtain ⟨n3, e3, _⟩ := DataW.trod_bool Tryz.underlying4 g3
      obtain ⟨n4, e4, _⟩ := DataW.trod_bool Tryz.underlying4 g4
      simp at e0 e1 e2 e3 e4
      subst e0 e1 e2 e3 e4
      exact ⟨n0, n1, n2, n3, n4, rfl⟩
/-- A word that came in. -/
theorem open_u64 {a : Int} (h : (Lit.int .u64 a).wf = true) : ∃ x : Nat, a = x ∧ x < 18446744073709551616 := by
  simp [Lit.wf, IntKind.min, IntKind.max, IntKind.signed, IntKind.bits] at h
  exact ⟨a.toNat, by omega, by omega⟩
theorem open_i64 {a : Int} (h : (Lit.int .i64 a).wf = true) : -9223372036854775808 ≤ a ∧ a ≤ 9223372036854775807 := by
  simp [Lit.wf, IntKind.min, IntKind.max, IntKind.signed, IntKind.bits] at h
  omega
end Go.Proofs.YtpkgfkhaiifooaaGreatDoor
/- Arguments that are lists of words, of numbers, and page tables: how they come in. -/
namespace Go.Proofs.YtpkgfkhaiifooaaGreatDoor
open Go Go.RowKit Go.WideShapes Go.ChangeShapes
set_option linter.unusedSimpArgs false
set_option linter.unusedVariables false

theorem flat_words : ∀ ws : List Nat, (ws.flatMap fun r : Nat => [Value.int .u64 (r : Int)]) = uw ws
  | [] => rfl
  | a :: l => by rw [List.flatMap_cons, flat_words l]; rfl
theorem flat_ints : ∀ zs : List Int, (zs.flatMap fun r : Int => [Value.int .i64 r]) = zs.map (Value.int .i64)
  | [] => rfl
  | a :: l => by rw [List.flatMap_cons, flat_ints l]; rfl
section
variable {H : Type} {enc : TypeId × Value → H} {P : Program} {w : World} {base : Nat} {spare : Nat → Bool} {held : Bool}
theorem open_words0 {t e : TypeId} {fuel : Nat} {cs : List Value} {x : DataW H × List MemPlace} (ht : P.underlying t = some (.slice e)) (he : P.underlying e = some (.int .u64)) (hC : P.cellsOf e = 1)
    (h : DataW.trod enc P w base spare held fuel t cs = some x) : ∃ (A : Option Addr) (n c : Nat) (ws : List Nat), cs = [.slice A n c] ∧ n ≤ maxLen ∧ n ≤ c ∧ ws.length = n ∧ Rd w 1 A n (uw ws) ∧ wsmall ws := by
  obtain ⟨A, n, c, ws, hcs, hn, hnc, hl, hr, hq⟩ := open_rd (α := Nat) (fun r => [Value.int .u64 (r : Int)]) (fun r => r < 18446744073709551616) 1 (fun _ => rfl) (by omega) ht hC (fun m cs' y hy => by
    obtain ⟨k, e1, _, hw⟩ := DataW.trod_int he hy
    subst e1
    simp [Lit.wf, IntKind.min, IntKind.max, IntKind.signed, IntKind.bits] at hw
    exact ⟨k.toNat, by rw [Int.toNat_of_nonneg hw.1], by omega⟩) h
  refine ⟨A, n, c, ws, hcs, hn, hnc, hl, ?_, hq⟩
  rwa [flat_words] at hr
theorem open_ints0 {t e : TypeId} {fuel : Nat} {cs : List Value} {x : DataW H × List MemPlace} (ht : P.underlying t = some (.slice e)) (he : P.underlying e = some (.int .i64)) (hC : P.cellsOf e = 1)
    (h : DataW.trod enc P w base spare held fuel t cs = some x) : ∃ (A : Option Addr) (n c : Nat) (zs : List Int), cs = [.slice A n c] ∧ n ≤ maxLen ∧ n ≤ c ∧ zs.length = n ∧ Rd w 1 A n (zs.map (Value.int .i64)) ∧ ∀ z ∈ zs, -9223372036854775808 ≤ z ∧ z ≤ 9223372036854775807 := by
  obtain ⟨A, n, c, zs, hcs, hn, hnc, hl, hr, hq⟩ := open_rd (α := Int) (fun r => [Value.int .i64 r]) (fun z => -9223372036854775808 ≤ z ∧ z ≤ 9223372036854775807) 1 (fun _ => rfl) (by omega) ht hC (fun m cs' y hy => by
    obtain ⟨k, e1, _, hw⟩ := DataW.trod_int he hy
    subst e1
    simp [Lit.wf, IntKind.min, IntKind.max, IntKind.signed, IntKind.bits] at hw
    exact ⟨k, rfl, by omega⟩) h
  refine ⟨A, n, c, zs, hcs, hn, hnc, hl, ?_, hq⟩
  rwa [flat_ints] at hr
theorem open_ints {t e : TypeId} {v : Value} {d : DataW H} {p : List MemPlace} {r : Reach} {b0 : Nat} (ht : P.underlying t = some (.slice e)) (he : P.underlying e = some (.int .i64)) (hC : P.cellsOf e = 1)
    (hv : Value.okWide P w r b0 t v) (h : DataW.Trod enc P w base spare held t v d p) :
    ∃ (A : Option Addr) (n c : Nat) (zs : List Int), v = .slice A n c ∧ n ≤ maxLen ∧ zs.length = n ∧ Rd w 1 A n (zs.map (Value.int .i64)) ∧ ∀ z ∈ zs, -9223372036854775808 ≤ z ∧ z ≤ 9223372036854775807 := by
  obtain ⟨a, len, cap, rfl⟩ := okWide_slice ht hv
  obtain ⟨fuel, hf⟩ := h
  obtain ⟨A, n, c, zs, hcs, h1, _, h2, h3, h4⟩ := open_ints0 ht he hC hf
  have hcs' : [Value.slice a len cap] = [Value.slice A n c] := by simpa [Value.cells] using hcs
  injection hcs' with hcs' _
  exact ⟨A, n, c, zs, hcs', h1, h2, h3, h4⟩
/-- A table that came in. -/
theorem open_table {t e0 e1 : TypeId} {f0 f1 f2 : Field} {v : Value} {d : DataW H} {p : List MemPlace} {r : Reach} {b0 : Nat} (hs : P.underlying t = some (.struct #[f0, f1, f2])) (hone : Go.Deep.oneCellFields P #[f0, f1, f2] = true) (hC : P.cellsOf t = 3)
    (h0 : P.underlying f0.type = some (.int .i64)) (h1 : P.underlying f1.type = some (.slice e0)) (he0 : P.underlying e0 = some (.int .i64)) (hC0 : P.cellsOf e0 = 1) (h2 : P.underlying f2.type = some (.slice e1)) (he1 : P.underlying e1 = some (.int .u64)) (hC1 : P.cellsOf e1 = 1)
    (hv : Value.okWide P w r b0 t v) (h : DataW.Trod enc P w base spare held t v d p) :
    ∃ (N : Int) (ls : List Int) (es : List Nat) (A B : Option Addr) (c d : Nat), v = .agg #[.int .i64 N, .slice A ls.length c, .slice B es.length d] ∧ Rd w 1 A ls.length (iw ls) ∧ Rd w 1 B es.length (uw es) ∧ ls.length ≤ c ∧ wsmall es := by
  obtain ⟨v0, v1, v2, y0, y1, y2, m, rfl, _, _, hy0, hy1, hy2⟩ := Go.Joins.open_agg3 hs hone hC hv h
  obtain ⟨N, e0, _, _⟩ := DataW.trod_int h0 hy0
  obtain ⟨A, n, c, zs, e1, k1, kc, k2, k3, k4⟩ := open_ints0 h1 he0 hC0 hy1
  obtain ⟨B, n', c', ws, e2, m1, mc, m2, m3, m4⟩ := open_words0 h2 he1 hC1 hy2
  simp at e0 e1 e2
  subst e0 e1 e2 k2 m2
  exact ⟨N, zs, ws, A, B, c, c', rfl, k3, m3, kc, m4⟩
end
end Go.Proofs.YtpkgfkhaiifooaaGreatDoor
/- Arguments that are address spaces: how they come in. -/
namespace Go.Proofs.YtpkgfkhaiifooaaGreatDoor
open Go Go.RowKit Go.WideShapes Go.ChangeShapes
set_option linter.unusedSimpArgs false
set_option linter.unusedVariables false

section
variable {H : Type} {enc : TypeId × Value → H} {P : Program} {w : World} {base : Nat} {spare : Nat → Bool} {held : Bool}
theorem open_pairs0 {k : IntKind} {t e : TypeId} {f0 f1 : Field} {fuel : Nat} {cs : List Value} {x : DataW H × List MemPlace} (ht : P.underlying t = some (.slice e)) (he : P.underlying e = some (.struct #[f0, f1]))
    (hone : Go.Deep.oneCellFields P #[f0, f1] = true) (hC : P.cellsOf e = 2) (h0 : P.underlying f0.type = some (.int k)) (h1 : P.underlying f1.type = some (.int k))
    (hf : DataW.trod enc P w base spare held fuel t cs = some x) :
    ∃ (A : Option Addr) (n c : Nat) (rs : List (Int × Int)), cs = [.slice A n c] ∧ n ≤ maxLen ∧ rs.length = n ∧ Rd w 2 A n (flat2 k rs) := by
  obtain ⟨A, n, c, rs, hcs, hn, _, hl, hr, _⟩ := open_rd (α := Int × Int) (fun r => [Value.int k r.1, Value.int k r.2]) (fun _ => True) 2 (fun _ => rfl) (by omega) ht hC (fun m cs' y hy => by
    obtain ⟨xs, m', rfl, _, hlen, hxl, hg⟩ := DataW.trod_struct he hy
    have hxl : xs.length = 2 := hxl
    rw [hC] at hlen
    match cs', hlen with
    | [c0, c1], _ =>
      obtain ⟨o0, k0⟩ := Go.Deep.hone_of hone 0 f0 rfl
      obtain ⟨o1, k1⟩ := Go.Deep.hone_of hone 1 f1 rfl
      have g0 := hg 0 f0 rfl
      have g1 := hg 1 f1 rfl
      rw [o0, k0] at g0
      rw [o1, k1] at g1
      simp only [List.drop_zero, List.take_succ_cons, List.take_zero, List.drop_succ_cons] at g0 g1
      have q0 : ∃ y, DataW.trod enc P w base spare held m' f0.type [c0] = some y := by
        rw [g0]; exact ⟨_, List.getElem?_eq_getElem (by omega)⟩
      have q1 : ∃ y, DataW.trod enc P w base spare held m' f1.type [c1] = some y := by
        rw [g1]; exact ⟨_, List.getElem?_eq_getElem (by omega)⟩
      obtain ⟨y0, q0⟩ := q0
      obtain ⟨y1, q1⟩ := q1
      obtain ⟨n0, e0, _, _⟩ := DataW.trod_int h0 q0
      obtain ⟨n1, e1, _, _⟩ := DataW.trod_int h1 q1
      simp at e0 e1
      subst e0 e1
      exact ⟨(n0, n1), rfl, trivial⟩) hf
  exact ⟨A, n, c, rs, hcs, hn, hl, hr⟩
/-- The four cells of an address space. -/
theorem open_space0 {t eR eI eW : TypeId} {g0 g1 q0 q1 f0 f1 f2 : Field} {fuel : Nat} {cs : List Value} {x : DataW H × List MemPlace} (hs : P.underlying t = some (.struct #[g0, g1])) (ho0 : g0.offset = 0) (ho1 : g1.offset = 1) (hk0 : P.cellsOf g0.type = 1) (hk1 : P.cellsOf g1.type = 3) (hC : P.cellsOf t = 4)
    (hR : P.underlying g0.type = some (.slice eR)) (heR : P.underlying eR = some (.struct #[q0, q1])) (honeR : Go.Deep.oneCellFields P #[q0, q1] = true) (hCR : P.cellsOf eR = 2) (hq0 : P.underlying q0.type = some (.int .i64)) (hq1 : P.underlying q1.type = some (.int .i64))
    (hT : P.underlying g1.type = some (.struct #[f0, f1, f2])) (honeT : Go.Deep.oneCellFields P #[f0, f1, f2] = true)
    (h0 : P.underlying f0.type = some (.int .i64)) (h1 : P.underlying f1.type = some (.slice eI)) (he0 : P.underlying eI = some (.int .i64)) (hC0 : P.cellsOf eI = 1) (h2 : P.underlying f2.type = some (.slice eW)) (he1 : P.underlying eW = some (.int .u64)) (hC1 : P.cellsOf eW = 1)
    (h : DataW.trod enc P w base spare held fuel t cs = some x) :
    ∃ (rs : List (Int × Int)) (R : Int) (ls : List Int) (es : List Nat) (A L B : Option Addr) (c cl d : Nat), cs = [.slice A rs.length c, .int .i64 R, .slice L ls.length cl, .slice B es.length d] ∧ rs.length ≤ maxLen ∧ Rd w 2 A rs.length (flat2 .i64 rs) ∧ Rd w 1 L ls.length (iw ls) ∧ Rd w 1 B es.length (uw es) ∧ ls.length ≤ cl ∧ wsmall es := by
  obtain ⟨xs, m, rfl, _, hlen, hxl, hg⟩ := DataW.trod_struct hs h
  have hxl : xs.length = 2 := hxl
  rw [hC] at hlen
  match cs, hlen with
  | [c0, c1, c2, c3], _ =>
    have a0 := hg 0 g0 rfl
    have a1 := hg 1 g1 rfl
    rw [ho0, hk0] at a0
    rw [ho1, hk1] at a1
    simp only [List.drop_zero, List.take_succ_cons, List.take_zero, List.drop_succ_cons] at a0 a1
    have b0 : ∃ y, DataW.trod enc P w base spare held m g0.type [c0] = some y := by rw [a0]; exact ⟨_, List.getElem?_eq_getElem (by omega)⟩
    have b1 : ∃ y, DataW.trod enc P w base spare held m g1.type [c1, c2, c3] = some y := by rw [a1]; exact ⟨_, List.getElem?_eq_getElem (by omega)⟩
    obtain ⟨y0, b0⟩ := b0
    obtain ⟨y1, b1⟩ := b1
    obtain ⟨A, n, c, rs, e0, k1, k2, k3⟩ := open_pairs0 hR heR honeR hCR hq0 hq1 b0
    obtain ⟨ys, m2, rfl, _, hlen2, hyl, hg2⟩ := DataW.trod_struct hT b1
    have hyl : ys.length = 3 := hyl
    obtain ⟨o0, kk0⟩ := Go.Deep.hone_of honeT 0 f0 rfl
    obtain ⟨o1, kk1⟩ := Go.Deep.hone_of honeT 1 f1 rfl
    obtain ⟨o2, kk2⟩ := Go.Deep.hone_of honeT 2 f2 rfl
    have d0 := hg2 0 f0 rfl
    have d1 := hg2 1 f1 rfl
    have d2 := hg2 2 f2 rfl
    rw [o0, kk0] at d0
    rw [o1, kk1] at d1
    rw [o2, kk2] at d2
    simp only [List.drop_zero, List.take_succ_cons, List.take_zero, List.drop_succ_cons] at d0 d1 d2
    have u0 : ∃ y, DataW.trod enc P w base spare held m2 f0.type [c1] = some y := by rw [d0]; exact ⟨_, List.getElem?_eq_getElem (by omega)⟩
    have u1 : ∃ y, DataW.trod enc P w base spare held m2 f1.type [c2] = some y := by rw [d1]; exact ⟨_, List.getElem?_eq_getElem (by omega)⟩
    have u2 : ∃ y, DataW.trod enc P w base spare held m2 f2.type [c3] = some y := by rw [d2]; exact ⟨_, List.getElem?_eq_getElem (by omega)⟩
    obtain ⟨z0, u0⟩ := u0
    obtain ⟨z1, u1⟩ := u1
    obtain ⟨z2, u2⟩ := u2
    obtain ⟨N, e1, _, _⟩ := DataW.trod_int h0 u0
    obtain ⟨L, nl, cl, zs, e2, p1, pc, p2, p3, p4⟩ := open_ints0 h1 he0 hC0 u1
    obtain ⟨B, nb, cb, ws, e3, w1, wc, w2, w3, w4⟩ := open_words0 h2 he1 hC1 u2
    simp at e0 e1 e2 e3
    subst e0 e1 e2 e3 k2 p2 w2
    exact ⟨rs, N, zs, ws, A, L, B, c, cl, cb, rfl, k1, k3, p3, w3, pc, w4⟩
/-- An address space that came in. -/
theorem open_space {t eR eI eW : TypeId} {g0 g1 q0 q1 f0 f1 f2 : Field} {v : Value} {d : DataW H} {p : List MemPlace} {r : Reach} {b0 : Nat} (hs : P.underlying t = some (.struct #[g0, g1])) (ho0 : g0.offset = 0) (ho1 : g1.offset = 1) (hk0 : P.cellsOf g0.type = 1) (hk1 : P.cellsOf g1.type = 3) (hC : P.cellsOf t = 4)
    (hR : P.underlying g0.type = some (.slice eR)) (heR : P.underlying eR = some (.struct #[q0, q1])) (honeR : Go.Deep.oneCellFields P #[q0, q1] = true) (hCR : P.cellsOf eR = 2) (hq0 : P.underlying q0.type = some (.int .i64)) (hq1 : P.underlying q1.type = some (.int .i64))
    (hT : P.underlying g1.type = some (.struct #[f0, f1, f2])) (honeT : Go.Deep.oneCellFields P #[f0, f1, f2] = true)
    (h0 : P.underlying f0.type = some (.int .i64)) (h1 : P.underlying f1.type = some (.slice eI)) (he0 : P.underlying eI = some (.int .i64)) (hC0 : P.cellsOf eI = 1) (h2 : P.underlying f2.type = some (.slice eW)) (he1 : P.underlying eW = some (.int .u64)) (hC1 : P.cellsOf eW = 1)
    (hv : Value.okWide P w r b0 t v) (h : DataW.Trod enc P w base spare held t v d p) :
    ∃ (rs : List (Int × Int)) (R : Int) (ls : List Int) (es : List Nat) (A L B : Option Addr) (c cl d : Nat), v = .agg #[.slice A rs.length c, .int .i64 R, .slice L ls.length cl, .slice B es.length d] ∧ rs.length ≤ maxLen ∧ Rd w 2 A rs.length (flat2 .i64 rs) ∧ Rd w 1 L ls.length (iw ls) ∧ Rd w 1 B es.length (uw es) ∧ ls.length ≤ cl ∧ wsmall es := by
  obtain ⟨cs, rfl, hsz⟩ := okWide_struct hs hv
  obtain ⟨fuel, hf⟩ := h
  obtain ⟨rs, R, ls, es, A, L, B, c, cl, d, he, h5⟩ := open_space0 hs ho0 ho1 hk0 hk1 hC hR heR honeR hCR hq0 hq1 hT honeT h0 h1 he0 hC0 h2 he1 hC1 hf
  have he' : cs.toList = [.slice A rs.length c, .int .i64 R, .slice L ls.length cl, .slice B es.length d] := by simpa [Value.cells] using he
  refine ⟨rs, R, ls, es, A, L, B, c, cl, d, ?_, h5⟩
  rw [show cs = #[.slice A rs.length c, .int .i64 R, .slice L ls.length cl, .slice B es.length d] from Array.toList_inj.1 he']
end
end Go.Proofs.YtpkgfkhaiifooaaGreatDoor
