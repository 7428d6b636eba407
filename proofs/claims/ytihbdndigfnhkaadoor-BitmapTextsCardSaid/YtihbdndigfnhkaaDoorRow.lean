/- From a contract to the row: a law that returns true and leaves old memory alone meets its row, whatever its parameters are. -/
import Derived.WalkKit
import Derived.ProofKit
import Derived.OpenShut
import Derived.Carry
import Derived.Lib.SmallJoins
import Derived.Deep.Slices
import Derived.Deep.Fields
import Derived.Test.YtihbdndigfnhkaaDoorRows
import Derived.Test.YtihbdndigfnhkaaDoorBase
namespace Go.Proofs.YtihbdndigfnhkaaDoor
open Go Go.RowKit Go.WideShapes Go.ChangeShapes
set_option linter.unusedSimpArgs false
set_option linter.unusedVariables false

section
variable {H : Type} {enc : TypeId × Value → H} {P : Program}
theorem trodAll_stays (hl : laidOutB P = true) {W W' : World} {sp : Nat → Bool} : ∀ {ts : List TypeId} {vs : List Value} {ds : List (DataW H)} {ps : List MemPlace},
    (∀ t ∈ ts, P.readableRec t = true ∧ t < P.types.size) → DataW.TrodAll enc P W 0 (fun _ => true) true ts vs ds ps → (∀ x ∈ ps, W.sameAt W' x) → (∀ x ∈ ps, sp x.block = true) → DataW.TrodAll enc P W' 0 sp true ts vs ds ps
  | [], [], [], _, _, h, _, _ => h
  | t :: ts, _ :: _, _ :: _, _, hr, ⟨p, q, h1, h2, e⟩, hs, hsp =>
    ⟨p, q, WideElems.Trod_stays hl (hr t (by simp)).1 (hr t (by simp)).2 h1 (fun x hx => hs x (by rw [e]; exact List.mem_append_left _ hx)) (fun x hx => hsp x (by rw [e]; exact List.mem_append_left _ hx)),
      trodAll_stays hl (fun u hu => hr u (by simp [hu])) h2 (fun x hx => hs x (by rw [e]; exact List.mem_append_right _ hx)) (fun x hx => hsp x (by rw [e]; exact List.mem_append_right _ hx)), e⟩

theorem post_law {f : Func} {s : ChangeSpec} {apart fresh handsOn again : Bool} {W W' : World} {args : Array Value} {ds : List (DataW H)} {before : List MemPlace} {T : TypeId}
    (hl : laidOutB P = true) (hT : P.underlying T = some .bool) (hrt : f.resultTypes = #[T]) (hvars : s.vars = [])
    (hread : ∀ t ∈ f.params.toList, P.readableRec t = true ∧ t < P.types.size)
    (hW : DataW.Whole enc P f.params.toList s.vars apart W args.toList ds [] before)
    (hres : (s.fn H (ds ++ [])).results = [.lit (.bool true)]) (harg : (s.fn H (ds ++ [])).args = ds) (hvar : (s.fn H (ds ++ [])).vars = [])
    (hb : Below W.heap.size W W') : s.post enc P f apart fresh handsOn again W args (.bool true) W' := by
  have hlt : ∀ p ∈ before, p.block < W.heap.size := fun p hp => hW.lt p hp
  have hW0 := hW
  obtain ⟨pa, pv, hA, hV, hps, hz, hn⟩ := hW
  rw [hvars] at hV
  have hpv : pv = [] := hV
  subst hpv
  rw [List.append_nil] at hps
  subst hps
  have hr : ∀ (b : Nat) (sp : Nat → Bool) (hd : Bool), DataW.TrodAll enc P W' b sp hd f.resultTypes.toList ((Value.bool true).resultList f.resultTypes.size) (s.fn H (ds ++ [])).results [] := by
    intro b sp hd
    rw [hres, hrt]
    exact trodAll_cons_mk (shut_bool hT _) trodAll_mk0
  have ha : ∀ sp : Nat → Bool, (∀ p ∈ before, sp p.block = true) → DataW.TrodAll enc P W' 0 sp true f.params.toList args.toList (s.fn H (ds ++ [])).args before := fun sp hsp => by
    rw [harg]
    exact trodAll_stays hl hread hA (fun x hx => hb.same (hlt x hx)) hsp
  have hv : ∀ sp : Nat → Bool, DataW.TrodVars enc P W' sp s.vars (s.fn H (ds ++ [])).vars [] := fun sp => by rw [hvar, hvars]; rfl
  refine ⟨ds, [], before, [], before, [], hW0, hr _ _ _, ha _ (fun p hp => by simpa using hlt p hp), hv _, World.keptBut_mono (fun p hp => ⟨hp, Or.inr (by simpa using hp)⟩) (hb.frame (· ∈ before)), fun _ => ?_⟩
  refine ⟨?_, _, _, ([] ++ before) ++ [], ⟨[] ++ before, [], trodAll_append (ha _ (fun _ _ => rfl)) (hr _ _ _), hv _, rfl, ?_, ?_⟩, ?_⟩
  · intro j t r ht hrr
    rw [hrt] at ht hrr
    match j with
    | 0 =>
      simp at ht
      subst ht
      have : r = .bool true := by simpa [Value.resultList] using hrr.symm
      subst this
      exact okWide_bool_mk hT _
    | j + 1 => simp at ht
  · intro b off hp
    have hin : MemPlace.cell b off ∈ before := by simpa using hp
    rw [hb.frozen (hlt _ hin)]
    exact hz b off (by simpa using hin)
  · intro hap
    simpa using hn hap
  · intro p hp _
    simpa using hp
end

section
variable {H : Type} {enc : TypeId × Value → H} {P : Program} {w : World} {base : Nat} {spare : Nat → Bool} {held : Bool}
theorem flatMap_at {α : Type} (f : α → List Value) (sz : Nat) (hf : ∀ r, (f r).length = sz) (hsz : 0 < sz) : ∀ (rs : List α) (j : Nat) (u : Value), (rs.flatMap f)[j]? = some u → ∃ r, rs[j / sz]? = some r ∧ (f r)[j % sz]? = some u
  | [], j, u, h => by simp at h
  | r :: rs, j, u, h => by
    rw [List.flatMap_cons] at h
    by_cases hj : j < sz
    · rw [List.getElem?_append_left (by rw [hf]; exact hj)] at h
      exact ⟨r, by rw [Nat.div_eq_of_lt hj]; rfl, by rw [Nat.mod_eq_of_lt hj]; exact h⟩
    · rw [List.getElem?_append_right (by rw [hf]; omega), hf] at h
      obtain ⟨q, h1, h2⟩ := flatMap_at f sz hf hsz rs (j - sz) u h
      have e1 : j / sz = (j - sz) / sz + 1 := by
        rw [Nat.div_eq_sub_div hsz (by omega)]
      have e2 : j % sz = (j - sz) % sz := (Nat.mod_eq_sub_mod (by omega))
      exact ⟨q, by rw [e1]; exact h1, by rw [e2]; exact h2⟩
theorem flatMap_len {α : Type} (f : α → List Value) (sz : Nat) (hf : ∀ r, (f r).length = sz) (rs : List α) : (rs.flatMap f).length = rs.length * sz := by
  induction rs with
  | nil => simp
  | cons r rs ih => rw [List.flatMap_cons, List.length_append, hf, ih, List.length_cons, Nat.succ_mul]; omega

/-- A slice that came in, element by element: it reads as a list. -/
theorem open_rd {α : Type} [Inhabited α] (f : α → List Value) (Q : α → Prop) (sz : Nat) (hf : ∀ r, (f r).length = sz) (hsz : 0 < sz) {t e : TypeId} {fuel : Nat} {cs : List Value} {x : DataW H × List MemPlace}
    (ht : P.underlying t = some (.slice e)) (hC : P.cellsOf e = sz)
    (hdec : ∀ (n : Nat) (cs' : List Value) (y : DataW H × List MemPlace), DataW.trod enc P w base spare held n e cs' = some y → ∃ r, cs' = f r ∧ Q r)
    (h : DataW.trod enc P w base spare held fuel t cs = some x) :
    ∃ (A : Option Addr) (n c : Nat) (rs : List α), cs = [.slice A n c] ∧ n ≤ maxLen ∧ n ≤ c ∧ rs.length = n ∧ Rd w sz A n (rs.flatMap f) ∧ ∀ r ∈ rs, Q r := by
  rcases Go.Deep.open_slice ht h with ⟨rfl, _⟩ | ⟨a, len, cap, m, n, D, Pl, rfl, hb, hl, hm, hmm, _, hx⟩
  · exact ⟨none, 0, 0, [], rfl, by unfold maxLen; omega, by omega, rfl, Rd.zero _, by simp⟩
  · have hlm : len ≤ m := by rw [hmm]; split <;> omega
    rw [hC] at hx
    obtain ⟨R, hR⟩ := Go.Deep.choose_lt (α := α) (p := fun i r => w.cells? base (a.add (i * sz)) sz = some (f r) ∧ Q r) (n := len) (fun i hi => by
      obtain ⟨cs', h1, h2⟩ := hx i (by omega)
      obtain ⟨r, rfl, hq⟩ := hdec _ _ _ h2
      exact ⟨r, h1, hq⟩)
    refine ⟨some a, len, cap, (List.range len).map R, rfl, by omega, hl, by simp, ⟨by rw [flatMap_len f sz hf]; simp, fun hn => ?_⟩, ?_⟩
    · obtain ⟨b, off, spot⟩ := a
      have hcell : ∀ i j u, i < len → (f (R i))[j]? = some u → w.cell? ((⟨b, off, spot⟩ : Addr).add (i * sz + j)) = some u := by
        intro i j u hi hu
        obtain ⟨_, _, hat⟩ := World.cells?_some (hR i hi).1
        have hj : j < sz := by rw [← hf (R i)]; exact (List.getElem?_eq_some_iff.1 hu).1
        rw [← Go.Deep.add_add, hat j hj, hu]
      have h00 : (f (R 0))[0]? = some ((f (R 0))[0]'(by rw [hf]; exact hsz)) := List.getElem?_eq_getElem (by rw [hf]; exact hsz)
      have hspot : spot = none := by simpa [Addr.add] using World.cell?_spot (hcell 0 0 _ hn h00)
      subst hspot
      have hlt := World.block_lt_of_cell? w _ (hcell 0 0 _ hn h00)
      refine ⟨b, off, rfl, by simpa [Addr.add] using hlt, fun j u hu => ?_⟩
      obtain ⟨r, h1, h2⟩ := flatMap_at f sz hf hsz _ j u hu
      have hji : j / sz < len := by
        have := (List.getElem?_eq_some_iff.1 h1).1
        simpa using this
      rw [List.getElem?_map, List.getElem?_range hji] at h1
      simp at h1
      subst h1
      have hc := hcell _ _ _ hji h2
      rw [Nat.mul_comm, Nat.div_add_mod] at hc
      rw [← hc, Go.WideShapes.add_plain]
    · intro r hr
      simp at hr
      obtain ⟨i, hi, rfl⟩ := hr
      exact (hR i hi).2

/-- A slice of pairs of numbers that came in. -/
theorem open_pairs {k : IntKind} {t e : TypeId} {f0 f1 : Field} {v : Value} {d : DataW H} {p : List MemPlace} {r : Reach} {b0 : Nat} (ht : P.underlying t = some (.slice e)) (he : P.underlying e = some (.struct #[f0, f1]))
    (hone : Go.Deep.oneCellFields P #[f0, f1] = true) (hC : P.cellsOf e = 2) (h0 : P.underlying f0.type = some (.int k)) (h1 : P.underlying f1.type = some (.int k))
    (hv : Value.okWide P w r b0 t v) (h : DataW.Trod enc P w base spare held t v d p) :
    ∃ (A : Option Addr) (n c : Nat) (rs : List (Int × Int)), v = .slice A n c ∧ n ≤ maxLen ∧ rs.length = n ∧ Rd w 2 A n (flat2 k rs) := by
  obtain ⟨a, len, cap, rfl⟩ := okWide_slice ht hv
  obtain ⟨fuel, hf⟩ := h
  obtain ⟨A, n, c, rs, hcs, hn, _, hl, hr, _⟩ := open_rd (α := Int × Int) (fun r => [Value.int k r.1, Value.int k r.2]) (fun _ => True) 2 (fun _ => rfl) (by omega) ht hC (fun m cs' y hy => by
    obtain ⟨xs, m', rfl, _, hlen, hxl, hg⟩ := DataW.trod_struct he hy
    have hxl : xs.length = 2 := hxl
    rw [hC] at hlen
    match cs', hlen with
    | [c0, c1], _ =>
      obtain ⟨o0, k0⟩ := Go.Deep.hone_of hone 0 f0 rfl
      obtain ⟨o1, k1⟩ := Go.Deep.hone_of hone 1 f1 rfl
      have g0 := hg 0 f0 rfl
      have g1 := hg 1 f1 rfl
      rw [o0, k0] at g0
      rw [o1, k1] at g1
      simp only [List.drop_zero, List.take_succ_cons, List.take_zero, List.drop_succ_cons] at g0 g1
      have q0 : ∃ y, DataW.trod enc P w base spare held m' f0.type [c0] = some y := by
        rw [g0]; exact ⟨_, List.getElem?_eq_getElem (by omega)⟩
      have q1 : ∃ y, DataW.trod enc P w base spare held m' f1.type [c1] = some y := by
        rw [g1]; exact ⟨_, List.getElem?_eq_getElem (by omega)⟩
      obtain ⟨y0, q0⟩ := q0
      obtain ⟨y1, q1⟩ := q1
      obtain ⟨n0, e0, _, _⟩ := DataW.trod_int h0 q0
      obtain ⟨n1, e1, _, _⟩ := DataW.trod_int h1 q1
      simp at e0 e1
      subst e0 e1
      exact ⟨(n0, n1), rfl, trivial⟩) hf
  have hcs' : [Value.slice a len cap] = [Value.slice A n c] := by simpa [Value.cells] using hcs
  injection hcs' with hcs' _
  exact ⟨A, n, c, rs, hcs', hn, hl, hr⟩
end
end Go.Proofs.YtihbdndigfnhkaaDoor
