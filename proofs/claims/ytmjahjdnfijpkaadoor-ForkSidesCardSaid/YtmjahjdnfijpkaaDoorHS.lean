/- Several texts in one. -/
import Derived.Test.YtmjahjdnfijpkaaDoorDrx
import Derived.Test.YtmjahjdnfijpkaaDoorHN
import Derived.Test.YtmjahjdnfijpkaaDoorHE
import Derived.Test.YtmjahjdnfijpkaaDoorHF
import Derived.Test.YtmjahjdnfijpkaaDoorSame0
import Derived.Test.YtmjahjdnfijpkaaDoorTab1
/- Drawn regions by hand: a goal that many ways share; address spaces beside a box that is written. -/
namespace Go.Proofs.YtmjahjdnfijpkaaDoor
open Go Go.Proofs Go.RowKit
set_option linter.unusedSimpArgs false
set_option linter.unusedVariables false

/-- A goal behind some operations is proved once, for every way that leads there. -/
theorem shareD {X : Type} {P : Program} {md : Region.Mode} {ops : Array Oper} {Q : Exit → Act → World → Prop} {S : World → Prop} {fuel : Nat} {listed : Array Bool} {a : Act} {w : World} (I : X → World → Prop) (f2 : Nat) (l2 : Array Bool) (put : Act → X → Act)
    (main : (∀ x W, I x W → wpAnyH P md ops Q S f2 l2 (put a x) W) → wpAnyH P md ops Q S fuel listed a w)
    (leaf : ∀ x W, I x W → wpAnyH P md ops Q S f2 l2 (put a x) W) : wpAnyH P md ops Q S fuel listed a w := main leaf
/-- The slices of an address space lie in no block g. -/
def SNo (g : Nat) (v : Value) : Prop := ∀ A n c r L l cl B m d, v = spcV A n c r L l cl B m d → (∀ b off, 0 < n → A = some ⟨b, off, none⟩ → b ≠ g) ∧ (∀ b off, 0 < l → L = some ⟨b, off, none⟩ → b ≠ g) ∧ (∀ b off, 0 < m → B = some ⟨b, off, none⟩ → b ≠ g)
theorem SNo.loc {lo g : Nat} {v : Value} (h : SLoc lo v) (hg : g < lo) : SNo g v := fun A n c r L l cl B m d e => by
  obtain ⟨h1, h2, h3⟩ := h A n c r L l cl B m d e
  exact ⟨fun b off h0 e => by have := h1 b off h0 e; omega, fun b off h0 e => by have := h2 b off h0 e; omega, fun b off h0 e => by have := h3 b off h0 e; omega⟩
theorem rd_ltD {w : World} {sz n : Nat} {A : Option Addr} {xs : List Value} (h : Rd w sz A n xs) : ∀ b off, 0 < n → A = some ⟨b, off, none⟩ → b < w.heap.size := fun b off h0 e => by
  obtain ⟨b', off', e', hb, _⟩ := h.2 h0
  rw [e] at e'
  injection e' with e'
  injection e' with e'
  omega
theorem SNo.new {w : World} {v : Value} {s : Sp} {g : Nat} (h : SpV w v s) (hg : w.heap.size ≤ g) : SNo g v := fun A n c r L l cl B m d e => by
  obtain ⟨A', c', L', cl', B', d', e', h1, h2, h3, _⟩ := h
  rw [e] at e'
  simp only [spcV, Value.agg.injEq, Array.mk.injEq, List.cons.injEq, Value.slice.injEq] at e'
  obtain ⟨⟨rfl, rfl, _⟩, _, ⟨rfl, rfl, _⟩, ⟨rfl, rfl, _⟩, _⟩ := e'
  exact ⟨fun b off h0 e => by have := rd_ltD h1 b off h0 e; omega, fun b off h0 e => by have := rd_ltD h2 b off h0 e; omega, fun b off h0 e => by have := rd_ltD h3 b off h0 e; omega⟩
theorem SpV.rowfar {w : World} {v : Value} {s : Sp} {g : Nat} (h : SpV w v s) (hg : SNo g v) (c' : Array Value) : SpV (w.setRow g c') v s := by
  obtain ⟨A, c, L, cl, B, d, e, h1, h2, h3, h4⟩ := h
  obtain ⟨k1, k2, k3⟩ := hg _ _ _ _ _ _ _ _ _ _ e
  exact ⟨A, c, L, cl, B, d, e, h1.rowfar k1 c', h2.rowfar k2 c', h3.rowfar k3 c', h4⟩
theorem SpV.far {w : World} {v : Value} {s : Sp} {p : Addr} (h : SpV w v s) (hg : SNo p.block v) (u : Value) : SpV (w.setCell p u) v s := by
  obtain ⟨A, c, L, cl, B, d, e, h1, h2, h3, h4⟩ := h
  obtain ⟨k1, k2, k3⟩ := hg _ _ _ _ _ _ _ _ _ _ e
  exact ⟨A, c, L, cl, B, d, e, h1.far k1 u, h2.far k2 u, h3.far k3 u, h4⟩
theorem SpV.cells {w : World} {v : Value} {s : Sp} (h : SpV w v s) : ∃ A c L cl B d, v = .agg #[.slice A s.1.length c, .int .i64 s.2.1, .slice L s.2.2.1.length cl, .slice B s.2.2.2.length d] := by
  obtain ⟨A, c, L, cl, B, d, e, _⟩ := h
  exact ⟨A, c, L, cl, B, d, e⟩
end Go.Proofs.YtmjahjdnfijpkaaDoor
/- Lists of one and two address spaces; the counts after a fork. -/
namespace Go.Proofs.YtmjahjdnfijpkaaDoor
open Go Go.Proofs Go.RowKit
set_option linter.unusedSimpArgs false
set_option linter.unusedVariables false

theorem sps_one {w : World} {g : Nat} {t : TypeId} {a : Sp} {A1 L1 B1 : Option Addr} {c1 cl1 d1 : Nat} (h : Bk w g #[.slice A1 a.1.length c1, .int .i64 a.2.1, .slice L1 a.2.2.1.length cl1, .slice B1 a.2.2.2.length d1] t)
    (ha : SpV w (.agg #[.slice A1 a.1.length c1, .int .i64 a.2.1, .slice L1 a.2.2.1.length cl1, .slice B1 a.2.2.2.length d1]) a) : SpsV w (some ⟨g, 0, none⟩) [a] := by
  refine ⟨[.slice A1 a.1.length c1, .int .i64 a.2.1, .slice L1 a.2.2.1.length cl1, .slice B1 a.2.2.2.length d1], ⟨rfl, fun _ => ⟨g, 0, rfl, h.lt, fun j u hu => by rw [Nat.zero_add, h.cell j, List.getElem?_toArray]; exact hu⟩⟩, fun k hk => ?_⟩
  rcases k with _ | k
  · obtain ⟨_, _, _, _, _, _, e', q1, q2, q3, q4⟩ := ha
    simp only [spcV, Value.agg.injEq, Array.mk.injEq, List.cons.injEq, Value.slice.injEq] at e'
    obtain ⟨⟨rfl, _, rfl⟩, _, ⟨rfl, _, rfl⟩, ⟨rfl, _, rfl⟩, _⟩ := e'
    exact ⟨_, _, _, _, _, _, rfl, rfl, rfl, rfl, q1, q2, q3, q4⟩
  · simp at hk
theorem sps_twoA {w : World} {g : Nat} {t : TypeId} {a b : Sp} {A1 L1 B1 A2 L2 B2 : Option Addr} {c1 cl1 d1 c2 cl2 d2 : Nat} (h : Bk w g #[.slice A1 a.1.length c1, .int .i64 a.2.1, .slice L1 a.2.2.1.length cl1, .slice B1 a.2.2.2.length d1, .slice A2 b.1.length c2, .int .i64 b.2.1, .slice L2 b.2.2.1.length cl2, .slice B2 b.2.2.2.length d2] t)
    (ha : SpV w (.agg #[.slice A1 a.1.length c1, .int .i64 a.2.1, .slice L1 a.2.2.1.length cl1, .slice B1 a.2.2.2.length d1]) a) (hb : SpV w (.agg #[.slice A2 b.1.length c2, .int .i64 b.2.1, .slice L2 b.2.2.1.length cl2, .slice B2 b.2.2.2.length d2]) b) : SpsV w (some ⟨g, 0, none⟩) [a, b] := by
  refine ⟨[.slice A1 a.1.length c1, .int .i64 a.2.1, .slice L1 a.2.2.1.length cl1, .slice B1 a.2.2.2.length d1, .slice A2 b.1.length c2, .int .i64 b.2.1, .slice L2 b.2.2.1.length cl2, .slice B2 b.2.2.2.length d2], ⟨rfl, fun _ => ⟨g, 0, rfl, h.lt, fun j u hu => by rw [Nat.zero_add, h.cell j, List.getElem?_toArray]; exact hu⟩⟩, fun k hk => ?_⟩
  rcases k with _ | _ | k
  · obtain ⟨_, _, _, _, _, _, e', q1, q2, q3, q4⟩ := ha
    simp only [spcV, Value.agg.injEq, Array.mk.injEq, List.cons.injEq, Value.slice.injEq] at e'
    obtain ⟨⟨rfl, _, rfl⟩, _, ⟨rfl, _, rfl⟩, ⟨rfl, _, rfl⟩, _⟩ := e'
    exact ⟨_, _, _, _, _, _, rfl, rfl, rfl, rfl, q1, q2, q3, q4⟩
  · obtain ⟨_, _, _, _, _, _, e', q1, q2, q3, q4⟩ := hb
    simp only [spcV, Value.agg.injEq, Array.mk.injEq, List.cons.injEq, Value.slice.injEq] at e'
    obtain ⟨⟨rfl, _, rfl⟩, _, ⟨rfl, _, rfl⟩, ⟨rfl, _, rfl⟩, _⟩ := e'
    exact ⟨_, _, _, _, _, _, rfl, rfl, rfl, rfl, q1, q2, q3, q4⟩
  · simp at hk
    omega
/-- The counts of one space. -/
theorem couR_one {s : Sp} (h : spcE s = 0) : couR [s] = (couL [s] 1, 0) := by
  unfold couR
  rw [if_neg (by rw [couE_one h]; decide)]
  rfl
theorem couR_two {a b : Sp} (h : spcE a = 0) (h2 : spcE b = 0) : couR [a, b] = (couL [a, b] 2, 0) := by
  unfold couR
  rw [if_neg (by rw [couE_two h h2]; decide)]
  rfl
/-- The counts after a fork. -/
theorem adds_plain {s a b : Sp} (h : spcE s = 0) (ha : Alike s a) (hb : Alike s b) : (numL s.2.2.2 1 64).foldl bump (couL [s] 1) = couL [a, b] 2 := by
  rw [cou_one, cou_two, ← numL_alike ha 1, ← numL_alike hb 1]
theorem take_bumpS {l cs : List Int} {k : Nat} (hk : k < l.length) : (l.take (k + 1)).foldl bump cs = bump ((l.take k).foldl bump cs) (l.getD k 0) := by
  rw [List.take_add_one, List.getElem?_eq_getElem hk, List.foldl_append, List.getD_eq_getElem?_getD, List.getElem?_eq_getElem hk]
  rfl
end Go.Proofs.YtmjahjdnfijpkaaDoor
/- Whether a number is in a list (the kit's Has). -/
namespace Go.Proofs.YtmjahjdnfijpkaaDoor
open Go Go.Proofs Go.RowKit
set_option linter.unusedSimpArgs false
set_option linter.unusedVariables false
set_option maxRecDepth 100000

set_option maxHeartbeats 1000000 in
theorem kHas_any (zs : List Int) (v : Value) (p : Int) (w : World) (hv : IsV w v zs) (hn : zs.length ≤ 1000) :
    Calls Tryd.prog 31 #[v, .int .i64 p] w fun e w' => e = .returned (.bool (decide (p ∈ zs))) ∧ w = w' := by
  obtain ⟨A, c, rfl, hr⟩ := hv
  obtain ⟨N, hN⟩ : ∃ N, N = zs.length := ⟨_, rfl⟩
  rw [← hN] at hr hn ⊢
  have HN := Lib.hid hN
  clear hN
  go_enter Tryd.func31, Tryd.ntmps31
  go_wp2_with fail
  go_loopw [5] (fun i wr => ∃ k : Nat, k ≤ N ∧ i = .int .i64 k ∧ Hid (∀ j, j < k → zs.getD j 0 ≠ p) ∧ wr = w) (fun i _ => N - (intOf i).toNat)
  case atStart => exact ⟨0, by omega, rfl, Lib.hid (fun j h => absurd h (by omega)), rfl⟩
  case round =>
    obtain ⟨k, hk, rfl, Hno, rfl⟩ := hrel
    by_cases hlt : k < N
    · obtain ⟨g, off, z, rfl, hg, hz, hc⟩ := hr.numb hlt
      by_cases hzp : z = p
      · have hyes : p ∈ zs := by
          rw [← hzp, ← hz, List.getD_eq_getElem?_getD, List.getElem?_eq_getElem (by rw [← HN.out]; exact hlt)]
          exact List.getElem_mem _
        have HY := Lib.hid (decide_eq_true hyes)
        have d1 : (z == p) = true := by simpa using hzp
        clear hyes hzp hz
        go_wp2_with fail
        go_ret
        exact ⟨by rw [HY.out]; rfl, rfl⟩
      · have d1 : (z == p) = false := by simpa using hzp
        have H2 := Lib.hid (show ∀ j, j < k + 1 → zs.getD j 0 ≠ p from fun j hj => by
          rcases Nat.lt_or_ge j k with h | h
          · exact Hno.out j h
          · have : j = k := by omega
            subst this
            rw [hz]; exact hzp)
        clear hzp hz
        go_wp2_with fail
        go_roundw
        case rel => first | exact ⟨k + 1, by omega, by go_num, H2, rfl⟩ | exact ⟨k + 1, by omega, by go_num, H2, trivial⟩
        case measure => simp [intOf]; omega
    · have hno : ¬ p ∈ zs := by
        intro hp
        obtain ⟨j, hj, he⟩ := List.getElem_of_mem hp
        have := HN.out
        refine Hno.out j (by omega) ?_
        rw [List.getD_eq_getElem?_getD, List.getElem?_eq_getElem hj]
        exact he
      have HY := Lib.hid (decide_eq_false hno)
      obtain rfl : k = N := by omega
      clear hno
      go_wp2_with fail
      go_ret
      exact ⟨by rw [HY.out]; rfl, rfl⟩
end Go.Proofs.YtmjahjdnfijpkaaDoor
