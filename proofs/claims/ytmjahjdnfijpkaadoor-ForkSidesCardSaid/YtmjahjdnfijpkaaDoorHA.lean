/- Several texts in one. -/
import Derived.Test.YtmjahjdnfijpkaaDoorHJ
import Derived.Lib.MinMax
import Derived.Test.YtmjahjdnfijpkaaDoorWide
/- The iterator over the entries of two address spaces at once (fork.both), as a contract. -/
namespace Go.Proofs.YtmjahjdnfijpkaaDoor
open Go Go.Proofs Go.RowKit Go.Shelf
set_option linter.unusedSimpArgs false
set_option linter.unusedVariables false
attribute [local go_sem] Oper.semAt_some

/-- A page and its two entries as cells. -/
def pairA (p : Int) (e f : Int × Int × Bool × Bool × Bool) : Array Value := #[.int .i64 p, .int .i64 e.1, .int .i64 e.2.1, .bool e.2.2.1, .bool e.2.2.2.1, .bool e.2.2.2.2, .int .i64 f.1, .int .i64 f.2.1, .bool f.2.2.1, .bool f.2.2.2.1, .bool f.2.2.2.2]
def pairV (p : Int) (e f : Int × Int × Bool × Bool × Bool) : Value := .agg (pairA p e f)
def KeepF (Ba Bb : Nat) (A B : Option Addr) (X Y : World) : Prop := KeepE Ba A X Y ∧ KeepE Bb B X Y
theorem keepF_t {Ba Bb : Nat} {A B : Option Addr} {X Y Z : World} (h : KeepF Ba Bb A B X Y) (k : KeepF Ba Bb A B Y Z) : KeepF Ba Bb A B X Z := ⟨keepE_t h.1 k.1, keepE_t h.2 k.2⟩
theorem keepF_b {Ba Bb : Nat} {A B : Option Addr} {w : World} (h0 : 0 < w.heap.size) (h1 : Ba < w.heap.size) (h2 : ∀ b o p, A = some ⟨b, o, p⟩ → b < w.heap.size) (h3 : Bb < w.heap.size) (h4 : ∀ b o p, B = some ⟨b, o, p⟩ → b < w.heap.size) (W : World) (l : Nat) (o o' : Obj) (hl : w.heap.size ≤ l) (e1 : W.heap[l]? = some o) (e2 : o.isCells = false) (e3 : o.isWalk = false) : KeepF Ba Bb A B W (W.putObj l o') :=
  ⟨keepE_b h0 h1 h2 W l o o' hl e1 e2 e3, keepE_b h0 h3 h4 W l o o' hl e1 e2 e3⟩
theorem keepF_refl {Ba Bb : Nat} {A B : Option Addr} {W : World} : KeepF Ba Bb A B W W := ⟨⟨rfl, rfl, fun _ _ _ _ => rfl⟩, ⟨rfl, rfl, fun _ _ _ _ => rfl⟩⟩
theorem keepA_of {b o : Nat} {X Y : World} (h : Below X.heap.size X Y) (hb : b < X.heap.size) : KeepA (some ⟨b, o, none⟩) X Y := fun b' o' p e => by
  injection e with e
  injection e with e1 e2 e3
  rw [← e1]
  exact KeepB.of_below h hb
theorem keepF_of {Ba Bb bA oA bB oB : Nat} {X Y : World} (h : Below X.heap.size X Y) (hl : 0 < X.heap.size) (h1 : Ba < X.heap.size) (h2 : bA < X.heap.size) (h3 : Bb < X.heap.size) (h4 : bB < X.heap.size) : KeepF Ba Bb (some ⟨bA, oA, none⟩) (some ⟨bB, oB, none⟩) X Y :=
  ⟨⟨KeepB.of_below h hl, KeepB.of_below h h1, keepA_of h h2⟩, ⟨KeepB.of_below h hl, KeepB.of_below h h3, keepA_of h h4⟩⟩
theorem keepF_ne {Ba Bb bA oA bB oB P : Nat} {X Y : World} (h : ∀ b, b ≠ P → Y.heap[b]? = X.heap[b]?) (h0 : 0 ≠ P) (h1 : Ba ≠ P) (h2 : bA ≠ P) (h3 : Bb ≠ P) (h4 : bB ≠ P) : KeepF Ba Bb (some ⟨bA, oA, none⟩) (some ⟨bB, oB, none⟩) X Y :=
  ⟨⟨h _ h0, h _ h1, fun b o p e => by injection e with e; injection e with e1 e2 e3; rw [← e1]; exact h _ h2⟩, ⟨h _ h0, h _ h3, fun b o p e => by injection e with e; injection e with e1 e2 e3; rw [← e1]; exact h _ h4⟩⟩
theorem heap_put5 (W : World) (P o0 o1 o2 o3 o4 : Nat) (v0 v1 v2 v3 v4 : Value) (b : Nat) (hb : b ≠ P) : (((((W.setCell ⟨P, o0, none⟩ v0).setCell ⟨P, o1, none⟩ v1).setCell ⟨P, o2, none⟩ v2).setCell ⟨P, o3, none⟩ v3).setCell ⟨P, o4, none⟩ v4).heap[b]? = W.heap[b]? := by
  rw [Below.heap_setCell _ ⟨P, o4, none⟩ _ b hb, Below.heap_setCell _ ⟨P, o3, none⟩ _ b hb, Below.heap_setCell _ ⟨P, o2, none⟩ _ b hb, Below.heap_setCell _ ⟨P, o1, none⟩ _ b hb, Below.heap_setCell _ ⟨P, o0, none⟩ _ b hb]
theorem below_put5o {a W : World} {lo P : Nat} (h : Below lo a W) (hp : lo ≤ P) (o0 o1 o2 o3 o4 : Nat) (v0 v1 v2 v3 v4 : Value) : Below lo a (((((W.setCell ⟨P, o0, none⟩ v0).setCell ⟨P, o1, none⟩ v1).setCell ⟨P, o2, none⟩ v2).setCell ⟨P, o3, none⟩ v3).setCell ⟨P, o4, none⟩ v4) :=
  ((((h.setCell (p := ⟨P, o0, none⟩) hp v0).setCell (p := ⟨P, o1, none⟩) hp v1).setCell (p := ⟨P, o2, none⟩) hp v2).setCell (p := ⟨P, o3, none⟩) hp v3).setCell (p := ⟨P, o4, none⟩) hp v4
theorem keeps_put5 (W : World) (P o0 o1 o2 o3 o4 : Nat) (v0 v1 v2 v3 v4 : Value) : KeepsOthers W (((((W.setCell ⟨P, o0, none⟩ v0).setCell ⟨P, o1, none⟩ v1).setCell ⟨P, o2, none⟩ v2).setCell ⟨P, o3, none⟩ v3).setCell ⟨P, o4, none⟩ v4) :=
  ((((KeepsOthers.setCell _ _ _).trans (KeepsOthers.setCell _ _ _)).trans (KeepsOthers.setCell _ _ _)).trans (KeepsOthers.setCell _ _ _)).trans (KeepsOthers.setCell _ _ _)
theorem word_at {w : World} {A : Option Addr} {es : List Nat} (h : Rd w 1 A 64 (uw es)) (hes : es.length = 64) {k : Nat} (hk : k < 64) : ∃ b o, A = some ⟨b, o, none⟩ ∧ w.cell? ⟨b, o + k, none⟩ = some (.int .u64 ((es.getD k 0 : Nat) : Int)) := by
  obtain ⟨b, off, e, _, hc⟩ := h.2 (by omega)
  refine ⟨b, off, e, hc k _ ?_⟩
  have : k < es.length := by omega
  simp [uw, this]

set_option maxRecDepth 100000 in
set_option maxHeartbeats 4000000 in
theorem both1_in (F : Fence) (n : Nat) (h32 : F.fn 81) (hf : F.fn 82) (hU : ∀ x u, x < 18446744073709551616 → LayOK u → CallsIn F (n - 1) Tryd.prog 82 #[.int .u64 (x : Nat)] u fun e u' => EnRes u u' (unpR x) e) (hro : F.round = none) (hn : 1 ≤ n) (l Ba Bb : Nat) (A B : Option Addr) (ca cb : Nat) (es fs : List Nat) (hes : es.length = 64) (hfs : fs.length = 64)
    (hsm : ∀ p, p < 64 → es.getD p 0 < 18446744073709551616) (hok : ∀ p, p < 64 → (unpR (es.getD p 0)).2 = 0) (hsm2 : ∀ p, p < 64 → fs.getD p 0 < 18446744073709551616) (hok2 : ∀ p, p < 64 → (unpR (fs.getD p 0)).2 = 0) (J Jx : List Pg → World → Prop)
    (hY : ∀ pre x W, J pre W → pre.length < 64 → YieldAt F (n - 1) Tryd.prog l #[pairV x.1 (entP es x.1.toNat) (entP fs x.1.toNat)] W fun e W' =>
      (e = .returned (.bool true) ∧ J (pre ++ [x]) W' ∧ KeepF Ba Bb A B W W') ∨ (e = .returned (.bool false) ∧ Jx (pre ++ [x]) W'))
    (W : World) (hca : W.cell? ⟨Ba, 3, none⟩ = some (.slice A 64 ca)) (hcb : W.cell? ⟨Bb, 3, none⟩ = some (.slice B 64 cb)) (hL : LayOK W) (hRa : Rd W 1 A 64 (uw es)) (hRb : Rd W 1 B 64 (uw fs)) (hJ0 : J [] W)
    (hJb : ∀ pre X Y, J pre X → X.grownBy Y none → J pre Y) :
    CallsIn F n Tryd.prog 81 #[.func (.yield l) #[] #[], .pointer (some ⟨Ba, 0, none⟩), .pointer (some ⟨Bb, 0, none⟩)] W fun e W' => (∃ v, e = .returned v) ∧
      ((∃ ys, ys = pgs 0 64 ∧ J ys W') ∨ (∃ pre, pre = pgs 0 pre.length ∧ Jx pre W')) := by
  have hBa := World.block_lt_of_cell? _ _ hca
  have hBb := World.block_lt_of_cell? _ _ hcb
  refine callsIn_of_wp Tryd.func81 rfl h32 ?_ hro
  simp only [Tryd.ntmps81, List.size_toArray, List.length_cons, List.length_nil, Nat.reduceAdd, Nat.reduceSub, Array.replicate_succ, Array.replicate_zero, List.push_toArray, List.append_toArray, List.nil_append, List.cons_append]
  gi_wp2
  gi_loopw [15] (fun p wr => ∃ k : Nat, k ≤ 64 ∧ p = .int .i64 k ∧ J (pgs 0 k) wr ∧ KeepF Ba Bb A B W wr)
    (fun p _ => 64 - (intOf p).toNat)
  case atStart =>
    exact ⟨0, by omega, by simp, hJ0, keepF_refl⟩
  case round =>
    obtain ⟨k, hk, rfl, hJs, hK⟩ := hrel
    have hLr := hL.keep hK.1.1
    have hRar := hRa.keepA hK.1.2.2
    have hRbr := hRb.keepA hK.2.2.2
    have hcar : wr.cell? ⟨Ba, 3, none⟩ = some (.slice A 64 ca) := (hK.1.2.1.cell 3).trans hca
    have hcbr : wr.cell? ⟨Bb, 3, none⟩ = some (.slice B 64 cb) := (hK.2.2.1.cell 3).trans hcb
    by_cases hlt : k < 64
    · obtain ⟨bA, oA, hAe, hcellA⟩ := word_at hRar hes hlt
      obtain ⟨bB, oB, hBe, hcellB⟩ := word_at hRbr hfs hlt
      subst hAe hBe
      have hx := hsm k hlt
      have hk0 := hok k hlt
      have hy := hsm2 k hlt
      have hk1 := hok2 k hlt
      have hfe : entP es k = (unpR (es.getD k 0)).1 := rfl
      have hfe2 : entP fs k = (unpR (fs.getD k 0)).1 := rfl
      generalize es.getD k 0 = z at hx hk0 hfe hcellA
      generalize fs.getD k 0 = y at hy hk1 hfe2 hcellB
      have hA0 := World.block_lt_of_cell? _ _ hcellA
      have hB0 := World.block_lt_of_cell? _ _ hcellB
      have lBa : Ba < wr.heap.size := World.block_lt_of_cell? _ _ hcar
      have lBb : Bb < wr.heap.size := World.block_lt_of_cell? _ _ hcbr
      have hA0' : bA < wr.heap.size := hA0
      have hB0' : bB < wr.heap.size := hB0
      clear hA0 hB0
      gi_wp2_with fail
      rcases hue : unpR z with ⟨⟨k1, n1, a1, b1, c1⟩, er1⟩
      rw [hue] at hk0 hfe
      simp only at hk0 hfe
      subst hk0
      rcases huf : unpR y with ⟨⟨k2, n2, a2, b2, c2⟩, er2⟩
      rw [huf] at hk1 hfe2
      simp only at hk1 hfe2
      subst hk1
      have HUe := Lib.hid hue
      have HUf := Lib.hid huf
      clear hue huf
      refine (hU _ _ hx (hLr.alloc _)).mono ?_
      rintro e w1 ⟨rfl, hb1⟩
      rw [HUe.out]
      simp only
      have kP := (Bk.new wr #[.int .i64 k, .int .i64 0, .int .i64 0, .bool false, .bool false, .bool false, .int .i64 0, .int .i64 0, .bool false, .bool false, .bool false] 92).to hb1
      have hBw := bnext (balloc (Below.refl _ wr) _) hb1
      have sz1 := kP.lt
      obtain ⟨cP, fP, lP⟩ := kP.facts
      have cw1 : w1.cell? ⟨Bb, 3, none⟩ = some (.slice (some ⟨bB, oB, none⟩) 64 cb) := (hBw.cell (p := ⟨Bb, 3, none⟩) lBb).trans hcbr
      have cw2 : w1.cell? ⟨bB, oB + k, none⟩ = some (.int .u64 (y : Int)) := (hBw.cell (p := ⟨bB, oB + k, none⟩) hB0').trans hcellB
      have lBb1 : Bb ≠ wr.heap.size := by omega
      have lbB1 : bB ≠ wr.heap.size := by omega
      gi_wp2_with fail
      have kP2 := ((((kP.put 1 (.int .i64 k1)).put 2 (.int .i64 n1)).put 3 (.bool a1)).put 4 (.bool b1)).put 5 (.bool c1)
      have hBw2 := ((((hBw.setCell (p := ⟨wr.heap.size, 1, none⟩) (Nat.le_refl _) (.int .i64 k1)).setCell (p := ⟨wr.heap.size, 2, none⟩) (Nat.le_refl _) (.int .i64 n1)).setCell (p := ⟨wr.heap.size, 3, none⟩) (Nat.le_refl _) (.bool a1)).setCell (p := ⟨wr.heap.size, 4, none⟩) (Nat.le_refl _) (.bool b1)).setCell (p := ⟨wr.heap.size, 5, none⟩) (Nat.le_refl _) (.bool c1)
      simp only [List.setIfInBounds_toArray, List.set_cons_succ, List.set_cons_zero] at kP2
      generalize ((((w1.setCell ⟨wr.heap.size, 1, none⟩ (.int .i64 k1)).setCell ⟨wr.heap.size, 2, none⟩ (.int .i64 n1)).setCell ⟨wr.heap.size, 3, none⟩ (.bool a1)).setCell ⟨wr.heap.size, 4, none⟩ (.bool b1)).setCell ⟨wr.heap.size, 5, none⟩ (.bool c1) = w2 at *
      clear cP fP lP kP
      refine (hU _ _ hy (hLr.below hBw2)).mono ?_
      rintro e w3 ⟨rfl, hb3⟩
      rw [HUf.out]
      simp only
      have kP3 := kP2.to hb3
      have hBw3 := bnext hBw2 hb3
      obtain ⟨cP, fP, lP⟩ := kP3.facts
      have kP4 := ((((kP3.put 6 (.int .i64 k2)).put 7 (.int .i64 n2)).put 8 (.bool a2)).put 9 (.bool b2)).put 10 (.bool c2)
      have hBw4 := ((((hBw3.setCell (p := ⟨wr.heap.size, 6, none⟩) (Nat.le_refl _) (.int .i64 k2)).setCell (p := ⟨wr.heap.size, 7, none⟩) (Nat.le_refl _) (.int .i64 n2)).setCell (p := ⟨wr.heap.size, 8, none⟩) (Nat.le_refl _) (.bool a2)).setCell (p := ⟨wr.heap.size, 9, none⟩) (Nat.le_refl _) (.bool b2)).setCell (p := ⟨wr.heap.size, 10, none⟩) (Nat.le_refl _) (.bool c2)
      simp only [List.setIfInBounds_toArray, List.set_cons_succ, List.set_cons_zero] at kP4
      obtain ⟨w4, hw4⟩ : ∃ w4, w4 = (((((w3.setCell ⟨wr.heap.size, 6, none⟩ (.int .i64 k2)).setCell ⟨wr.heap.size, 7, none⟩ (.int .i64 n2)).setCell ⟨wr.heap.size, 8, none⟩ (.bool a2)).setCell ⟨wr.heap.size, 9, none⟩ (.bool b2)).setCell ⟨wr.heap.size, 10, none⟩ (.bool c2)) := ⟨_, rfl⟩
      rw [← hw4] at kP4 hBw4
      have hJ4 := hJb _ _ _ hJs (grown_below hBw4)
      have hKb := keepF_of (oA := oA) (oB := oB) hBw4 hLr.lt lBa hA0' lBb hB0'
      obtain ⟨fn, tmps, assign, body, hyl, hR0⟩ := hY (pgs 0 k) (pg k) _ hJ4 (by rw [pgs_len]; omega)
      rw [pg_val _ (by omega) (by omega), Int.toNat_natCast, hfe, hfe2] at hyl
      unfold pairV pairA at hyl
      simp only at hyl
      rw [hw4] at hyl hR0
      gi_wp2
      refine hR0.mono ?_
      rintro e W3 (⟨rfl, hJ3, hk3⟩ | ⟨rfl, hJx3⟩)
      · gi_wp2
        go_roundw
        case rel => exact ⟨k + 1, by omega, by go_num, by rw [pgs_succ, Int.zero_add]; exact hJ3, keepF_t hK (keepF_t hKb (by rw [hw4]; exact hk3))⟩
        case measure => simp [intOf]; omega
      · gi_wp2
        refine bodyPost_ret (results_none rfl _ _ _) rfl ?_
        exact ⟨⟨_, rfl⟩, .inr ⟨_, by rw [List.length_append, pgs_len, List.length_singleton, pgs_succ, Int.zero_add], hJx3⟩⟩
    · obtain rfl : k = 64 := by omega
      gi_wp2
      go_end0
      exact ⟨⟨_, rfl⟩, .inl ⟨_, rfl, hJs⟩⟩
theorem both_in (F : Fence) (n : Nat) (h : F.fn 61) (hro : F.round = none) (w : World) (x0 x1 x2 x3 y0 y1 y2 y3 : Value) :
    CallsIn F n Tryd.prog 61 #[.agg #[x0, x1, x2, x3], .agg #[y0, y1, y2, y3]] w fun e w' => e = .returned (.func (.func 81) #[] #[.pointer (some ⟨w.heap.size, 0, none⟩), .pointer (some ⟨w.heap.size + 1, 0, none⟩)]) ∧ w' = (w.alloc (.cells #[x0, x1, x2, x3] 28)).alloc (.cells #[y0, y1, y2, y3] 28) := by
  refine callsIn_of_wp Tryd.func61 rfl h ?_ hro
  simp only [Tryd.ntmps61, List.size_toArray, List.length_cons, List.length_nil, Nat.reduceAdd, Nat.reduceSub, Array.replicate_succ, Array.replicate_zero, List.push_toArray, List.append_toArray, List.nil_append, List.cons_append]
  gi_wp2
  go_ret
  exact ⟨rfl, rfl⟩
theorem getD_small28 {es : List Nat} (hs : wsmall es) (h64 : es.length = 64) (p : Nat) (hp : p < 64) : es.getD p 0 < 18446744073709551616 := by
  rw [List.getD_eq_getElem?_getD, List.getElem?_eq_getElem (show p < es.length by omega)]
  exact hs _ (List.getElem_mem _)
theorem both_stops (Ba Bb : Nat) (A B : Option Addr) (ca cb : Nat) (r r2 : Int) (ls ls2 : List Int) (es fs : List Nat) (hT : tabE r ls es = 0) (hs : wsmall es) (hT2 : tabE r2 ls2 fs = 0) (hs2 : wsmall fs) (w : World) (hL : LayOK w) (hRa : Rd w 1 A 64 (uw es)) (hRb : Rd w 1 B 64 (uw fs)) (hca : w.cell? ⟨Ba, 3, none⟩ = some (.slice A 64 ca)) (hcb : w.cell? ⟨Bb, 3, none⟩ = some (.slice B 64 cb)) :
    SeqStopsK Fence.wide 3 Tryd.prog 81 #[.pointer (some ⟨Ba, 0, none⟩), .pointer (some ⟨Bb, 0, none⟩)] (fun x : Pg => #[pairV x.1 (entP es x.1.toNat) (entP fs x.1.toNat)]) (KeepF Ba Bb A B) (fun ys => ys = pgs 0 64) (fun pre => pre = pgs 0 pre.length) 64 w := fun l J Jx W hW hJ hJx hY hJ0 => by
  obtain ⟨_, h64, _⟩ := tab_zero hT
  obtain ⟨_, h642, _⟩ := tab_zero hT2
  exact both1_in Fence.wide 3 trivial trivial (fun x u hx hu => callsIn_wide.2 (Unpack_any x u hx hu)) rfl (by omega) l Ba Bb A B ca cb es fs h64 h642 (fun p hp => getD_small28 hs h64 p hp) (fun p hp => unp_in hT p hp) (fun p hp => getD_small28 hs2 h642 p hp) (fun p hp => unp_in hT2 p hp) J Jx hY W ((hW.cell (World.block_lt_of_cell? _ _ hca)).trans hca) ((hW.cell (World.block_lt_of_cell? _ _ hcb)).trans hcb) (hL.below hW) (hRa.below hW (Nat.le_refl _)) (hRb.below hW (Nat.le_refl _)) hJ0 (fun pre X Y hX hg => hJ pre X Y none hX hg (fun r e => by cases e))
end Go.Proofs.YtmjahjdnfijpkaaDoor
/- Sixty-four entries as one value: plain facts. -/
namespace Go.Proofs.YtmjahjdnfijpkaaDoor
open Go Go.Proofs Go.RowKit
set_option linter.unusedSimpArgs false
set_option linter.unusedVariables false
set_option maxRecDepth 100000

abbrev En : Type := Int × Int × Bool × Bool × Bool
def enZ : En := (0, 0, false, false, false)
def enC (e : En) : List Value := [.int .i64 e.1, .int .i64 e.2.1, .bool e.2.2.1, .bool e.2.2.2.1, .bool e.2.2.2.2]
def enW (l : List En) : List Value := l.flatMap enC
theorem enW_len (l : List En) : (enW l).length = l.length * 5 := by
  induction l with
  | nil => rfl
  | cons e l ih => simp [enW, enC] at ih ⊢; omega
theorem enW_at (l : List En) (k j : Nat) (e : En) (h : l[k]? = some e) (hj : j < 5) : (enW l)[k * 5 + j]? = (enC e)[j]? := by
  induction l generalizing k with
  | nil => simp at h
  | cons x l ih =>
    have e1 : enW (x :: l) = enC x ++ enW l := by simp [enW]
    have hl : (enC x).length = 5 := rfl
    rw [e1]
    cases k with
    | zero =>
      simp at h
      subst h
      rw [Nat.zero_mul, Nat.zero_add, List.getElem?_append_left (by omega)]
    | succ k =>
      rw [List.getElem?_append_right (by omega), hl, show (k + 1) * 5 + j - 5 = k * 5 + j by omega]
      exact ih k (by simpa using h)
theorem enW_drop (l : List En) (k : Nat) : (enW l).drop (k * 5) = enW (l.drop k) := by
  induction k generalizing l with
  | zero => simp
  | succ k ih =>
    cases l with
    | nil => simp [enW]
    | cons x l =>
      have e1 : enW (x :: l) = enC x ++ enW l := by simp [enW]
      have hl : (enC x).length = 5 := rfl
      rw [e1, List.drop_succ_cons, ← ih l, show (k + 1) * 5 = 5 + k * 5 by omega, ← List.drop_drop]
      congr 1
theorem enW_extract (l : List En) (k : Nat) (e : En) (h : l[k]? = some e) : (enW l).toArray.extract (k * 5) (k * 5 + 5) = (enC e).toArray := by
  rw [List.extract_toArray]
  congr 1
  have hk : k < l.length := (List.getElem?_eq_some_iff.1 h).1
  have e0 : l.drop k = e :: l.drop (k + 1) := by
    rw [List.drop_eq_getElem_cons hk]
    congr 1
    exact (List.getElem?_eq_some_iff.1 h).2
  rw [List.extract_eq_take_drop, show k * 5 + 5 - k * 5 = 5 by omega, enW_drop, e0]
  rfl
/-- Five cells of such a row, written one after the other. -/
def put5A (cs : Array Value) (o : Nat) (e : En) : Array Value := ((((cs.setIfInBounds o (.int .i64 e.1)).setIfInBounds (o + 1) (.int .i64 e.2.1)).setIfInBounds (o + 2) (.bool e.2.2.1)).setIfInBounds (o + 3) (.bool e.2.2.2.1)).setIfInBounds (o + 4) (.bool e.2.2.2.2)
theorem put5_en (l : List En) (k : Nat) (e : En) (hk : k < l.length) : put5A (enW l).toArray (k * 5) e = (enW (l.set k e)).toArray := by
  unfold put5A
  simp only [List.setIfInBounds_toArray]
  congr 1
  induction l generalizing k with
  | nil => simp at hk
  | cons x l ih =>
    have e1 : enW (x :: l) = enC x ++ enW l := by simp [enW]
    have e2 : ∀ y, enW (y :: l) = enC y ++ enW l := fun y => by simp [enW]
    cases k with
    | zero =>
      rw [List.set_cons_zero, e1, e2]
      rfl
    | succ k =>
      have hl : (enC x).length = 5 := rfl
      rw [List.set_cons_succ, e1, show enW (x :: l.set k e) = enC x ++ enW (l.set k e) by simp [enW], ← ih k (by simpa using hk)]
      have hs : ∀ (a : List Value) (j : Nat) (v : Value), (enC x ++ a).set ((k + 1) * 5 + j) v = enC x ++ a.set (k * 5 + j) v := fun a j v => by
        rw [List.set_append_right _ _ (by omega), hl, show (k + 1) * 5 + j - 5 = k * 5 + j by omega]
      have h0 := hs (enW l) 0 (.int .i64 e.1)
      simp only [Nat.add_zero] at h0
      rw [h0, hs, hs, hs, hs]
/-- The entries of the pages, laid over zeros in the order of the pages. -/
def entF (es : List Nat) (pre : List Pg) : List En := pre.foldl (fun l x => l.set x.1.toNat (entP es x.1.toNat)) (List.replicate 64 enZ)
theorem entF_len (es : List Nat) (pre : List Pg) : (entF es pre).length = 64 := by
  have : ∀ (pre : List Pg) (l : List En), (pre.foldl (fun l x => l.set x.1.toNat (entP es x.1.toNat)) l).length = l.length := by
    intro pre
    induction pre with
    | nil => intro l; rfl
    | cons x pre ih => intro l; rw [List.foldl_cons, ih, List.length_set]
  unfold entF
  rw [this, List.length_replicate]
theorem entF_snoc (es : List Nat) (pre : List Pg) (x : Pg) : entF es (pre ++ [x]) = (entF es pre).set x.1.toNat (entP es x.1.toNat) := by simp [entF]
/-- All entries. -/
def entL (es : List Nat) : List En := (List.range 64).map (entP es)
theorem entL_len (es : List Nat) : (entL es).length = 64 := by simp [entL]
theorem entL_at (es : List Nat) {k : Nat} (hk : k < 64) : (entL es)[k]? = some (entP es k) := by simp [entL, hk]
theorem entF_all (es : List Nat) : ∀ n : Nat, n ≤ 64 → entF es (pgs 0 n) = (List.range 64).map fun p => if p < n then entP es p else enZ
  | 0, _ => by
    unfold entF
    simp [pgs]
    decide
  | n + 1, hn => by
    rw [pgs_succ, entF_snoc, entF_all es n (by omega), pg_val _ (by omega) (by omega), Int.zero_add, Int.toNat_natCast]
    apply List.ext_getElem?
    intro i
    rw [List.getElem?_set]
    by_cases hi : i < 64
    · by_cases h : n = i
      · subst h
        simp [hi]
      · rw [if_neg h]
        have h1 : (i < n) = (i < n + 1) := propext ⟨fun _ => by omega, fun _ => by omega⟩
        simp [hi, h1]
    · by_cases h : n = i
      · omega
      · simp [hi, h]
theorem entF_entL (es : List Nat) : entF es (pgs 0 64) = entL es := by
  rw [entF_all es 64 (by omega)]
  unfold entL
  apply List.map_congr_left
  intro p hp
  rw [if_pos (List.mem_range.1 hp)]
theorem en_320 (l : List En) (h : l.length = 64) : (enW l).toArray.size = 320 := by simp [enW_len, h]
theorem en_one (l : List En) : (enW l).toArray.all (·.oneCell') = true := by
  refine all_oneCell_toArray fun v hv => ?_
  simp only [enW, List.mem_flatMap] at hv
  obtain ⟨e, _, hv⟩ := hv
  simp only [enC, List.mem_cons, List.not_mem_nil, or_false] at hv
  rcases hv with rfl | rfl | rfl | rfl | rfl <;> rfl
theorem en_zero : Tryd.zeroCells86 = (enW (List.replicate 64 enZ)).toArray := by kernel_rfl
theorem en_store {w : World} {b : Nat} {old cs : Array Value} (h : Bk w b old 86) (ho : old.size = 320) (hc : cs.size = 320) (h1 : cs.all (·.oneCell') = true) :
    (storeCells ⟨b, 0, none⟩ cs.toList 0).run Tryd.prog w = .ok () (w.setRow b cs) := h.storeC (P := Tryd.prog) 86 cs (by rw [hc]; kernel_rfl) (by rw [ho, hc]) h1
theorem run_index64 (w : World) (es : List Nat) (k : Nat) (hk : k < 64) :
    (Instr.index 86 (.agg (enW (entL es)).toArray) (.int .i64 k)).run Tryd.prog w = .ok (.agg (enC (entP es k)).toArray) w := by
  have hu : Tryd.prog.underlying 86 = some (.array 64 52) := by kernel_rfl
  have hi : (Tryd.prog.info? 52).map (·.size) = some 5 := by kernel_rfl
  obtain ⟨i, hi, hsz⟩ := Option.map_eq_some_iff.1 hi
  have hu3 : (Tryd.prog.underlying 52).map (·.isRow) = some true := by kernel_rfl
  obtain ⟨d3, hu3, hd3⟩ := Option.map_eq_some_iff.1 hu3
  have ha : (isAgg 52).run Tryd.prog w = .ok true w := by
    unfold isAgg
    rw [Sem.run_bind, run_underlying hu3 w]
    cases d3 <;> simp_all [TypeDesc.isRow]
  have hlt : (k : Int) < 64 := by omega
  have hx := enW_extract (entL es) k _ (entL_at es hk)
  simp only [List.extract_toArray, List.extract_eq_take_drop, show k * 5 + 5 - k * 5 = 5 by omega] at hx
  simp [Instr.index, asIntOf, run_underlying hu, sizeOf, typeInfo, hi, hsz, hlt, part, ha, hx, hk]
theorem wpList_load_en {ops : Array Oper} {rest : List Oper} {op : Oper} {a : Act} {w : World} {Q : Exit → Act → World → Prop} {l : List En} {b : Nat} (h1 : l.length = 64) (kA : Bk w b (enW l).toArray 86)
    (hgd : op.guard = none) (x : Operand) (ho : op.op = .load 86 x) (hx : a.eval x = .pointer (some ⟨b, 0, none⟩))
    (h : wpList Tryd.prog ops Q rest (a.put op.dst (.agg (enW l).toArray)) w) : wpList Tryd.prog ops Q (op :: rest) a w := by
  have hu : (Tryd.prog.underlying 86).map (·.isRow) = some true := by kernel_rfl
  obtain ⟨d, hu, hd⟩ := Option.map_eq_some_iff.1 hu
  have hr := kA.range
  simp only at hr
  exact wpList_load_mid hgd 86 x ho b 0 hx (enW l) d hr hu hd (by rw [enW_len, h1]; kernel_rfl) h
end Go.Proofs.YtmjahjdnfijpkaaDoor
