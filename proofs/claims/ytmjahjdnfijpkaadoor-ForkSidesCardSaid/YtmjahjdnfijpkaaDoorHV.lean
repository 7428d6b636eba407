/- Several texts in one. -/
import Derived.Test.YtmjahjdnfijpkaaDoorHS
import Derived.Test.YtmjahjdnfijpkaaDoorFkA
import Derived.Test.YtmjahjdnfijpkaaDoorHQ
import Derived.Test.YtmjahjdnfijpkaaDoorHR
import Derived.Test.YtmjahjdnfijpkaaDoorFkL
import Derived.Test.YtmjahjdnfijpkaaDoorHD
import Derived.Deep.RegionHeld3
/- Worlds in which only a few of the old blocks have changed; an address space in memory of a call's own. -/
namespace Go.Proofs.YtmjahjdnfijpkaaDoor
open Go Go.Proofs Go.RowKit
set_option linter.unusedSimpArgs false
set_option linter.unusedVariables false

/-- All old blocks but those of D are as they were. -/
structure But (D : Nat → Prop) (w w' : World) : Prop where
  os : w'.os = w.os
  tape : w'.tape = w.tape
  output : w'.output = w.output
  size : w.heap.size ≤ w'.heap.size
  block : ∀ k, k < w.heap.size → ¬ D k → w'.heap[k]? = w.heap[k]?
theorem But.refl (D : Nat → Prop) (w : World) : But D w w := ⟨rfl, rfl, rfl, Nat.le_refl _, fun _ _ _ => rfl⟩
theorem But.below {D : Nat → Prop} {w w' w2 : World} (h : But D w w') (hb : Below w'.heap.size w' w2) : But D w w2 :=
  ⟨hb.os.trans h.os, hb.tape.trans h.tape, hb.output.trans h.output, Nat.le_trans h.size hb.size, fun k hk hd => (hb.block k (by have := h.size; omega)).trans (h.block k hk hd)⟩
theorem But.setCell {D : Nat → Prop} {w w' : World} (h : But D w w') {p : Addr} (hp : D p.block ∨ w.heap.size ≤ p.block) (u : Value) : But D w (w'.setCell p u) := by
  have hs := (Below.refl 0 w').setCell (p := p) (Nat.zero_le _) u
  refine ⟨hs.os.trans h.os, hs.tape.trans h.tape, hs.output.trans h.output, Nat.le_trans h.size hs.size, fun k hk hd => (Below.heap_setCell w' p u k (fun e => ?_)).trans (h.block k hk hd)⟩
  rcases hp with hp | hp
  · exact hd (by rw [e]; exact hp)
  · omega
theorem But.toBelow {D : Nat → Prop} {w w' : World} (h : But D w w') {B : Nat} (hB : B ≤ w.heap.size) (hD : ∀ b, b < B → ¬ D b) : Below B w w' :=
  ⟨h.os, h.tape, h.output, h.size, fun k hk => h.block k (by omega) (hD k hk)⟩
theorem Bk.but {D : Nat → Prop} {w w' : World} {g : Nat} {cs : Array Value} {t : TypeId} (h : Bk w g cs t) (hb : But D w w') (hg : ¬ D g) : Bk w' g cs t := (hb.block g h.lt hg).trans h
theorem RowO.but {D : Nat → Prop} {w w' : World} {t : TypeId} {g n c : Nat} {xs : List Value} (h : RowO w t g n c xs) (hb : But D w w') (hg : ¬ D g) : RowO w' t g n c xs := h.block (hb.block g h.lt hg)
theorem Rd.but {D : Nat → Prop} {w w' : World} {sz n : Nat} {A : Option Addr} {xs : List Value} (h : Rd w sz A n xs) (hb : But D w w') (hd : ∀ b off, 0 < n → A = some ⟨b, off, none⟩ → ¬ D b) : Rd w' sz A n xs := by
  refine ⟨h.1, fun h0 => ?_⟩
  obtain ⟨b, off, e, hlt, hc⟩ := h.2 h0
  have ho := hb.block b hlt (hd b off h0 e)
  exact ⟨b, off, e, by have := hb.size; omega, fun j u hu => (World.cell?_of_block (a := ⟨b, off + j, none⟩) ho).trans (hc j u hu)⟩
/-- Where the copy of an address space lies: its blocks are in [lo, hi). -/
structure OwnX where
  lo : Nat
  hi : Nat
  AR : Option Addr
  cR : Nat
  gA : Nat
  cA : Nat
  gB : Nat
  cB : Nat
def OwnX.cells (o : OwnX) (n : Nat) (r : Int) : Array Value := #[.slice o.AR n o.cR, .int .i64 r, .slice (some ⟨o.gA, 0, none⟩) 8 o.cA, .slice (some ⟨o.gB, 0, none⟩) 64 o.cB]
structure OwnOk (o : OwnX) (rs : List (Int × Int)) (ls : List Int) (es : List Nat) (w : World) : Prop where
  rR : Rd w 2 o.AR rs.length (flat2 .i64 rs)
  rA : RowO w 3 o.gA 8 o.cA (iw ls)
  rB : RowO w 55 o.gB 64 o.cB (uw es)
  ne : o.gA ≠ o.gB
  lA : o.lo ≤ o.gA ∧ o.gA < o.hi
  lB : o.lo ≤ o.gB ∧ o.gB < o.hi
  lR : ∀ b off, 0 < rs.length → o.AR = some ⟨b, off, none⟩ → (o.lo ≤ b ∧ b < o.hi) ∧ b ≠ o.gA ∧ b ≠ o.gB
  top : o.hi ≤ w.heap.size
variable {o : OwnX} {rs : List (Int × Int)} {ls : List Int} {es : List Nat} {w w' : World}
theorem OwnOk.to (h : OwnOk o rs ls es w) (hb : Below w.heap.size w w') : OwnOk o rs ls es w' :=
  ⟨h.rR.below hb (Nat.le_refl _), h.rA.to hb, h.rB.to hb, h.ne, h.lA, h.lB, h.lR, Nat.le_trans h.top hb.size⟩
theorem OwnOk.rowfar (h : OwnOk o rs ls es w) {g : Nat} (hg : g < o.lo ∨ o.hi ≤ g) (c' : Array Value) : OwnOk o rs ls es (w.setRow g c') :=
  ⟨h.rR.rowfar (fun b off h0 e => by have := (h.lR b off h0 e).1; omega) c', h.rA.rowfar (by have := h.lA; omega) c', h.rB.rowfar (by have := h.lB; omega) c', h.ne, h.lA, h.lB, h.lR, by rw [setRow_size]; exact h.top⟩
theorem OwnOk.far (h : OwnOk o rs ls es w) {p : Addr} (hg : p.block < o.lo ∨ o.hi ≤ p.block) (u : Value) : OwnOk o rs ls es (w.setCell p u) :=
  ⟨h.rR.far (fun b off h0 e => by have := (h.lR b off h0 e).1; omega) u, h.rA.far (p := p) (by have := h.lA; omega) u, h.rB.far (p := p) (by have := h.lB; omega) u, h.ne, h.lA, h.lB, h.lR, Nat.le_trans h.top ((Below.refl 0 w).setCell (p := p) (Nat.zero_le _) u).size⟩
end Go.Proofs.YtmjahjdnfijpkaaDoor
/- The reference of chapter 28, Fork: plain facts. -/
namespace Go.Proofs.YtmjahjdnfijpkaaDoor
open Go Go.Proofs Go.RowKit
set_option linter.unusedSimpArgs false
set_option linter.unusedVariables false

/-- The leaves with the first k changed. -/
def miL (fr ls : List Int) (k : Nat) : List Int := (List.range 8).map fun j => if j < k then chiA fr ls j else ls.getD j 0
theorem miL_len (fr ls : List Int) (k : Nat) : (miL fr ls k).length = 8 := by unfold miL; rw [List.length_map, List.length_range]
theorem miL_get (fr ls : List Int) (k : Nat) {j : Nat} (hj : j < 8) : (miL fr ls k).getD j 0 = if j < k then chiA fr ls j else ls.getD j 0 := by
  unfold miL
  rw [List.getD_eq_getElem?_getD, List.getElem?_map, List.getElem?_range hj]
  rfl
theorem miL_zero {fr ls : List Int} (h8 : ls.length = 8) : miL fr ls 0 = ls := by
  apply List.ext_getElem?
  intro i
  by_cases hi : i < 8
  · have h1 := miL_get fr ls 0 hi
    rw [if_neg (by omega), List.getD_eq_getElem?_getD, List.getD_eq_getElem?_getD, List.getElem?_eq_getElem (by rw [miL_len]; exact hi), List.getElem?_eq_getElem (by omega)] at h1
    rw [List.getElem?_eq_getElem (by rw [miL_len]; exact hi), List.getElem?_eq_getElem (by omega)]
    exact congrArg some h1
  · rw [List.getElem?_eq_none (by rw [miL_len]; omega), List.getElem?_eq_none (by omega)]
theorem miL_all (fr ls : List Int) : miL fr ls 8 = chiL fr ls := by
  unfold miL chiL
  apply List.map_congr_left
  intro j hj
  rw [if_pos (List.mem_range.1 hj)]
theorem miL_at (fr ls : List Int) {k : Nat} (hk : k < 8) : (miL fr ls k).getD k 0 = ls.getD k 0 := by rw [miL_get fr ls k hk, if_neg (by omega)]
theorem miL_no {fr ls : List Int} {k : Nat} (hk : k < 8) (h : ls.getD k 0 = -1) : miL fr ls (k + 1) = miL fr ls k := by
  unfold miL
  apply List.map_congr_left
  intro j hj
  by_cases h1 : j < k
  · rw [if_pos h1, if_pos (by omega)]
  · rw [if_neg h1]
    by_cases h2 : j = k
    · subst h2
      rw [if_pos (by omega), h]
      unfold chiA
      rw [if_pos h]
    · rw [if_neg (by omega)]
theorem miL_yes {fr ls : List Int} {k : Nat} (hk : k < 8) (h : ls.getD k 0 ≠ -1) : miL fr ls (k + 1) = (miL fr ls k).set k (fr.getD (1 + (frmL ls k).length) 0) := by
  have e : fr.getD (1 + (frmL ls k).length) 0 = chiA fr ls k := by unfold chiA; rw [if_neg h]
  rw [e]
  apply List.ext_getElem?
  intro i
  rw [List.getElem?_set, miL_len]
  unfold miL
  rw [List.getElem?_map, List.getElem?_map]
  by_cases h2 : k = i
  · subst h2
    rw [if_pos rfl, if_pos hk, List.getElem?_range hk]
    simp only [Option.map_some, if_pos (Nat.lt_succ_self k)]
  · rw [if_neg h2]
    by_cases hi : i < 8
    · rw [List.getElem?_range hi]
      simp only [Option.map_some, Option.some.injEq]
      by_cases h3 : i < k
      · rw [if_pos h3, if_pos (by omega)]
      · rw [if_neg h3, if_neg (by omega)]
    · rw [List.getElem?_eq_none (by rw [List.length_range]; omega)]
      rfl
theorem par_pack {x : Nat} {n : Int} {a b c : Bool} (h : unpR x = ((1, n, a, b, c), 0)) : packR 1 n false true c = (((parW x : Nat) : Int), 0) := by
  have hc := unpR_ok x (by rw [h])
  have hk : unpK x = 1 := by unfold unpK; rw [h]
  unfold parW
  rw [if_pos hk]
  rw [h] at hc ⊢
  simp only at hc ⊢
  obtain ⟨_, h0, h1⟩ := chk_ok _ _ _ _ _ hc
  have hp := chk_pr n false true c h0 h1 (by decide)
  unfold packR
  rw [if_neg (by simp [hp])]
  rfl
theorem chi_pack {x : Nat} {n : Int} {a b c : Bool} (h : unpR x = ((1, n, a, b, c), 0)) : packR 1 n false true false = (((chiW x : Nat) : Int), 0) := by
  have hc := unpR_ok x (by rw [h])
  have hk : unpK x = 1 := by unfold unpK; rw [h]
  unfold chiW
  rw [if_pos hk]
  rw [h] at hc ⊢
  simp only at hc ⊢
  obtain ⟨_, h0, h1⟩ := chk_ok _ _ _ _ _ hc
  have hp := chk_pr n false true false h0 h1 (by decide)
  unfold packR
  rw [if_neg (by simp [hp])]
  rfl
theorem par_no {x : Nat} {k n : Int} {a b c : Bool} (h : unpR x = ((k, n, a, b, c), 0)) (hk : k ≠ 1) : parW x = x := by
  unfold parW unpK
  rw [h]
  exact if_neg hk
theorem chi_no {x : Nat} {k n : Int} {a b c : Bool} (h : unpR x = ((k, n, a, b, c), 0)) (hk : k ≠ 1) : chiW x = x := by
  unfold chiW unpK
  rw [h]
  exact if_neg hk
theorem set_atR {es : List Nat} {k : Nat} (hk : k < es.length) : es.set k (es.getD k 0) = es := by
  apply List.ext_getElem?
  intro i
  rw [List.getElem?_set]
  by_cases hi : k = i
  · subst hi
    rw [if_pos rfl, if_pos hk, List.getD_eq_getElem?_getD, List.getElem?_eq_getElem hk]
    rfl
  · rw [if_neg hi]
theorem mapK_self (f : Nat → Nat) {es : List Nat} {k : Nat} (hk : k < es.length) : (mapK f es k).set k (es.getD k 0) = mapK f es k := by
  rw [← mapK_at f hk]
  exact set_atR (by rw [mapK_len]; exact hk)
theorem iw_set1 (zs : List Int) (j : Nat) (z : Int) : (iw zs).set j (.int .i64 z) = iw (zs.set j z) := by simp [iw, List.map_set]
/-- A store of one cell in a drawn region. -/
theorem storeD1 {P : Program} {ops : Array Oper} {Q : Exit → Act → World → Prop} {K : Act → World → Prop} {a : Act} {w : World} (i : Nat) {o : Oper} (hi : ops[i]? = some o) (hd : o.dst = none) (hw : Region.wanted o (yielded ops a.tmps) = true) (ty : TypeId) (x y : Operand) (ho : o.op = .store ty x y)
    (g j : Nat) (u : Value) (hx : a.eval x = .pointer (some ⟨g, j, none⟩)) (hy : a.eval y = u) (hrun : (Instr.storeAt ty (.pointer (some ⟨g, j, none⟩)) u).run P w = .ok () (w.setCell ⟨g, j, none⟩ u))
    (hk : K a (w.setCell ⟨g, j, none⟩ u)) : wpOp P ops Q i K a w := by
  unfold wpOp
  simp only [hi]
  rw [if_pos hw]
  refine .inl ?_
  unfold Oper.wp execOp
  simp only [ho, hx, hy, Sem.run_bind, Sem.run_pure, hrun, Result.andThen_ok]
  rw [Oper.upon_skip, hd]
  exact hk
/-- A slice that reads as a list of numbers. -/
def RdI (w : World) (A : Option Addr) (zs : List Int) : Prop := Rd w 1 A zs.length (iw zs)
theorem RdI.to {w w' : World} {A : Option Addr} {zs : List Int} (h : RdI w A zs) (hb : Below w.heap.size w w') : RdI w' A zs := Rd.below h hb (Nat.le_refl _)
theorem RdI.is {w : World} {A : Option Addr} {zs : List Int} (h : RdI w A zs) (c : Nat) : IsV w (.slice A zs.length c) zs := ⟨A, c, rfl, h⟩
/-- Two address spaces and an error as results. -/
def FkRs (w w' : World) (s1 s2 : Sp) (er : Int) (e : Ending) : Prop := ∃ v1 v2, e = .returned (.tuple #[v1, v2, .int .i64 er]) ∧ SpV w' v1 s1 ∧ SpV w' v2 s2 ∧ Below w.heap.size w w'
end Go.Proofs.YtmjahjdnfijpkaaDoor
/- The reference of chapter 28: Fork, where the frames fit. -/
namespace Go.Proofs.YtmjahjdnfijpkaaDoor
open Go Go.Proofs Go.RowKit
set_option linter.unusedSimpArgs false
set_option linter.unusedVariables false
set_option maxRecDepth 100000

/-- The loop over the frames. -/
def RfkI (N : Nat) (w3 : World) (e i : Value) (wr : World) : Prop := e = .int .i64 0 ∧ ∃ k : Nat, k ≤ N ∧ i = .int .i64 k ∧ Below w3.heap.size w3 wr
/-- The loop over the frames before one. -/
def RfkJ (k : Nat) (wr : World) (e m : Value) (wy : World) : Prop := e = .int .i64 0 ∧ ∃ j : Nat, j ≤ k ∧ m = .int .i64 j ∧ Below wr.heap.size wr wy
/-- The loop over the leaves. -/
def RfkL (fr ls : List Int) (gA cA : Nat) (w5 : World) (n i : Value) (wr : World) : Prop := ∃ k : Nat, k ≤ 8 ∧ i = .int .i64 k ∧ n = .int .i64 ((1 + (frmL ls k).length : Nat) : Int) ∧ RowO wr 3 gA 8 cA (iw (miL fr ls k)) ∧ But (fun b => b = gA) w5 wr
/-- The loop over the pages. -/
def RfkP (es : List Nat) (gB cB gD cD : Nat) (w6 : World) (i : Value) (wr : World) : Prop := ∃ k : Nat, k ≤ 64 ∧ i = .int .i64 k ∧ RowO wr 55 gB 64 cB (uw (mapK parW es k)) ∧ RowO wr 55 gD 64 cD (uw (mapK chiW es k)) ∧ But (fun b => b = gB ∨ b = gD) w6 wr

set_option maxHeartbeats 16000000 in
theorem rFork28_ok (rs : List (Int × Int)) (r : Int) (ls : List Int) (es : List Nat) (v : Value) (fr : List Int) (F : Option Addr) (cf : Nat) (w : World) (hv : SpV w v (rs, r, ls, es)) (hn : rs.length ≤ 1000000) (hs : wsmall es) (hF : Rd w 1 F fr.length (iw fr)) (hfn : fr.length ≤ 1000) (hE : forE (rs, r, ls, es) fr = 0) :
    Calls Tryd.prog 17 #[v, .slice F fr.length cf] w fun e w' => FkRs w w' (parS (rs, r, ls, es)) (chiS (rs, r, ls, es) fr) 0 e := by
  obtain ⟨A, c, L, cl, B, d, hve, hA, hLs, hB, hcc⟩ := id hv
  subst hve
  unfold spcV at hv ⊢
  simp only at hv ⊢ hA hLs hB hcc
  obtain ⟨hR, hE2⟩ := orE_zero hE
  obtain ⟨hc, hfit⟩ := orE_zero hE2
  have hc : fr.length = neeN ls := by
    refine Classical.byContradiction fun h => ?_
    rw [if_neg h] at hc
    exact absurd hc (by decide)
  obtain ⟨hok, hus⟩ := fit_ok hfit hc
  have hT := (spc_zero (roo_zero hR).1).2.1
  simp only at hT hok
  have h8 := (tab_zero hT).1
  have h64 := (tab_zero hT).2.1
  have h0 : 0 < fr.length := by rw [hc]; unfold neeN; omega
  obtain ⟨gF, oF, rfl, hgF, hcF⟩ := hF.2 h0
  have HCell : Hid (∀ W, Below w.heap.size w W → ∀ j, j < fr.length → W.cell? ⟨gF, oF + j, none⟩ = some (.int .i64 (fr.getD j 0))) := Lib.hid (fun W hb j hj => (hb.cell (p := ⟨gF, oF + j, none⟩) hgF).trans (hcF j _ (by simp [iw, List.getD_eq_getElem?_getD, hj])))
  have kS := ((Bk.new w #[.slice A rs.length c, .int .i64 r, .slice L ls.length cl, .slice B es.length d] 28).alloc (.cells #[.slice none 0 0, .int .i64 0, .slice none 0 0, .slice none 0 0] 28)).alloc (.cells #[.slice none 0 0, .int .i64 0, .slice none 0 0, .slice none 0 0] 28)
  have kR := (Bk.new (w.alloc (.cells #[.slice A rs.length c, .int .i64 r, .slice L ls.length cl, .slice B es.length d] 28)) #[.slice none 0 0, .int .i64 0, .slice none 0 0, .slice none 0 0] 28).alloc (.cells #[.slice none 0 0, .int .i64 0, .slice none 0 0, .slice none 0 0] 28)
  have kH := Bk.new ((w.alloc (.cells #[.slice A rs.length c, .int .i64 r, .slice L ls.length cl, .slice B es.length d] 28)).alloc (.cells #[.slice none 0 0, .int .i64 0, .slice none 0 0, .slice none 0 0] 28)) #[.slice none 0 0, .int .i64 0, .slice none 0 0, .slice none 0 0] 28
  simp only [World.size_alloc] at kR kH
  have hB1 := balloc (balloc (balloc (Below.refl _ w) (.cells #[.slice A rs.length c, .int .i64 r, .slice L ls.length cl, .slice B es.length d] 28)) (.cells #[.slice none 0 0, .int .i64 0, .slice none 0 0, .slice none 0 0] 28)) (.cells #[.slice none 0 0, .int .i64 0, .slice none 0 0, .slice none 0 0] 28)
  generalize hw1 : ((w.alloc (.cells #[.slice A rs.length c, .int .i64 r, .slice L ls.length cl, .slice B es.length d] 28)).alloc (.cells #[.slice none 0 0, .int .i64 0, .slice none 0 0, .slice none 0 0] 28)).alloc (.cells #[.slice none 0 0, .int .i64 0, .slice none 0 0, .slice none 0 0] 28) = w1 at *
  have HC := Lib.hid (rChecked28_any rs r ls es _ _ (hv.to hB1) hn hs)
  rw [hR] at HC
  have HNd := Lib.hid (fun W h => rneeds28_any rs r ls es (.agg #[.slice A rs.length c, .int .i64 r, .slice L ls.length cl, .slice B es.length d]) W h hT)
  rw [← hc] at HNd
  have HUs := Lib.hid (fun W h k (hk : k < fr.length) => rused28_any rs r ls es (.agg #[.slice A rs.length c, .int .i64 r, .slice L ls.length cl, .slice B es.length d]) (fr.getD k 0) W h hs hT (by have := hok.rng k hk; omega))
  have HUf := Lib.hid hus
  have HOw := Lib.hid (fun W h => rown28v_any rs r ls es (.agg #[.slice A rs.length c, .int .i64 r, .slice L ls.length cl, .slice B es.length d]) W h hn h8 h64)
  have HEt := Lib.hid (fun W h p hp k0 n0 a0 b0 c0 he => rEnt28_any rs r ls es (.agg #[.slice A rs.length c, .int .i64 r, .slice L ls.length cl, .slice B es.length d]) p W h hs hT hp (k := k0) (n := n0) (a := a0) (b := b0) (c := c0) he)
  have HV := Lib.hid (fun W (hb : Below w.heap.size w W) => hv.to hb)
  have HOK := Lib.hid hok
  have H8 := Lib.hid h8
  have H64 := Lib.hid h64
  have HT := Lib.hid hT
  have HUn := Lib.hid (fun k (hk : k < 64) => unp_in hT k hk)
  have HPS : Hid (parS (rs, r, ls, es) = (rs, r, ls, es.map parW)) := Lib.hid rfl
  have HCS : Hid (chiS (rs, r, ls, es) fr = (rs, fr.getD 0 0, chiL fr ls, es.map chiW)) := Lib.hid rfl
  have HLf := Lib.hid (fun k hk => ((tab_zero hT).2.2.2.1 k hk).1)
  have HIx := Lib.hid (fun j hj hn => chiA_idx h8 hok (j := j) hj hn)
  generalize parS (rs, r, ls, es) = sP at *
  generalize chiS (rs, r, ls, es) fr = sC at *
  obtain ⟨N, hN⟩ : ∃ N, N = fr.length := ⟨_, rfl⟩
  rw [← hN] at HCell HNd HUs HUf hfn h0 ⊢
  have HNN := Lib.hid hN
  have hNI : (0 : Int) < N := by omega
  clear hE hE2 hR hc hfit hok hus hT h8 h64 hF hcF hN hA hLs hB hv hcc
  obtain ⟨cS, fS, lS⟩ := kS.facts
  go_enter Tryd.func17, Tryd.ntmps17
  go_wp2_with fail
  refine HC.out.mono ?_
  rintro e w2 ⟨rfl, hb2⟩
  clear cS fS lS hw1
  replace kS := kS.to hb2
  replace kR := kR.to hb2
  replace kH := kH.to hb2
  replace hB1 := bnext hB1 hb2
  clear hb2 HC
  obtain ⟨cS, fS, lS⟩ := kS.facts
  go_wp2_with fail
  refine (HNd.out _ (HV.out _ hB1)).mono ?_
  rintro e w3 ⟨rfl, hb3⟩
  clear cS fS lS
  replace kS := kS.to hb3
  replace kR := kR.to hb3
  replace kH := kH.to hb3
  replace hB1 := bnext hB1 hb3
  clear hb3 HNd
  go_wp2_with fail
  go_loopw [7, 8] (fun e i wr => RfkI N w3 e i wr) (fun _ i _ => N - (intOf i).toNat)
  case atStart => exact ⟨rfl, 0, by omega, rfl, Below.refl _ _⟩
  case round =>
    obtain ⟨rfl, k, hk, rfl, hBx⟩ := hrel
    have kSr := kS.to hBx
    have hBw := bnext hB1 hBx
    by_cases hlt : k < N
    · have hkI : (k : Int) < N := by omega
      have hkN : (0 : Int) ≤ k := by omega
      have hck := HCell.out wr hBw k hlt
      have hrg := HOK.out.rng k (by rw [← HNN.out]; exact hlt)
      have HUk := Lib.hid (fun W (hb : Below w.heap.size w W) => HUs.out W (HV.out W hb) k hlt)
      rw [HUf.out k hlt] at HUk
      have HNe : Hid (∀ j, j < k → fr.getD j 0 ≠ fr.getD k 0) := Lib.hid (fun j hj => HOK.out.ne j k hj (by rw [← HNN.out]; exact hlt))
      generalize fr.getD k 0 = z at *
      have d1 : decide (z < 0) = false := decide_eq_false (by omega)
      have d2 : decide (256 ≤ z) = false := decide_eq_false (by omega)
      have d3 : ¬ z < 0 := by omega
      have d4 : ¬ 256 ≤ z := by omega
      clear hrg
      go_wp2_with fail
      go_loopw [7, 9] (fun e m wy => RfkJ k wr e m wy) (fun _ m _ => k - (intOf m).toNat)
      case atStart => exact ⟨rfl, 0, by omega, rfl, Below.refl _ _⟩
      case round =>
        obtain ⟨rfl, j, hj, rfl, hBy⟩ := hrel
        replace hBx := bnext hBx hBy
        replace hBw := bnext hBw hBy
        replace kSr := kSr.to hBy
        replace hck := (hBy.cell (p := ⟨gF, oF + k, none⟩) (World.block_lt_of_cell? _ _ hck)).trans hck
        by_cases hlj : j < k
        · have hjI : (j : Int) < k := by omega
          have hjN : (0 : Int) ≤ j := by omega
          have hjM : (j : Int) < N := by omega
          have hcj := HCell.out _ hBw j (by omega)
          have hne := HNe.out j hlj
          generalize fr.getD j 0 = y at *
          have d5 : (y == z) = false := by simpa using hne
          clear hne
          go_upto_region 12 with fail
          go_quiet (fail)
          go_wp2_with fail
          go_roundw
          case rel => exact ⟨rfl, j + 1, by omega, by go_num, below_drewN hBy _⟩
          case measure => simp [intOf]; omega
        · obtain rfl : j = k := by omega
          have s0 := kSr.cell 0
          have s1 := kSr.cell 1
          have s2 := kSr.cell 2
          have s3 := kSr.cell 3
          simp at s0 s1 s2 s3
          have lk1 := kSr.lt
          go_upto_region 14 with fail
          go_region_held3 (fun w' => w'.cell? ⟨w.heap.size, 0, none⟩ = some (.slice A rs.length c) ∧ w'.cell? ⟨w.heap.size, 1, none⟩ = some (.int .i64 r) ∧ w'.cell? ⟨w.heap.size, 2, none⟩ = some (.slice L ls.length cl) ∧ w'.cell? ⟨w.heap.size, 3, none⟩ = some (.slice B es.length d) ∧ w'.cell? ⟨gF, oF + j, none⟩ = some (.int .i64 z))
            (refine ⟨?_, ?_, ?_, ?_, ?_⟩ <;> (repeat (with_reducible first | exact s0 | exact s1 | exact s2 | exact s3 | exact hck | refine cell_drew ?_ | refine cell_later hbG ?_)))
            (first
              | (go_at_call 53
                 refine (HUk.out _ (below_drew hBw)).mono ?_
                 rintro e wG ⟨rfl, hbG⟩))
          all_goals
            go_wp2_with fail
            go_roundw
            case rel => exact ⟨rfl, j + 1, by omega, by go_num, bnext (below_drew hBx) hbG⟩
            case measure => simp [intOf]; omega
    · obtain rfl : N = k := by omega
      have hkI : ¬ (N : Int) < N := by omega
      have kRr := kR.to hBx
      have kHr := kH.to hBx
      clear kS kR kH hB1 hBx HUs HUf
      go_upto_region 18 with fail
      have hB := below_drew (Below.refl wr.heap.size wr)
      have hu : (Tryd.prog.underlying 28).map (·.isRow) = some true := by kernel_rfl
      obtain ⟨dd, hu, hd⟩ := Option.map_eq_some_iff.1 hu
      have hal : ∀ (W : World) (ev : Operand → Value) (o : Oper), o.op = Op.alloc 28 → (execOp ev o).run Tryd.prog W = .ok (.value (.pointer (some ⟨W.heap.size, 0, none⟩))) (W.alloc (.cells #[.slice none 0 0, .int .i64 0, .slice none 0 0, .slice none 0 0] 28)) := fun W ev o ho => by unfold execOp; simp [ho, go_sem]
      have hcf : ∀ (x : Value) (W : World), (callFunc 54 #[x]).run Tryd.prog W = .ok (.enter 54 #[x]) W := fun x W => by go_simp
      have l9 := kSr.lt
      have l9R := kRr.lt
      have l9H := kHr.lt
      refine wp_region_held_drew (S := (fun w' => Bk w' w.heap.size #[.slice A rs.length c, .int .i64 r, .slice L ls.length cl, .slice B es.length d] 28)) (by kernel_rfl) kSr.drew (fun _ => ?_)
      refine takeD 0 (some 82) (.agg #[.slice A rs.length c, .int .i64 r, .slice L ls.length cl, .slice B es.length d]) rfl rfl (by kernel_rfl) (by kernel_rfl) (by kernel_rfl) (fun _ _ _ h => h) (yieldsIf_load_mid (by rfl) 28 _ rfl w.heap.size 0 rfl [.slice A rs.length c, .int .i64 r, .slice L ls.length cl, .slice B es.length d] dd (fun w' e => e.range) hu hd (by kernel_rfl)) kSr.drew ?_
      try simp only [Act.put, List.setIfInBounds_toArray, List.set_cons_zero, List.set_cons_succ]
      refine takeD 2 (some 84) (.agg #[.slice A rs.length c, .int .i64 r, .slice L ls.length cl, .slice B es.length d]) rfl rfl (by kernel_rfl) (by kernel_rfl) (by kernel_rfl) (fun _ _ _ h => h) (yieldsIf_load_mid (by rfl) 28 _ rfl w.heap.size 0 rfl [.slice A rs.length c, .int .i64 r, .slice L ls.length cl, .slice B es.length d] dd (fun w' e => e.range) hu hd (by kernel_rfl)) kSr.drew ?_
      try simp only [Act.put, List.setIfInBounds_toArray, List.set_cons_zero, List.set_cons_succ]
      generalize hw_d : wr.drew = wd at *
      refine shareD (X := Nat × Nat × OwnX × OwnX) (fun x W => Bk W x.1 #[.slice none 0 0, .int .i64 0, .slice none 0 0, .slice none 0 0] 28 ∧ Bk W x.2.1 #[.slice none 0 0, .int .i64 0, .slice none 0 0, .slice none 0 0] 28 ∧ x.1 ≠ x.2.1 ∧ wr.heap.size ≤ x.1 ∧ wr.heap.size ≤ x.2.1 ∧ OwnOk x.2.2.1 rs ls es W ∧ OwnOk x.2.2.2 rs ls es W ∧ wr.heap.size ≤ x.2.2.1.lo ∧ x.2.2.1.hi ≤ x.2.2.2.lo ∧ (x.1 < x.2.2.1.lo ∨ x.2.2.1.hi ≤ x.1) ∧ (x.1 < x.2.2.2.lo ∨ x.2.2.2.hi ≤ x.1) ∧ (x.2.1 < x.2.2.1.lo ∨ x.2.2.1.hi ≤ x.2.1) ∧ (x.2.1 < x.2.2.2.lo ∨ x.2.2.2.hi ≤ x.2.1) ∧ Below wr.heap.size wr W) 2 #[true, true, true, true, true, true, false, false] (fun a x => ((((a.put (some 83) (.agg (x.2.2.1.cells rs.length r))).put (some 85) (.agg (x.2.2.2.cells rs.length r))).put (some 10) (.pointer (some ⟨x.1, 0, none⟩))).put (some 11) (.pointer (some ⟨x.2.1, 0, none⟩)))) ?_ ?_
      · intro HK
        simp only [Act.put, List.setIfInBounds_toArray, List.set_cons_zero, List.set_cons_succ] at HK
        refine wpAnyH_all (rs := [1, 4, 5]) (by kernel_rfl) (by simp) (fun i hiR => ?_)
        simp only [List.mem_cons, List.not_mem_nil, or_false] at hiR
        rcases hiR with rfl | rfl | rfl
        · skip
          refine callD 1 (some 83) rfl rfl rfl (f := 54) (args := #[.agg #[.slice A rs.length c, .int .i64 r, .slice L ls.length cl, .slice B es.length d]]) (run_call1 (vx := .agg #[.slice A rs.length c, .int .i64 r, .slice L ls.length cl, .slice B es.length d]) (x := .tmp 82) rfl rfl rfl (hcf _) _) (HOw.out _ (HV.out _ (hBw.trans ((show Below wr.heap.size wr wd from hB).mono (by have := hBw.size; omega))))) ?_
          rintro e wc1 ⟨AR, cR, gA, cA, gB, cB, rfl, x1, x2, x3, x4, x5, x6, x7, hb_wc1⟩
          refine ⟨_, rfl, (kSr.to hB).to hb_wc1, ?_⟩
          have x8 := x2.lt
          have x9 := x3.lt
          have x10 := rd_ltD x1
          obtain ⟨q1, hq1⟩ : ∃ q : OwnX, q = ⟨wd.heap.size, wc1.heap.size, AR, cR, gA, cA, gB, cB⟩ := ⟨_, rfl⟩
          have hO1 : OwnOk q1 rs ls es wc1 := by subst hq1; exact ⟨x1, x2, x3, x4, ⟨x5, x8⟩, ⟨x6, x9⟩, fun b off h0 e => ⟨⟨(x7 b off h0 e).1, x10 b off h0 e⟩, (x7 b off h0 e).2⟩, Nat.le_refl _⟩
          have hql : q1.lo = wd.heap.size := by rw [hq1]
          rw [show (Value.agg #[.slice AR rs.length cR, .int .i64 r, .slice (some ⟨gA, 0, none⟩) 8 cA, .slice (some ⟨gB, 0, none⟩) 64 cB]) = .agg (q1.cells rs.length r) from by rw [hq1]; rfl]
          have hl1 : wr.heap.size ≤ q1.lo := by rw [hql]; exact hB.size
          clear hq1 hql x1 x2 x3 x4 x5 x6 x7 x8 x9 x10
          replace hB := hB.trans (hb_wc1.mono hB.size)
          clear hb_wc1
          try simp only [Act.put, List.setIfInBounds_toArray, List.set_cons_zero, List.set_cons_succ]
          refine wpAnyH_all (rs := [3, 4, 5]) (by kernel_rfl) (by simp) (fun i hiR => ?_)
          simp only [List.mem_cons, List.not_mem_nil, or_false] at hiR
          rcases hiR with rfl | rfl | rfl
          · skip
            refine callD 3 (some 85) rfl rfl rfl (f := 54) (args := #[.agg #[.slice A rs.length c, .int .i64 r, .slice L ls.length cl, .slice B es.length d]]) (run_call1 (vx := .agg #[.slice A rs.length c, .int .i64 r, .slice L ls.length cl, .slice B es.length d]) (x := .tmp 84) rfl rfl rfl (hcf _) _) (HOw.out _ (HV.out _ (hBw.trans ((show Below wr.heap.size wr wc1 from hB).mono (by have := hBw.size; omega))))) ?_
            rintro e wc2 ⟨AR, cR, gA, cA, gB, cB, rfl, x1, x2, x3, x4, x5, x6, x7, hb_wc2⟩
            refine ⟨_, rfl, (kSr.to hB).to hb_wc2, ?_⟩
            have x8 := x2.lt
            have x9 := x3.lt
            have x10 := rd_ltD x1
            obtain ⟨q2, hq2⟩ : ∃ q : OwnX, q = ⟨wc1.heap.size, wc2.heap.size, AR, cR, gA, cA, gB, cB⟩ := ⟨_, rfl⟩
            have hO2 : OwnOk q2 rs ls es wc2 := by subst hq2; exact ⟨x1, x2, x3, x4, ⟨x5, x8⟩, ⟨x6, x9⟩, fun b off h0 e => ⟨⟨(x7 b off h0 e).1, x10 b off h0 e⟩, (x7 b off h0 e).2⟩, Nat.le_refl _⟩
            have hql : q2.lo = wc1.heap.size := by rw [hq2]
            rw [show (Value.agg #[.slice AR rs.length cR, .int .i64 r, .slice (some ⟨gA, 0, none⟩) 8 cA, .slice (some ⟨gB, 0, none⟩) 64 cB]) = .agg (q2.cells rs.length r) from by rw [hq2]; rfl]
            have hl12 : q1.hi ≤ q2.lo := by rw [hql]; exact hO1.top
            clear hq2 hql x1 x2 x3 x4 x5 x6 x7 x8 x9 x10
            replace hO1 := hO1.to hb_wc2
            replace hB := hB.trans (hb_wc2.mono hB.size)
            clear hb_wc2
            try simp only [Act.put, List.setIfInBounds_toArray, List.set_cons_zero, List.set_cons_succ]
            refine wpAnyH_all (rs := [4, 5]) (by kernel_rfl) (by simp) (fun i hiR => ?_)
            simp only [List.mem_cons, List.not_mem_nil, or_false] at hiR
            rcases hiR with rfl | rfl
            · skip
              refine valD 4 (some 10) rfl rfl rfl (hal _ _ _ rfl) ⟨(kSr.to hB).alloc _, ?_⟩
              have kA := Bk.new wc2 #[.slice none 0 0, .int .i64 0, .slice none 0 0, .slice none 0 0] 28
              have hcN := balloc (Below.refl _ wc2) (.cells #[.slice none 0 0, .int .i64 0, .slice none 0 0, .slice none 0 0] 28)
              have hgA : wr.heap.size ≤ wc2.heap.size := hB.size
              have hA1 : wc2.heap.size < q1.lo ∨ q1.hi ≤ wc2.heap.size := .inr hO1.top
              have hA2 : wc2.heap.size < q2.lo ∨ q2.hi ≤ wc2.heap.size := .inr hO2.top
              generalize hw_wn3 : wc2.alloc (.cells #[.slice none 0 0, .int .i64 0, .slice none 0 0, .slice none 0 0] 28) = wn3 at *
              replace hO1 := hO1.to hcN
              replace hO2 := hO2.to hcN
              replace hB := hB.trans (hcN.mono hB.size)
              clear hcN
              try simp only [Act.put, List.setIfInBounds_toArray, List.set_cons_zero, List.set_cons_succ]
              refine wpAnyH_all (rs := [5]) (by kernel_rfl) (by simp) (fun i hiR => ?_)
              obtain rfl : i = 5 := by simpa using hiR
              refine valD 5 (some 11) rfl rfl rfl (hal _ _ _ rfl) ⟨(kSr.to hB).alloc _, ?_⟩
              have kB := Bk.new wn3 #[.slice none 0 0, .int .i64 0, .slice none 0 0, .slice none 0 0] 28
              have hcN := balloc (Below.refl _ wn3) (.cells #[.slice none 0 0, .int .i64 0, .slice none 0 0, .slice none 0 0] 28)
              have hgB : wr.heap.size ≤ wn3.heap.size := hB.size
              have hB1_ : wn3.heap.size < q1.lo ∨ q1.hi ≤ wn3.heap.size := .inr hO1.top
              have hB2_ : wn3.heap.size < q2.lo ∨ q2.hi ≤ wn3.heap.size := .inr hO2.top
              have hneAB : wc2.heap.size ≠ wn3.heap.size := Nat.ne_of_lt kA.lt
              generalize hw_wn4 : wn3.alloc (.cells #[.slice none 0 0, .int .i64 0, .slice none 0 0, .slice none 0 0] 28) = wn4 at *
              replace kA := kA.to hcN
              replace hO1 := hO1.to hcN
              replace hO2 := hO2.to hcN
              replace hB := hB.trans (hcN.mono hB.size)
              clear hcN
              try simp only [Act.put, List.setIfInBounds_toArray, List.set_cons_zero, List.set_cons_succ]
              exact HK (wc2.heap.size, wn3.heap.size, q1, q2) _ ⟨kA, kB, hneAB, hgA, hgB, hO1, hO2, hl1, hl12, hA1, hA2, hB1_, hB2_, hB⟩
            · skip
              refine valD 5 (some 11) rfl rfl rfl (hal _ _ _ rfl) ⟨(kSr.to hB).alloc _, ?_⟩
              have kB := Bk.new wc2 #[.slice none 0 0, .int .i64 0, .slice none 0 0, .slice none 0 0] 28
              have hcN := balloc (Below.refl _ wc2) (.cells #[.slice none 0 0, .int .i64 0, .slice none 0 0, .slice none 0 0] 28)
              have hgB : wr.heap.size ≤ wc2.heap.size := hB.size
              have hB1_ : wc2.heap.size < q1.lo ∨ q1.hi ≤ wc2.heap.size := .inr hO1.top
              have hB2_ : wc2.heap.size < q2.lo ∨ q2.hi ≤ wc2.heap.size := .inr hO2.top
              generalize hw_wn5 : wc2.alloc (.cells #[.slice none 0 0, .int .i64 0, .slice none 0 0, .slice none 0 0] 28) = wn5 at *
              replace hO1 := hO1.to hcN
              replace hO2 := hO2.to hcN
              replace hB := hB.trans (hcN.mono hB.size)
              clear hcN
              try simp only [Act.put, List.setIfInBounds_toArray, List.set_cons_zero, List.set_cons_succ]
              refine wpAnyH_all (rs := [4]) (by kernel_rfl) (by simp) (fun i hiR => ?_)
              obtain rfl : i = 4 := by simpa using hiR
              refine valD 4 (some 10) rfl rfl rfl (hal _ _ _ rfl) ⟨(kSr.to hB).alloc _, ?_⟩
              have kA := Bk.new wn5 #[.slice none 0 0, .int .i64 0, .slice none 0 0, .slice none 0 0] 28
              have hcN := balloc (Below.refl _ wn5) (.cells #[.slice none 0 0, .int .i64 0, .slice none 0 0, .slice none 0 0] 28)
              have hgA : wr.heap.size ≤ wn5.heap.size := hB.size
              have hA1 : wn5.heap.size < q1.lo ∨ q1.hi ≤ wn5.heap.size := .inr hO1.top
              have hA2 : wn5.heap.size < q2.lo ∨ q2.hi ≤ wn5.heap.size := .inr hO2.top
              have hneAB : wn5.heap.size ≠ wc2.heap.size := (Nat.ne_of_lt kB.lt).symm
              generalize hw_wn6 : wn5.alloc (.cells #[.slice none 0 0, .int .i64 0, .slice none 0 0, .slice none 0 0] 28) = wn6 at *
              replace kB := kB.to hcN
              replace hO1 := hO1.to hcN
              replace hO2 := hO2.to hcN
              replace hB := hB.trans (hcN.mono hB.size)
              clear hcN
              try simp only [Act.put, List.setIfInBounds_toArray, List.set_cons_zero, List.set_cons_succ]
              exact HK (wn5.heap.size, wc2.heap.size, q1, q2) _ ⟨kA, kB, hneAB, hgA, hgB, hO1, hO2, hl1, hl12, hA1, hA2, hB1_, hB2_, hB⟩
          · skip
            refine valD 4 (some 10) rfl rfl rfl (hal _ _ _ rfl) ⟨(kSr.to hB).alloc _, ?_⟩
            have kA := Bk.new wc1 #[.slice none 0 0, .int .i64 0, .slice none 0 0, .slice none 0 0] 28
            have hcN := balloc (Below.refl _ wc1) (.cells #[.slice none 0 0, .int .i64 0, .slice none 0 0, .slice none 0 0] 28)
            have hgA : wr.heap.size ≤ wc1.heap.size := hB.size
            have hA1 : wc1.heap.size < q1.lo ∨ q1.hi ≤ wc1.heap.size := .inr hO1.top
            generalize hw_wn7 : wc1.alloc (.cells #[.slice none 0 0, .int .i64 0, .slice none 0 0, .slice none 0 0] 28) = wn7 at *
            replace hO1 := hO1.to hcN
            replace hB := hB.trans (hcN.mono hB.size)
            clear hcN
            try simp only [Act.put, List.setIfInBounds_toArray, List.set_cons_zero, List.set_cons_succ]
            refine wpAnyH_all (rs := [3, 5]) (by kernel_rfl) (by simp) (fun i hiR => ?_)
            simp only [List.mem_cons, List.not_mem_nil, or_false] at hiR
            rcases hiR with rfl | rfl
            · skip
              refine callD 3 (some 85) rfl rfl rfl (f := 54) (args := #[.agg #[.slice A rs.length c, .int .i64 r, .slice L ls.length cl, .slice B es.length d]]) (run_call1 (vx := .agg #[.slice A rs.length c, .int .i64 r, .slice L ls.length cl, .slice B es.length d]) (x := .tmp 84) rfl rfl rfl (hcf _) _) (HOw.out _ (HV.out _ (hBw.trans ((show Below wr.heap.size wr wn7 from hB).mono (by have := hBw.size; omega))))) ?_
              rintro e wc8 ⟨AR, cR, gA, cA, gB, cB, rfl, x1, x2, x3, x4, x5, x6, x7, hb_wc8⟩
              refine ⟨_, rfl, (kSr.to hB).to hb_wc8, ?_⟩
              have x8 := x2.lt
              have x9 := x3.lt
              have x10 := rd_ltD x1
              obtain ⟨q2, hq2⟩ : ∃ q : OwnX, q = ⟨wn7.heap.size, wc8.heap.size, AR, cR, gA, cA, gB, cB⟩ := ⟨_, rfl⟩
              have hO2 : OwnOk q2 rs ls es wc8 := by subst hq2; exact ⟨x1, x2, x3, x4, ⟨x5, x8⟩, ⟨x6, x9⟩, fun b off h0 e => ⟨⟨(x7 b off h0 e).1, x10 b off h0 e⟩, (x7 b off h0 e).2⟩, Nat.le_refl _⟩
              have hql : q2.lo = wn7.heap.size := by rw [hq2]
              rw [show (Value.agg #[.slice AR rs.length cR, .int .i64 r, .slice (some ⟨gA, 0, none⟩) 8 cA, .slice (some ⟨gB, 0, none⟩) 64 cB]) = .agg (q2.cells rs.length r) from by rw [hq2]; rfl]
              have hl12 : q1.hi ≤ q2.lo := by rw [hql]; exact hO1.top
              have hA2 : wc1.heap.size < q2.lo ∨ q2.hi ≤ wc1.heap.size := .inl (by rw [hql]; exact kA.lt)
              clear hq2 hql x1 x2 x3 x4 x5 x6 x7 x8 x9 x10
              replace kA := kA.to hb_wc8
              replace hO1 := hO1.to hb_wc8
              replace hB := hB.trans (hb_wc8.mono hB.size)
              clear hb_wc8
              try simp only [Act.put, List.setIfInBounds_toArray, List.set_cons_zero, List.set_cons_succ]
              refine wpAnyH_all (rs := [5]) (by kernel_rfl) (by simp) (fun i hiR => ?_)
              obtain rfl : i = 5 := by simpa using hiR
              refine valD 5 (some 11) rfl rfl rfl (hal _ _ _ rfl) ⟨(kSr.to hB).alloc _, ?_⟩
              have kB := Bk.new wc8 #[.slice none 0 0, .int .i64 0, .slice none 0 0, .slice none 0 0] 28
              have hcN := balloc (Below.refl _ wc8) (.cells #[.slice none 0 0, .int .i64 0, .slice none 0 0, .slice none 0 0] 28)
              have hgB : wr.heap.size ≤ wc8.heap.size := hB.size
              have hB1_ : wc8.heap.size < q1.lo ∨ q1.hi ≤ wc8.heap.size := .inr hO1.top
              have hB2_ : wc8.heap.size < q2.lo ∨ q2.hi ≤ wc8.heap.size := .inr hO2.top
              have hneAB : wc1.heap.size ≠ wc8.heap.size := Nat.ne_of_lt kA.lt
              generalize hw_wn9 : wc8.alloc (.cells #[.slice none 0 0, .int .i64 0, .slice none 0 0, .slice none 0 0] 28) = wn9 at *
              replace kA := kA.to hcN
              replace hO1 := hO1.to hcN
              replace hO2 := hO2.to hcN
              replace hB := hB.trans (hcN.mono hB.size)
              clear hcN
              try simp only [Act.put, List.setIfInBounds_toArray, List.set_cons_zero, List.set_cons_succ]
              exact HK (wc1.heap.size, wc8.heap.size, q1, q2) _ ⟨kA, kB, hneAB, hgA, hgB, hO1, hO2, hl1, hl12, hA1, hA2, hB1_, hB2_, hB⟩
            · skip
              refine valD 5 (some 11) rfl rfl rfl (hal _ _ _ rfl) ⟨(kSr.to hB).alloc _, ?_⟩
              have kB := Bk.new wn7 #[.slice none 0 0, .int .i64 0, .slice none 0 0, .slice none 0 0] 28
              have hcN := balloc (Below.refl _ wn7) (.cells #[.slice none 0 0, .int .i64 0, .slice none 0 0, .slice none 0 0] 28)
              have hgB : wr.heap.size ≤ wn7.heap.size := hB.size
              have hB1_ : wn7.heap.size < q1.lo ∨ q1.hi ≤ wn7.heap.size := .inr hO1.top
              have hneAB : wc1.heap.size ≠ wn7.heap.size := Nat.ne_of_lt kA.lt
              generalize hw_wn10 : wn7.alloc (.cells #[.slice none 0 0, .int .i64 0, .slice none 0 0, .slice none 0 0] 28) = wn10 at *
              replace kA := kA.to hcN
              replace hO1 := hO1.to hcN
              replace hB := hB.trans (hcN.mono hB.size)
              clear hcN
              try simp only [Act.put, List.setIfInBounds_toArray, List.set_cons_zero, List.set_cons_succ]
              refine wpAnyH_all (rs := [3]) (by kernel_rfl) (by simp) (fun i hiR => ?_)
              obtain rfl : i = 3 := by simpa using hiR
              refine callD 3 (some 85) rfl rfl rfl (f := 54) (args := #[.agg #[.slice A rs.length c, .int .i64 r, .slice L ls.length cl, .slice B es.length d]]) (run_call1 (vx := .agg #[.slice A rs.length c, .int .i64 r, .slice L ls.length cl, .slice B es.length d]) (x := .tmp 84) rfl rfl rfl (hcf _) _) (HOw.out _ (HV.out _ (hBw.trans ((show Below wr.heap.size wr wn10 from hB).mono (by have := hBw.size; omega))))) ?_
              rintro e wc11 ⟨AR, cR, gA, cA, gB, cB, rfl, x1, x2, x3, x4, x5, x6, x7, hb_wc11⟩
              refine ⟨_, rfl, (kSr.to hB).to hb_wc11, ?_⟩
              have x8 := x2.lt
              have x9 := x3.lt
              have x10 := rd_ltD x1
              obtain ⟨q2, hq2⟩ : ∃ q : OwnX, q = ⟨wn10.heap.size, wc11.heap.size, AR, cR, gA, cA, gB, cB⟩ := ⟨_, rfl⟩
              have hO2 : OwnOk q2 rs ls es wc11 := by subst hq2; exact ⟨x1, x2, x3, x4, ⟨x5, x8⟩, ⟨x6, x9⟩, fun b off h0 e => ⟨⟨(x7 b off h0 e).1, x10 b off h0 e⟩, (x7 b off h0 e).2⟩, Nat.le_refl _⟩
              have hql : q2.lo = wn10.heap.size := by rw [hq2]
              rw [show (Value.agg #[.slice AR rs.length cR, .int .i64 r, .slice (some ⟨gA, 0, none⟩) 8 cA, .slice (some ⟨gB, 0, none⟩) 64 cB]) = .agg (q2.cells rs.length r) from by rw [hq2]; rfl]
              have hl12 : q1.hi ≤ q2.lo := by rw [hql]; exact hO1.top
              have hA2 : wc1.heap.size < q2.lo ∨ q2.hi ≤ wc1.heap.size := .inl (by rw [hql]; exact kA.lt)
              have hB2_ : wn7.heap.size < q2.lo ∨ q2.hi ≤ wn7.heap.size := .inl (by rw [hql]; exact kB.lt)
              clear hq2 hql x1 x2 x3 x4 x5 x6 x7 x8 x9 x10
              replace kA := kA.to hb_wc11
              replace kB := kB.to hb_wc11
              replace hO1 := hO1.to hb_wc11
              replace hB := hB.trans (hb_wc11.mono hB.size)
              clear hb_wc11
              try simp only [Act.put, List.setIfInBounds_toArray, List.set_cons_zero, List.set_cons_succ]
              exact HK (wc1.heap.size, wn7.heap.size, q1, q2) _ ⟨kA, kB, hneAB, hgA, hgB, hO1, hO2, hl1, hl12, hA1, hA2, hB1_, hB2_, hB⟩
          · skip
            refine valD 5 (some 11) rfl rfl rfl (hal _ _ _ rfl) ⟨(kSr.to hB).alloc _, ?_⟩
            have kB := Bk.new wc1 #[.slice none 0 0, .int .i64 0, .slice none 0 0, .slice none 0 0] 28
            have hcN := balloc (Below.refl _ wc1) (.cells #[.slice none 0 0, .int .i64 0, .slice none 0 0, .slice none 0 0] 28)
            have hgB : wr.heap.size ≤ wc1.heap.size := hB.size
            have hB1_ : wc1.heap.size < q1.lo ∨ q1.hi ≤ wc1.heap.size := .inr hO1.top
            generalize hw_wn12 : wc1.alloc (.cells #[.slice none 0 0, .int .i64 0, .slice none 0 0, .slice none 0 0] 28) = wn12 at *
            replace hO1 := hO1.to hcN
            replace hB := hB.trans (hcN.mono hB.size)
            clear hcN
            try simp only [Act.put, List.setIfInBounds_toArray, List.set_cons_zero, List.set_cons_succ]
            refine wpAnyH_all (rs := [3, 4]) (by kernel_rfl) (by simp) (fun i hiR => ?_)
            simp only [List.mem_cons, List.not_mem_nil, or_false] at hiR
            rcases hiR with rfl | rfl
            · skip
              refine callD 3 (some 85) rfl rfl rfl (f := 54) (args := #[.agg #[.slice A rs.length c, .int .i64 r, .slice L ls.length cl, .slice B es.length d]]) (run_call1 (vx := .agg #[.slice A rs.length c, .int .i64 r, .slice L ls.length cl, .slice B es.length d]) (x := .tmp 84) rfl rfl rfl (hcf _) _) (HOw.out _ (HV.out _ (hBw.trans ((show Below wr.heap.size wr wn12 from hB).mono (by have := hBw.size; omega))))) ?_
              rintro e wc13 ⟨AR, cR, gA, cA, gB, cB, rfl, x1, x2, x3, x4, x5, x6, x7, hb_wc13⟩
              refine ⟨_, rfl, (kSr.to hB).to hb_wc13, ?_⟩
              have x8 := x2.lt
              have x9 := x3.lt
              have x10 := rd_ltD x1
              obtain ⟨q2, hq2⟩ : ∃ q : OwnX, q = ⟨wn12.heap.size, wc13.heap.size, AR, cR, gA, cA, gB, cB⟩ := ⟨_, rfl⟩
              have hO2 : OwnOk q2 rs ls es wc13 := by subst hq2; exact ⟨x1, x2, x3, x4, ⟨x5, x8⟩, ⟨x6, x9⟩, fun b off h0 e => ⟨⟨(x7 b off h0 e).1, x10 b off h0 e⟩, (x7 b off h0 e).2⟩, Nat.le_refl _⟩
              have hql : q2.lo = wn12.heap.size := by rw [hq2]
              rw [show (Value.agg #[.slice AR rs.length cR, .int .i64 r, .slice (some ⟨gA, 0, none⟩) 8 cA, .slice (some ⟨gB, 0, none⟩) 64 cB]) = .agg (q2.cells rs.length r) from by rw [hq2]; rfl]
              have hl12 : q1.hi ≤ q2.lo := by rw [hql]; exact hO1.top
              have hB2_ : wc1.heap.size < q2.lo ∨ q2.hi ≤ wc1.heap.size := .inl (by rw [hql]; exact kB.lt)
              clear hq2 hql x1 x2 x3 x4 x5 x6 x7 x8 x9 x10
              replace kB := kB.to hb_wc13
              replace hO1 := hO1.to hb_wc13
              replace hB := hB.trans (hb_wc13.mono hB.size)
              clear hb_wc13
              try simp only [Act.put, List.setIfInBounds_toArray, List.set_cons_zero, List.set_cons_succ]
              refine wpAnyH_all (rs := [4]) (by kernel_rfl) (by simp) (fun i hiR => ?_)
              obtain rfl : i = 4 := by simpa using hiR
              refine valD 4 (some 10) rfl rfl rfl (hal _ _ _ rfl) ⟨(kSr.to hB).alloc _, ?_⟩
              have kA := Bk.new wc13 #[.slice none 0 0, .int .i64 0, .slice none 0 0, .slice none 0 0] 28
              have hcN := balloc (Below.refl _ wc13) (.cells #[.slice none 0 0, .int .i64 0, .slice none 0 0, .slice none 0 0] 28)
              have hgA : wr.heap.size ≤ wc13.heap.size := hB.size
              have hA1 : wc13.heap.size < q1.lo ∨ q1.hi ≤ wc13.heap.size := .inr hO1.top
              have hA2 : wc13.heap.size < q2.lo ∨ q2.hi ≤ wc13.heap.size := .inr hO2.top
              have hneAB : wc13.heap.size ≠ wc1.heap.size := (Nat.ne_of_lt kB.lt).symm
              generalize hw_wn14 : wc13.alloc (.cells #[.slice none 0 0, .int .i64 0, .slice none 0 0, .slice none 0 0] 28) = wn14 at *
              replace kB := kB.to hcN
              replace hO1 := hO1.to hcN
              replace hO2 := hO2.to hcN
              replace hB := hB.trans (hcN.mono hB.size)
              clear hcN
              try simp only [Act.put, List.setIfInBounds_toArray, List.set_cons_zero, List.set_cons_succ]
              exact HK (wc13.heap.size, wc1.heap.size, q1, q2) _ ⟨kA, kB, hneAB, hgA, hgB, hO1, hO2, hl1, hl12, hA1, hA2, hB1_, hB2_, hB⟩
            · skip
              refine valD 4 (some 10) rfl rfl rfl (hal _ _ _ rfl) ⟨(kSr.to hB).alloc _, ?_⟩
              have kA := Bk.new wn12 #[.slice none 0 0, .int .i64 0, .slice none 0 0, .slice none 0 0] 28
              have hcN := balloc (Below.refl _ wn12) (.cells #[.slice none 0 0, .int .i64 0, .slice none 0 0, .slice none 0 0] 28)
              have hgA : wr.heap.size ≤ wn12.heap.size := hB.size
              have hA1 : wn12.heap.size < q1.lo ∨ q1.hi ≤ wn12.heap.size := .inr hO1.top
              have hneAB : wn12.heap.size ≠ wc1.heap.size := (Nat.ne_of_lt kB.lt).symm
              generalize hw_wn15 : wn12.alloc (.cells #[.slice none 0 0, .int .i64 0, .slice none 0 0, .slice none 0 0] 28) = wn15 at *
              replace kB := kB.to hcN
              replace hO1 := hO1.to hcN
              replace hB := hB.trans (hcN.mono hB.size)
              clear hcN
              try simp only [Act.put, List.setIfInBounds_toArray, List.set_cons_zero, List.set_cons_succ]
              refine wpAnyH_all (rs := [3]) (by kernel_rfl) (by simp) (fun i hiR => ?_)
              obtain rfl : i = 3 := by simpa using hiR
              refine callD 3 (some 85) rfl rfl rfl (f := 54) (args := #[.agg #[.slice A rs.length c, .int .i64 r, .slice L ls.length cl, .slice B es.length d]]) (run_call1 (vx := .agg #[.slice A rs.length c, .int .i64 r, .slice L ls.length cl, .slice B es.length d]) (x := .tmp 84) rfl rfl rfl (hcf _) _) (HOw.out _ (HV.out _ (hBw.trans ((show Below wr.heap.size wr wn15 from hB).mono (by have := hBw.size; omega))))) ?_
              rintro e wc16 ⟨AR, cR, gA, cA, gB, cB, rfl, x1, x2, x3, x4, x5, x6, x7, hb_wc16⟩
              refine ⟨_, rfl, (kSr.to hB).to hb_wc16, ?_⟩
              have x8 := x2.lt
              have x9 := x3.lt
              have x10 := rd_ltD x1
              obtain ⟨q2, hq2⟩ : ∃ q : OwnX, q = ⟨wn15.heap.size, wc16.heap.size, AR, cR, gA, cA, gB, cB⟩ := ⟨_, rfl⟩
              have hO2 : OwnOk q2 rs ls es wc16 := by subst hq2; exact ⟨x1, x2, x3, x4, ⟨x5, x8⟩, ⟨x6, x9⟩, fun b off h0 e => ⟨⟨(x7 b off h0 e).1, x10 b off h0 e⟩, (x7 b off h0 e).2⟩, Nat.le_refl _⟩
              have hql : q2.lo = wn15.heap.size := by rw [hq2]
              rw [show (Value.agg #[.slice AR rs.length cR, .int .i64 r, .slice (some ⟨gA, 0, none⟩) 8 cA, .slice (some ⟨gB, 0, none⟩) 64 cB]) = .agg (q2.cells rs.length r) from by rw [hq2]; rfl]
              have hl12 : q1.hi ≤ q2.lo := by rw [hql]; exact hO1.top
              have hB2_ : wc1.heap.size < q2.lo ∨ q2.hi ≤ wc1.heap.size := .inl (by rw [hql]; exact kB.lt)
              have hA2 : wn12.heap.size < q2.lo ∨ q2.hi ≤ wn12.heap.size := .inl (by rw [hql]; exact kA.lt)
              clear hq2 hql x1 x2 x3 x4 x5 x6 x7 x8 x9 x10
              replace kB := kB.to hb_wc16
              replace kA := kA.to hb_wc16
              replace hO1 := hO1.to hb_wc16
              replace hB := hB.trans (hb_wc16.mono hB.size)
              clear hb_wc16
              try simp only [Act.put, List.setIfInBounds_toArray, List.set_cons_zero, List.set_cons_succ]
              exact HK (wn12.heap.size, wc1.heap.size, q1, q2) _ ⟨kA, kB, hneAB, hgA, hgB, hO1, hO2, hl1, hl12, hA1, hA2, hB1_, hB2_, hB⟩
        · skip
          refine valD 4 (some 10) rfl rfl rfl (hal _ _ _ rfl) ⟨(kSr.to hB).alloc _, ?_⟩
          have kA := Bk.new wd #[.slice none 0 0, .int .i64 0, .slice none 0 0, .slice none 0 0] 28
          have hcN := balloc (Below.refl _ wd) (.cells #[.slice none 0 0, .int .i64 0, .slice none 0 0, .slice none 0 0] 28)
          have hgA : wr.heap.size ≤ wd.heap.size := hB.size
          generalize hw_wn17 : wd.alloc (.cells #[.slice none 0 0, .int .i64 0, .slice none 0 0, .slice none 0 0] 28) = wn17 at *
          replace hB := hB.trans (hcN.mono hB.size)
          clear hcN
          try simp only [Act.put, List.setIfInBounds_toArray, List.set_cons_zero, List.set_cons_succ]
          refine wpAnyH_all (rs := [1, 5]) (by kernel_rfl) (by simp) (fun i hiR => ?_)
          simp only [List.mem_cons, List.not_mem_nil, or_false] at hiR
          rcases hiR with rfl | rfl
          · skip
            refine callD 1 (some 83) rfl rfl rfl (f := 54) (args := #[.agg #[.slice A rs.length c, .int .i64 r, .slice L ls.length cl, .slice B es.length d]]) (run_call1 (vx := .agg #[.slice A rs.length c, .int .i64 r, .slice L ls.length cl, .slice B es.length d]) (x := .tmp 82) rfl rfl rfl (hcf _) _) (HOw.out _ (HV.out _ (hBw.trans ((show Below wr.heap.size wr wn17 from hB).mono (by have := hBw.size; omega))))) ?_
            rintro e wc18 ⟨AR, cR, gA, cA, gB, cB, rfl, x1, x2, x3, x4, x5, x6, x7, hb_wc18⟩
            refine ⟨_, rfl, (kSr.to hB).to hb_wc18, ?_⟩
            have x8 := x2.lt
            have x9 := x3.lt
            have x10 := rd_ltD x1
            obtain ⟨q1, hq1⟩ : ∃ q : OwnX, q = ⟨wn17.heap.size, wc18.heap.size, AR, cR, gA, cA, gB, cB⟩ := ⟨_, rfl⟩
            have hO1 : OwnOk q1 rs ls es wc18 := by subst hq1; exact ⟨x1, x2, x3, x4, ⟨x5, x8⟩, ⟨x6, x9⟩, fun b off h0 e => ⟨⟨(x7 b off h0 e).1, x10 b off h0 e⟩, (x7 b off h0 e).2⟩, Nat.le_refl _⟩
            have hql : q1.lo = wn17.heap.size := by rw [hq1]
            rw [show (Value.agg #[.slice AR rs.length cR, .int .i64 r, .slice (some ⟨gA, 0, none⟩) 8 cA, .slice (some ⟨gB, 0, none⟩) 64 cB]) = .agg (q1.cells rs.length r) from by rw [hq1]; rfl]
            have hl1 : wr.heap.size ≤ q1.lo := by rw [hql]; exact hB.size
            have hA1 : wd.heap.size < q1.lo ∨ q1.hi ≤ wd.heap.size := .inl (by rw [hql]; exact kA.lt)
            clear hq1 hql x1 x2 x3 x4 x5 x6 x7 x8 x9 x10
            replace kA := kA.to hb_wc18
            replace hB := hB.trans (hb_wc18.mono hB.size)
            clear hb_wc18
            try simp only [Act.put, List.setIfInBounds_toArray, List.set_cons_zero, List.set_cons_succ]
            refine wpAnyH_all (rs := [3, 5]) (by kernel_rfl) (by simp) (fun i hiR => ?_)
            simp only [List.mem_cons, List.not_mem_nil, or_false] at hiR
            rcases hiR with rfl | rfl
            · skip
              refine callD 3 (some 85) rfl rfl rfl (f := 54) (args := #[.agg #[.slice A rs.length c, .int .i64 r, .slice L ls.length cl, .slice B es.length d]]) (run_call1 (vx := .agg #[.slice A rs.length c, .int .i64 r, .slice L ls.length cl, .slice B es.length d]) (x := .tmp 84) rfl rfl rfl (hcf _) _) (HOw.out _ (HV.out _ (hBw.trans ((show Below wr.heap.size wr wc18 from hB).mono (by have := hBw.size; omega))))) ?_
              rintro e wc19 ⟨AR, cR, gA, cA, gB, cB, rfl, x1, x2, x3, x4, x5, x6, x7, hb_wc19⟩
              refine ⟨_, rfl, (kSr.to hB).to hb_wc19, ?_⟩
              have x8 := x2.lt
              have x9 := x3.lt
              have x10 := rd_ltD x1
              obtain ⟨q2, hq2⟩ : ∃ q : OwnX, q = ⟨wc18.heap.size, wc19.heap.size, AR, cR, gA, cA, gB, cB⟩ := ⟨_, rfl⟩
              have hO2 : OwnOk q2 rs ls es wc19 := by subst hq2; exact ⟨x1, x2, x3, x4, ⟨x5, x8⟩, ⟨x6, x9⟩, fun b off h0 e => ⟨⟨(x7 b off h0 e).1, x10 b off h0 e⟩, (x7 b off h0 e).2⟩, Nat.le_refl _⟩
              have hql : q2.lo = wc18.heap.size := by rw [hq2]
              rw [show (Value.agg #[.slice AR rs.length cR, .int .i64 r, .slice (some ⟨gA, 0, none⟩) 8 cA, .slice (some ⟨gB, 0, none⟩) 64 cB]) = .agg (q2.cells rs.length r) from by rw [hq2]; rfl]
              have hl12 : q1.hi ≤ q2.lo := by rw [hql]; exact hO1.top
              have hA2 : wd.heap.size < q2.lo ∨ q2.hi ≤ wd.heap.size := .inl (by rw [hql]; exact kA.lt)
              clear hq2 hql x1 x2 x3 x4 x5 x6 x7 x8 x9 x10
              replace kA := kA.to hb_wc19
              replace hO1 := hO1.to hb_wc19
              replace hB := hB.trans (hb_wc19.mono hB.size)
              clear hb_wc19
              try simp only [Act.put, List.setIfInBounds_toArray, List.set_cons_zero, List.set_cons_succ]
              refine wpAnyH_all (rs := [5]) (by kernel_rfl) (by simp) (fun i hiR => ?_)
              obtain rfl : i = 5 := by simpa using hiR
              refine valD 5 (some 11) rfl rfl rfl (hal _ _ _ rfl) ⟨(kSr.to hB).alloc _, ?_⟩
              have kB := Bk.new wc19 #[.slice none 0 0, .int .i64 0, .slice none 0 0, .slice none 0 0] 28
              have hcN := balloc (Below.refl _ wc19) (.cells #[.slice none 0 0, .int .i64 0, .slice none 0 0, .slice none 0 0] 28)
              have hgB : wr.heap.size ≤ wc19.heap.size := hB.size
              have hB1_ : wc19.heap.size < q1.lo ∨ q1.hi ≤ wc19.heap.size := .inr hO1.top
              have hB2_ : wc19.heap.size < q2.lo ∨ q2.hi ≤ wc19.heap.size := .inr hO2.top
              have hneAB : wd.heap.size ≠ wc19.heap.size := Nat.ne_of_lt kA.lt
              generalize hw_wn20 : wc19.alloc (.cells #[.slice none 0 0, .int .i64 0, .slice none 0 0, .slice none 0 0] 28) = wn20 at *
              replace kA := kA.to hcN
              replace hO1 := hO1.to hcN
              replace hO2 := hO2.to hcN
              replace hB := hB.trans (hcN.mono hB.size)
              clear hcN
              try simp only [Act.put, List.setIfInBounds_toArray, List.set_cons_zero, List.set_cons_succ]
              exact HK (wd.heap.size, wc19.heap.size, q1, q2) _ ⟨kA, kB, hneAB, hgA, hgB, hO1, hO2, hl1, hl12, hA1, hA2, hB1_, hB2_, hB⟩
            · skip
              refine valD 5 (some 11) rfl rfl rfl (hal _ _ _ rfl) ⟨(kSr.to hB).alloc _, ?_⟩
              have kB := Bk.new wc18 #[.slice none 0 0, .int .i64 0, .slice none 0 0, .slice none 0 0] 28
              have hcN := balloc (Below.refl _ wc18) (.cells #[.slice none 0 0, .int .i64 0, .slice none 0 0, .slice none 0 0] 28)
              have hgB : wr.heap.size ≤ wc18.heap.size := hB.size
              have hB1_ : wc18.heap.size < q1.lo ∨ q1.hi ≤ wc18.heap.size := .inr hO1.top
              have hneAB : wd.heap.size ≠ wc18.heap.size := Nat.ne_of_lt kA.lt
              generalize hw_wn21 : wc18.alloc (.cells #[.slice none 0 0, .int .i64 0, .slice none 0 0, .slice none 0 0] 28) = wn21 at *
              replace kA := kA.to hcN
              replace hO1 := hO1.to hcN
              replace hB := hB.trans (hcN.mono hB.size)
              clear hcN
              try simp only [Act.put, List.setIfInBounds_toArray, List.set_cons_zero, List.set_cons_succ]
              refine wpAnyH_all (rs := [3]) (by kernel_rfl) (by simp) (fun i hiR => ?_)
              obtain rfl : i = 3 := by simpa using hiR
              refine callD 3 (some 85) rfl rfl rfl (f := 54) (args := #[.agg #[.slice A rs.length c, .int .i64 r, .slice L ls.length cl, .slice B es.length d]]) (run_call1 (vx := .agg #[.slice A rs.length c, .int .i64 r, .slice L ls.length cl, .slice B es.length d]) (x := .tmp 84) rfl rfl rfl (hcf _) _) (HOw.out _ (HV.out _ (hBw.trans ((show Below wr.heap.size wr wn21 from hB).mono (by have := hBw.size; omega))))) ?_
              rintro e wc22 ⟨AR, cR, gA, cA, gB, cB, rfl, x1, x2, x3, x4, x5, x6, x7, hb_wc22⟩
              refine ⟨_, rfl, (kSr.to hB).to hb_wc22, ?_⟩
              have x8 := x2.lt
              have x9 := x3.lt
              have x10 := rd_ltD x1
              obtain ⟨q2, hq2⟩ : ∃ q : OwnX, q = ⟨wn21.heap.size, wc22.heap.size, AR, cR, gA, cA, gB, cB⟩ := ⟨_, rfl⟩
              have hO2 : OwnOk q2 rs ls es wc22 := by subst hq2; exact ⟨x1, x2, x3, x4, ⟨x5, x8⟩, ⟨x6, x9⟩, fun b off h0 e => ⟨⟨(x7 b off h0 e).1, x10 b off h0 e⟩, (x7 b off h0 e).2⟩, Nat.le_refl _⟩
              have hql : q2.lo = wn21.heap.size := by rw [hq2]
              rw [show (Value.agg #[.slice AR rs.length cR, .int .i64 r, .slice (some ⟨gA, 0, none⟩) 8 cA, .slice (some ⟨gB, 0, none⟩) 64 cB]) = .agg (q2.cells rs.length r) from by rw [hq2]; rfl]
              have hl12 : q1.hi ≤ q2.lo := by rw [hql]; exact hO1.top
              have hA2 : wd.heap.size < q2.lo ∨ q2.hi ≤ wd.heap.size := .inl (by rw [hql]; exact kA.lt)
              have hB2_ : wc18.heap.size < q2.lo ∨ q2.hi ≤ wc18.heap.size := .inl (by rw [hql]; exact kB.lt)
              clear hq2 hql x1 x2 x3 x4 x5 x6 x7 x8 x9 x10
              replace kA := kA.to hb_wc22
              replace kB := kB.to hb_wc22
              replace hO1 := hO1.to hb_wc22
              replace hB := hB.trans (hb_wc22.mono hB.size)
              clear hb_wc22
              try simp only [Act.put, List.setIfInBounds_toArray, List.set_cons_zero, List.set_cons_succ]
              exact HK (wd.heap.size, wc18.heap.size, q1, q2) _ ⟨kA, kB, hneAB, hgA, hgB, hO1, hO2, hl1, hl12, hA1, hA2, hB1_, hB2_, hB⟩
          · skip
            refine valD 5 (some 11) rfl rfl rfl (hal _ _ _ rfl) ⟨(kSr.to hB).alloc _, ?_⟩
            have kB := Bk.new wn17 #[.slice none 0 0, .int .i64 0, .slice none 0 0, .slice none 0 0] 28
            have hcN := balloc (Below.refl _ wn17) (.cells #[.slice none 0 0, .int .i64 0, .slice none 0 0, .slice none 0 0] 28)
            have hgB : wr.heap.size ≤ wn17.heap.size := hB.size
            have hneAB : wd.heap.size ≠ wn17.heap.size := Nat.ne_of_lt kA.lt
            generalize hw_wn23 : wn17.alloc (.cells #[.slice none 0 0, .int .i64 0, .slice none 0 0, .slice none 0 0] 28) = wn23 at *
            replace kA := kA.to hcN
            replace hB := hB.trans (hcN.mono hB.size)
            clear hcN
            try simp only [Act.put, List.setIfInBounds_toArray, List.set_cons_zero, List.set_cons_succ]
            refine wpAnyH_all (rs := [1]) (by kernel_rfl) (by simp) (fun i hiR => ?_)
            obtain rfl : i = 1 := by simpa using hiR
            refine callD 1 (some 83) rfl rfl rfl (f := 54) (args := #[.agg #[.slice A rs.length c, .int .i64 r, .slice L ls.length cl, .slice B es.length d]]) (run_call1 (vx := .agg #[.slice A rs.length c, .int .i64 r, .slice L ls.length cl, .slice B es.length d]) (x := .tmp 82) rfl rfl rfl (hcf _) _) (HOw.out _ (HV.out _ (hBw.trans ((show Below wr.heap.size wr wn23 from hB).mono (by have := hBw.size; omega))))) ?_
            rintro e wc24 ⟨AR, cR, gA, cA, gB, cB, rfl, x1, x2, x3, x4, x5, x6, x7, hb_wc24⟩
            refine ⟨_, rfl, (kSr.to hB).to hb_wc24, ?_⟩
            have x8 := x2.lt
            have x9 := x3.lt
            have x10 := rd_ltD x1
            obtain ⟨q1, hq1⟩ : ∃ q : OwnX, q = ⟨wn23.heap.size, wc24.heap.size, AR, cR, gA, cA, gB, cB⟩ := ⟨_, rfl⟩
            have hO1 : OwnOk q1 rs ls es wc24 := by subst hq1; exact ⟨x1, x2, x3, x4, ⟨x5, x8⟩, ⟨x6, x9⟩, fun b off h0 e => ⟨⟨(x7 b off h0 e).1, x10 b off h0 e⟩, (x7 b off h0 e).2⟩, Nat.le_refl _⟩
            have hql : q1.lo = wn23.heap.size := by rw [hq1]
            rw [show (Value.agg #[.slice AR rs.length cR, .int .i64 r, .slice (some ⟨gA, 0, none⟩) 8 cA, .slice (some ⟨gB, 0, none⟩) 64 cB]) = .agg (q1.cells rs.length r) from by rw [hq1]; rfl]
            have hl1 : wr.heap.size ≤ q1.lo := by rw [hql]; exact hB.size
            have hA1 : wd.heap.size < q1.lo ∨ q1.hi ≤ wd.heap.size := .inl (by rw [hql]; exact kA.lt)
            have hB1_ : wn17.heap.size < q1.lo ∨ q1.hi ≤ wn17.heap.size := .inl (by rw [hql]; exact kB.lt)
            clear hq1 hql x1 x2 x3 x4 x5 x6 x7 x8 x9 x10
            replace kA := kA.to hb_wc24
            replace kB := kB.to hb_wc24
            replace hB := hB.trans (hb_wc24.mono hB.size)
            clear hb_wc24
            try simp only [Act.put, List.setIfInBounds_toArray, List.set_cons_zero, List.set_cons_succ]
            refine wpAnyH_all (rs := [3]) (by kernel_rfl) (by simp) (fun i hiR => ?_)
            obtain rfl : i = 3 := by simpa using hiR
            refine callD 3 (some 85) rfl rfl rfl (f := 54) (args := #[.agg #[.slice A rs.length c, .int .i64 r, .slice L ls.length cl, .slice B es.length d]]) (run_call1 (vx := .agg #[.slice A rs.length c, .int .i64 r, .slice L ls.length cl, .slice B es.length d]) (x := .tmp 84) rfl rfl rfl (hcf _) _) (HOw.out _ (HV.out _ (hBw.trans ((show Below wr.heap.size wr wc24 from hB).mono (by have := hBw.size; omega))))) ?_
            rintro e wc25 ⟨AR, cR, gA, cA, gB, cB, rfl, x1, x2, x3, x4, x5, x6, x7, hb_wc25⟩
            refine ⟨_, rfl, (kSr.to hB).to hb_wc25, ?_⟩
            have x8 := x2.lt
            have x9 := x3.lt
            have x10 := rd_ltD x1
            obtain ⟨q2, hq2⟩ : ∃ q : OwnX, q = ⟨wc24.heap.size, wc25.heap.size, AR, cR, gA, cA, gB, cB⟩ := ⟨_, rfl⟩
            have hO2 : OwnOk q2 rs ls es wc25 := by subst hq2; exact ⟨x1, x2, x3, x4, ⟨x5, x8⟩, ⟨x6, x9⟩, fun b off h0 e => ⟨⟨(x7 b off h0 e).1, x10 b off h0 e⟩, (x7 b off h0 e).2⟩, Nat.le_refl _⟩
            have hql : q2.lo = wc24.heap.size := by rw [hq2]
            rw [show (Value.agg #[.slice AR rs.length cR, .int .i64 r, .slice (some ⟨gA, 0, none⟩) 8 cA, .slice (some ⟨gB, 0, none⟩) 64 cB]) = .agg (q2.cells rs.length r) from by rw [hq2]; rfl]
            have hl12 : q1.hi ≤ q2.lo := by rw [hql]; exact hO1.top
            have hA2 : wd.heap.size < q2.lo ∨ q2.hi ≤ wd.heap.size := .inl (by rw [hql]; exact kA.lt)
            have hB2_ : wn17.heap.size < q2.lo ∨ q2.hi ≤ wn17.heap.size := .inl (by rw [hql]; exact kB.lt)
            clear hq2 hql x1 x2 x3 x4 x5 x6 x7 x8 x9 x10
            replace kA := kA.to hb_wc25
            replace kB := kB.to hb_wc25
            replace hO1 := hO1.to hb_wc25
            replace hB := hB.trans (hb_wc25.mono hB.size)
            clear hb_wc25
            try simp only [Act.put, List.setIfInBounds_toArray, List.set_cons_zero, List.set_cons_succ]
            exact HK (wd.heap.size, wn17.heap.size, q1, q2) _ ⟨kA, kB, hneAB, hgA, hgB, hO1, hO2, hl1, hl12, hA1, hA2, hB1_, hB2_, hB⟩
        · skip
          refine valD 5 (some 11) rfl rfl rfl (hal _ _ _ rfl) ⟨(kSr.to hB).alloc _, ?_⟩
          have kB := Bk.new wd #[.slice none 0 0, .int .i64 0, .slice none 0 0, .slice none 0 0] 28
          have hcN := balloc (Below.refl _ wd) (.cells #[.slice none 0 0, .int .i64 0, .slice none 0 0, .slice none 0 0] 28)
          have hgB : wr.heap.size ≤ wd.heap.size := hB.size
          generalize hw_wn26 : wd.alloc (.cells #[.slice none 0 0, .int .i64 0, .slice none 0 0, .slice none 0 0] 28) = wn26 at *
          replace hB := hB.trans (hcN.mono hB.size)
          clear hcN
          try simp only [Act.put, List.setIfInBounds_toArray, List.set_cons_zero, List.set_cons_succ]
          refine wpAnyH_all (rs := [1, 4]) (by kernel_rfl) (by simp) (fun i hiR => ?_)
          simp only [List.mem_cons, List.not_mem_nil, or_false] at hiR
          rcases hiR with rfl | rfl
          · skip
            refine callD 1 (some 83) rfl rfl rfl (f := 54) (args := #[.agg #[.slice A rs.length c, .int .i64 r, .slice L ls.length cl, .slice B es.length d]]) (run_call1 (vx := .agg #[.slice A rs.length c, .int .i64 r, .slice L ls.length cl, .slice B es.length d]) (x := .tmp 82) rfl rfl rfl (hcf _) _) (HOw.out _ (HV.out _ (hBw.trans ((show Below wr.heap.size wr wn26 from hB).mono (by have := hBw.size; omega))))) ?_
            rintro e wc27 ⟨AR, cR, gA, cA, gB, cB, rfl, x1, x2, x3, x4, x5, x6, x7, hb_wc27⟩
            refine ⟨_, rfl, (kSr.to hB).to hb_wc27, ?_⟩
            have x8 := x2.lt
            have x9 := x3.lt
            have x10 := rd_ltD x1
            obtain ⟨q1, hq1⟩ : ∃ q : OwnX, q = ⟨wn26.heap.size, wc27.heap.size, AR, cR, gA, cA, gB, cB⟩ := ⟨_, rfl⟩
            have hO1 : OwnOk q1 rs ls es wc27 := by subst hq1; exact ⟨x1, x2, x3, x4, ⟨x5, x8⟩, ⟨x6, x9⟩, fun b off h0 e => ⟨⟨(x7 b off h0 e).1, x10 b off h0 e⟩, (x7 b off h0 e).2⟩, Nat.le_refl _⟩
            have hql : q1.lo = wn26.heap.size := by rw [hq1]
            rw [show (Value.agg #[.slice AR rs.length cR, .int .i64 r, .slice (some ⟨gA, 0, none⟩) 8 cA, .slice (some ⟨gB, 0, none⟩) 64 cB]) = .agg (q1.cells rs.length r) from by rw [hq1]; rfl]
            have hl1 : wr.heap.size ≤ q1.lo := by rw [hql]; exact hB.size
            have hB1_ : wd.heap.size < q1.lo ∨ q1.hi ≤ wd.heap.size := .inl (by rw [hql]; exact kB.lt)
            clear hq1 hql x1 x2 x3 x4 x5 x6 x7 x8 x9 x10
            replace kB := kB.to hb_wc27
            replace hB := hB.trans (hb_wc27.mono hB.size)
            clear hb_wc27
            try simp only [Act.put, List.setIfInBounds_toArray, List.set_cons_zero, List.set_cons_succ]
            refine wpAnyH_all (rs := [3, 4]) (by kernel_rfl) (by simp) (fun i hiR => ?_)
            simp only [List.mem_cons, List.not_mem_nil, or_false] at hiR
            rcases hiR with rfl | rfl
            · skip
              refine callD 3 (some 85) rfl rfl rfl (f := 54) (args := #[.agg #[.slice A rs.length c, .int .i64 r, .slice L ls.length cl, .slice B es.length d]]) (run_call1 (vx := .agg #[.slice A rs.length c, .int .i64 r, .slice L ls.length cl, .slice B es.length d]) (x := .tmp 84) rfl rfl rfl (hcf _) _) (HOw.out _ (HV.out _ (hBw.trans ((show Below wr.heap.size wr wc27 from hB).mono (by have := hBw.size; omega))))) ?_
              rintro e wc28 ⟨AR, cR, gA, cA, gB, cB, rfl, x1, x2, x3, x4, x5, x6, x7, hb_wc28⟩
              refine ⟨_, rfl, (kSr.to hB).to hb_wc28, ?_⟩
              have x8 := x2.lt
              have x9 := x3.lt
              have x10 := rd_ltD x1
              obtain ⟨q2, hq2⟩ : ∃ q : OwnX, q = ⟨wc27.heap.size, wc28.heap.size, AR, cR, gA, cA, gB, cB⟩ := ⟨_, rfl⟩
              have hO2 : OwnOk q2 rs ls es wc28 := by subst hq2; exact ⟨x1, x2, x3, x4, ⟨x5, x8⟩, ⟨x6, x9⟩, fun b off h0 e => ⟨⟨(x7 b off h0 e).1, x10 b off h0 e⟩, (x7 b off h0 e).2⟩, Nat.le_refl _⟩
              have hql : q2.lo = wc27.heap.size := by rw [hq2]
              rw [show (Value.agg #[.slice AR rs.length cR, .int .i64 r, .slice (some ⟨gA, 0, none⟩) 8 cA, .slice (some ⟨gB, 0, none⟩) 64 cB]) = .agg (q2.cells rs.length r) from by rw [hq2]; rfl]
              have hl12 : q1.hi ≤ q2.lo := by rw [hql]; exact hO1.top
              have hB2_ : wd.heap.size < q2.lo ∨ q2.hi ≤ wd.heap.size := .inl (by rw [hql]; exact kB.lt)
              clear hq2 hql x1 x2 x3 x4 x5 x6 x7 x8 x9 x10
              replace kB := kB.to hb_wc28
              replace hO1 := hO1.to hb_wc28
              replace hB := hB.trans (hb_wc28.mono hB.size)
              clear hb_wc28
              try simp only [Act.put, List.setIfInBounds_toArray, List.set_cons_zero, List.set_cons_succ]
              refine wpAnyH_all (rs := [4]) (by kernel_rfl) (by simp) (fun i hiR => ?_)
              obtain rfl : i = 4 := by simpa using hiR
              refine valD 4 (some 10) rfl rfl rfl (hal _ _ _ rfl) ⟨(kSr.to hB).alloc _, ?_⟩
              have kA := Bk.new wc28 #[.slice none 0 0, .int .i64 0, .slice none 0 0, .slice none 0 0] 28
              have hcN := balloc (Below.refl _ wc28) (.cells #[.slice none 0 0, .int .i64 0, .slice none 0 0, .slice none 0 0] 28)
              have hgA : wr.heap.size ≤ wc28.heap.size := hB.size
              have hA1 : wc28.heap.size < q1.lo ∨ q1.hi ≤ wc28.heap.size := .inr hO1.top
              have hA2 : wc28.heap.size < q2.lo ∨ q2.hi ≤ wc28.heap.size := .inr hO2.top
              have hneAB : wc28.heap.size ≠ wd.heap.size := (Nat.ne_of_lt kB.lt).symm
              generalize hw_wn29 : wc28.alloc (.cells #[.slice none 0 0, .int .i64 0, .slice none 0 0, .slice none 0 0] 28) = wn29 at *
              replace kB := kB.to hcN
              replace hO1 := hO1.to hcN
              replace hO2 := hO2.to hcN
              replace hB := hB.trans (hcN.mono hB.size)
              clear hcN
              try simp only [Act.put, List.setIfInBounds_toArray, List.set_cons_zero, List.set_cons_succ]
              exact HK (wc28.heap.size, wd.heap.size, q1, q2) _ ⟨kA, kB, hneAB, hgA, hgB, hO1, hO2, hl1, hl12, hA1, hA2, hB1_, hB2_, hB⟩
            · skip
              refine valD 4 (some 10) rfl rfl rfl (hal _ _ _ rfl) ⟨(kSr.to hB).alloc _, ?_⟩
              have kA := Bk.new wc27 #[.slice none 0 0, .int .i64 0, .slice none 0 0, .slice none 0 0] 28
              have hcN := balloc (Below.refl _ wc27) (.cells #[.slice none 0 0, .int .i64 0, .slice none 0 0, .slice none 0 0] 28)
              have hgA : wr.heap.size ≤ wc27.heap.size := hB.size
              have hA1 : wc27.heap.size < q1.lo ∨ q1.hi ≤ wc27.heap.size := .inr hO1.top
              have hneAB : wc27.heap.size ≠ wd.heap.size := (Nat.ne_of_lt kB.lt).symm
              generalize hw_wn30 : wc27.alloc (.cells #[.slice none 0 0, .int .i64 0, .slice none 0 0, .slice none 0 0] 28) = wn30 at *
              replace kB := kB.to hcN
              replace hO1 := hO1.to hcN
              replace hB := hB.trans (hcN.mono hB.size)
              clear hcN
              try simp only [Act.put, List.setIfInBounds_toArray, List.set_cons_zero, List.set_cons_succ]
              refine wpAnyH_all (rs := [3]) (by kernel_rfl) (by simp) (fun i hiR => ?_)
              obtain rfl : i = 3 := by simpa using hiR
              refine callD 3 (some 85) rfl rfl rfl (f := 54) (args := #[.agg #[.slice A rs.length c, .int .i64 r, .slice L ls.length cl, .slice B es.length d]]) (run_call1 (vx := .agg #[.slice A rs.length c, .int .i64 r, .slice L ls.length cl, .slice B es.length d]) (x := .tmp 84) rfl rfl rfl (hcf _) _) (HOw.out _ (HV.out _ (hBw.trans ((show Below wr.heap.size wr wn30 from hB).mono (by have := hBw.size; omega))))) ?_
              rintro e wc31 ⟨AR, cR, gA, cA, gB, cB, rfl, x1, x2, x3, x4, x5, x6, x7, hb_wc31⟩
              refine ⟨_, rfl, (kSr.to hB).to hb_wc31, ?_⟩
              have x8 := x2.lt
              have x9 := x3.lt
              have x10 := rd_ltD x1
              obtain ⟨q2, hq2⟩ : ∃ q : OwnX, q = ⟨wn30.heap.size, wc31.heap.size, AR, cR, gA, cA, gB, cB⟩ := ⟨_, rfl⟩
              have hO2 : OwnOk q2 rs ls es wc31 := by subst hq2; exact ⟨x1, x2, x3, x4, ⟨x5, x8⟩, ⟨x6, x9⟩, fun b off h0 e => ⟨⟨(x7 b off h0 e).1, x10 b off h0 e⟩, (x7 b off h0 e).2⟩, Nat.le_refl _⟩
              have hql : q2.lo = wn30.heap.size := by rw [hq2]
              rw [show (Value.agg #[.slice AR rs.length cR, .int .i64 r, .slice (some ⟨gA, 0, none⟩) 8 cA, .slice (some ⟨gB, 0, none⟩) 64 cB]) = .agg (q2.cells rs.length r) from by rw [hq2]; rfl]
              have hl12 : q1.hi ≤ q2.lo := by rw [hql]; exact hO1.top
              have hB2_ : wd.heap.size < q2.lo ∨ q2.hi ≤ wd.heap.size := .inl (by rw [hql]; exact kB.lt)
              have hA2 : wc27.heap.size < q2.lo ∨ q2.hi ≤ wc27.heap.size := .inl (by rw [hql]; exact kA.lt)
              clear hq2 hql x1 x2 x3 x4 x5 x6 x7 x8 x9 x10
              replace kB := kB.to hb_wc31
              replace kA := kA.to hb_wc31
              replace hO1 := hO1.to hb_wc31
              replace hB := hB.trans (hb_wc31.mono hB.size)
              clear hb_wc31
              try simp only [Act.put, List.setIfInBounds_toArray, List.set_cons_zero, List.set_cons_succ]
              exact HK (wc27.heap.size, wd.heap.size, q1, q2) _ ⟨kA, kB, hneAB, hgA, hgB, hO1, hO2, hl1, hl12, hA1, hA2, hB1_, hB2_, hB⟩
          · skip
            refine valD 4 (some 10) rfl rfl rfl (hal _ _ _ rfl) ⟨(kSr.to hB).alloc _, ?_⟩
            have kA := Bk.new wn26 #[.slice none 0 0, .int .i64 0, .slice none 0 0, .slice none 0 0] 28
            have hcN := balloc (Below.refl _ wn26) (.cells #[.slice none 0 0, .int .i64 0, .slice none 0 0, .slice none 0 0] 28)
            have hgA : wr.heap.size ≤ wn26.heap.size := hB.size
            have hneAB : wn26.heap.size ≠ wd.heap.size := (Nat.ne_of_lt kB.lt).symm
            generalize hw_wn32 : wn26.alloc (.cells #[.slice none 0 0, .int .i64 0, .slice none 0 0, .slice none 0 0] 28) = wn32 at *
            replace kB := kB.to hcN
            replace hB := hB.trans (hcN.mono hB.size)
            clear hcN
            try simp only [Act.put, List.setIfInBounds_toArray, List.set_cons_zero, List.set_cons_succ]
            refine wpAnyH_all (rs := [1]) (by kernel_rfl) (by simp) (fun i hiR => ?_)
            obtain rfl : i = 1 := by simpa using hiR
            refine callD 1 (some 83) rfl rfl rfl (f := 54) (args := #[.agg #[.slice A rs.length c, .int .i64 r, .slice L ls.length cl, .slice B es.length d]]) (run_call1 (vx := .agg #[.slice A rs.length c, .int .i64 r, .slice L ls.length cl, .slice B es.length d]) (x := .tmp 82) rfl rfl rfl (hcf _) _) (HOw.out _ (HV.out _ (hBw.trans ((show Below wr.heap.size wr wn32 from hB).mono (by have := hBw.size; omega))))) ?_
            rintro e wc33 ⟨AR, cR, gA, cA, gB, cB, rfl, x1, x2, x3, x4, x5, x6, x7, hb_wc33⟩
            refine ⟨_, rfl, (kSr.to hB).to hb_wc33, ?_⟩
            have x8 := x2.lt
            have x9 := x3.lt
            have x10 := rd_ltD x1
            obtain ⟨q1, hq1⟩ : ∃ q : OwnX, q = ⟨wn32.heap.size, wc33.heap.size, AR, cR, gA, cA, gB, cB⟩ := ⟨_, rfl⟩
            have hO1 : OwnOk q1 rs ls es wc33 := by subst hq1; exact ⟨x1, x2, x3, x4, ⟨x5, x8⟩, ⟨x6, x9⟩, fun b off h0 e => ⟨⟨(x7 b off h0 e).1, x10 b off h0 e⟩, (x7 b off h0 e).2⟩, Nat.le_refl _⟩
            have hql : q1.lo = wn32.heap.size := by rw [hq1]
            rw [show (Value.agg #[.slice AR rs.length cR, .int .i64 r, .slice (some ⟨gA, 0, none⟩) 8 cA, .slice (some ⟨gB, 0, none⟩) 64 cB]) = .agg (q1.cells rs.length r) from by rw [hq1]; rfl]
            have hl1 : wr.heap.size ≤ q1.lo := by rw [hql]; exact hB.size
            have hB1_ : wd.heap.size < q1.lo ∨ q1.hi ≤ wd.heap.size := .inl (by rw [hql]; exact kB.lt)
            have hA1 : wn26.heap.size < q1.lo ∨ q1.hi ≤ wn26.heap.size := .inl (by rw [hql]; exact kA.lt)
            clear hq1 hql x1 x2 x3 x4 x5 x6 x7 x8 x9 x10
            replace kB := kB.to hb_wc33
            replace kA := kA.to hb_wc33
            replace hB := hB.trans (hb_wc33.mono hB.size)
            clear hb_wc33
            try simp only [Act.put, List.setIfInBounds_toArray, List.set_cons_zero, List.set_cons_succ]
            refine wpAnyH_all (rs := [3]) (by kernel_rfl) (by simp) (fun i hiR => ?_)
            obtain rfl : i = 3 := by simpa using hiR
            refine callD 3 (some 85) rfl rfl rfl (f := 54) (args := #[.agg #[.slice A rs.length c, .int .i64 r, .slice L ls.length cl, .slice B es.length d]]) (run_call1 (vx := .agg #[.slice A rs.length c, .int .i64 r, .slice L ls.length cl, .slice B es.length d]) (x := .tmp 84) rfl rfl rfl (hcf _) _) (HOw.out _ (HV.out _ (hBw.trans ((show Below wr.heap.size wr wc33 from hB).mono (by have := hBw.size; omega))))) ?_
            rintro e wc34 ⟨AR, cR, gA, cA, gB, cB, rfl, x1, x2, x3, x4, x5, x6, x7, hb_wc34⟩
            refine ⟨_, rfl, (kSr.to hB).to hb_wc34, ?_⟩
            have x8 := x2.lt
            have x9 := x3.lt
            have x10 := rd_ltD x1
            obtain ⟨q2, hq2⟩ : ∃ q : OwnX, q = ⟨wc33.heap.size, wc34.heap.size, AR, cR, gA, cA, gB, cB⟩ := ⟨_, rfl⟩
            have hO2 : OwnOk q2 rs ls es wc34 := by subst hq2; exact ⟨x1, x2, x3, x4, ⟨x5, x8⟩, ⟨x6, x9⟩, fun b off h0 e => ⟨⟨(x7 b off h0 e).1, x10 b off h0 e⟩, (x7 b off h0 e).2⟩, Nat.le_refl _⟩
            have hql : q2.lo = wc33.heap.size := by rw [hq2]
            rw [show (Value.agg #[.slice AR rs.length cR, .int .i64 r, .slice (some ⟨gA, 0, none⟩) 8 cA, .slice (some ⟨gB, 0, none⟩) 64 cB]) = .agg (q2.cells rs.length r) from by rw [hq2]; rfl]
            have hl12 : q1.hi ≤ q2.lo := by rw [hql]; exact hO1.top
            have hB2_ : wd.heap.size < q2.lo ∨ q2.hi ≤ wd.heap.size := .inl (by rw [hql]; exact kB.lt)
            have hA2 : wn26.heap.size < q2.lo ∨ q2.hi ≤ wn26.heap.size := .inl (by rw [hql]; exact kA.lt)
            clear hq2 hql x1 x2 x3 x4 x5 x6 x7 x8 x9 x10
            replace kB := kB.to hb_wc34
            replace kA := kA.to hb_wc34
            replace hO1 := hO1.to hb_wc34
            replace hB := hB.trans (hb_wc34.mono hB.size)
            clear hb_wc34
            try simp only [Act.put, List.setIfInBounds_toArray, List.set_cons_zero, List.set_cons_succ]
            exact HK (wn26.heap.size, wd.heap.size, q1, q2) _ ⟨kA, kB, hneAB, hgA, hgB, hO1, hO2, hl1, hl12, hA1, hA2, hB1_, hB2_, hB⟩
      clear hcf hal
      rintro ⟨gP, gC, ⟨lo1, hi1, ARP, cRP, gAP, cAP, gBP, cBP⟩, ⟨lo2, hi2, ARC, cRC, gAC, cAC, gBC, cBC⟩⟩ W ⟨kP, kC, hneAB, hgP, hgC, hO1, hO2, hl1, hl12, hA1, hA2, hB1_, hB2_, hB⟩
      simp only [OwnX.cells] at kP kC hneAB hgP hgC hl1 hl12 hA1 hA2 hB1_ hB2_ ⊢
      simp only [Act.put, List.setIfInBounds_toArray, List.set_cons_zero, List.set_cons_succ]
      have k9 := kSr.to hB
      refine wpAnyH_all (rs := [6]) (by kernel_rfl) (by simp) (fun i hiR => ?_)
      obtain rfl : i = 6 := by simpa using hiR
      have kN := kP.row #[.slice ARP rs.length cRP, .int .i64 r, .slice (some ⟨gAP, 0, none⟩) 8 cAP, .slice (some ⟨gBP, 0, none⟩) 64 cBP]
      have kO := kC.rowfar hneAB.symm #[.slice ARP rs.length cRP, .int .i64 r, .slice (some ⟨gAP, 0, none⟩) 8 cAP, .slice (some ⟨gBP, 0, none⟩) 64 cBP]
      have hBn := below_row hB hgP #[.slice ARP rs.length cRP, .int .i64 r, .slice (some ⟨gAP, 0, none⟩) 8 cAP, .slice (some ⟨gBP, 0, none⟩) 64 cBP]
      have nP := hO1.rowfar hA1 #[.slice ARP rs.length cRP, .int .i64 r, .slice (some ⟨gAP, 0, none⟩) 8 cAP, .slice (some ⟨gBP, 0, none⟩) 64 cBP]
      have nC := hO2.rowfar hA2 #[.slice ARP rs.length cRP, .int .i64 r, .slice (some ⟨gAP, 0, none⟩) 8 cAP, .slice (some ⟨gBP, 0, none⟩) 64 cBP]
      have n9 := k9.rowfar (show w.heap.size ≠ gP by omega) #[.slice ARP rs.length cRP, .int .i64 r, .slice (some ⟨gAP, 0, none⟩) 8 cAP, .slice (some ⟨gBP, 0, none⟩) 64 cBP]
      refine storeD 6 rfl rfl rfl 28 _ _ rfl gP #[.slice ARP rs.length cRP, .int .i64 r, .slice (some ⟨gAP, 0, none⟩) 8 cAP, .slice (some ⟨gBP, 0, none⟩) 64 cBP] rfl rfl 28 _ kP (by kernel_rfl) rfl (all_oneCell_toArray (fun v hv => by simp at hv; rcases hv with rfl | rfl | rfl | rfl <;> rfl)) ⟨n9, ?_⟩
      generalize World.setRow W gP #[.slice ARP rs.length cRP, .int .i64 r, .slice (some ⟨gAP, 0, none⟩) 8 cAP, .slice (some ⟨gBP, 0, none⟩) 64 cBP] = wz35 at *
      replace kP := kN
      replace kC := kO
      replace hB := hBn
      replace hO1 := nP
      replace hO2 := nC
      replace k9 := n9
      clear kN kO hBn nP nC n9
      try simp only [Act.put, List.setIfInBounds_toArray, List.set_cons_zero, List.set_cons_succ]
      refine wpAnyH_all (rs := [7]) (by kernel_rfl) (by simp) (fun i hiR => ?_)
      obtain rfl : i = 7 := by simpa using hiR
      have kN := kC.row #[.slice ARC rs.length cRC, .int .i64 r, .slice (some ⟨gAC, 0, none⟩) 8 cAC, .slice (some ⟨gBC, 0, none⟩) 64 cBC]
      have kO := kP.rowfar hneAB #[.slice ARC rs.length cRC, .int .i64 r, .slice (some ⟨gAC, 0, none⟩) 8 cAC, .slice (some ⟨gBC, 0, none⟩) 64 cBC]
      have hBn := below_row hB hgC #[.slice ARC rs.length cRC, .int .i64 r, .slice (some ⟨gAC, 0, none⟩) 8 cAC, .slice (some ⟨gBC, 0, none⟩) 64 cBC]
      have nP := hO1.rowfar hB1_ #[.slice ARC rs.length cRC, .int .i64 r, .slice (some ⟨gAC, 0, none⟩) 8 cAC, .slice (some ⟨gBC, 0, none⟩) 64 cBC]
      have nC := hO2.rowfar hB2_ #[.slice ARC rs.length cRC, .int .i64 r, .slice (some ⟨gAC, 0, none⟩) 8 cAC, .slice (some ⟨gBC, 0, none⟩) 64 cBC]
      have n9 := k9.rowfar (show w.heap.size ≠ gC by omega) #[.slice ARC rs.length cRC, .int .i64 r, .slice (some ⟨gAC, 0, none⟩) 8 cAC, .slice (some ⟨gBC, 0, none⟩) 64 cBC]
      refine storeD 7 rfl rfl rfl 28 _ _ rfl gC #[.slice ARC rs.length cRC, .int .i64 r, .slice (some ⟨gAC, 0, none⟩) 8 cAC, .slice (some ⟨gBC, 0, none⟩) 64 cBC] rfl rfl 28 _ kC (by kernel_rfl) rfl (all_oneCell_toArray (fun v hv => by simp at hv; rcases hv with rfl | rfl | rfl | rfl <;> rfl)) ⟨n9, ?_⟩
      generalize World.setRow wz35 gC #[.slice ARC rs.length cRC, .int .i64 r, .slice (some ⟨gAC, 0, none⟩) 8 cAC, .slice (some ⟨gBC, 0, none⟩) 64 cBC] = wz36 at *
      replace kC := kN
      replace kP := kO
      replace hB := hBn
      replace hO1 := nP
      replace hO2 := nC
      replace k9 := n9
      clear kN kO hBn nP nC n9
      try simp only [Act.put, List.setIfInBounds_toArray, List.set_cons_zero, List.set_cons_succ]
      refine wpAnyH_done (by kernel_rfl) ?_ _
      have kRw := kRr.to hB
      have kHw := kHr.to hB
      have hBW := bnext hBw hB
      clear kRr kHr kSr hBw hu hd hw_d
      simp only [Exit.then]
      try go_at_K
      try go_frame
      have hck0 := HCell.out _ hBW 0 h0
      rw [Nat.add_zero] at hck0
      generalize hf0 : fr.getD 0 0 = f0 at *
      obtain ⟨cC, fC, lC⟩ := kC.facts
      go_upto_region 20 with fail
      clear cC fC lC
      replace k9 := k9.far (p := ⟨gC, 1, none⟩) (by show w.heap.size ≠ gC; omega) (.int .i64 f0)
      replace kRw := kRw.far (p := ⟨gC, 1, none⟩) (by show w.heap.size + 1 ≠ gC; omega) (.int .i64 f0)
      replace kHw := kHw.far (p := ⟨gC, 1, none⟩) (by show w.heap.size + 1 + 1 ≠ gC; omega) (.int .i64 f0)
      replace kP := kP.far (p := ⟨gC, 1, none⟩) (by show gP ≠ gC; omega) (.int .i64 f0)
      replace hO1 := hO1.far (p := ⟨gC, 1, none⟩) hB1_ (.int .i64 f0)
      replace hO2 := hO2.far (p := ⟨gC, 1, none⟩) hB2_ (.int .i64 f0)
      replace hBW := hBW.setCell (p := ⟨gC, 1, none⟩) (by show w.heap.size ≤ gC; omega) (.int .i64 f0)
      replace kC := kC.put 1 (.int .i64 f0)
      simp only [List.setIfInBounds_toArray, List.set_cons_succ, List.set_cons_zero] at kC
      generalize hw5 : wz36.setCell ⟨gC, 1, none⟩ (.int .i64 f0) = w5 at *
      clear hw5
      obtain ⟨rRP, rAP, rBP, neP, lAP, lBP, lRP, tP⟩ := hO1
      obtain ⟨rRC, rAC, rBC, neC, lAC, lBC, lRC, tC⟩ := hO2
      simp only at rRP rAP rBP neP lAP lBP lRP tP rRC rAC rBC neC lAC lBC lRC tC hl1 hl12 hA1 hA2 hB1_ hB2_
      have hll := Lib.hid (show ∀ b, gAC = b → lo2 ≤ b from fun b e => by omega)
      rw [← miL_zero (fr := fr) H8.out] at rAC
      have hsW := hBW.size
      have h3 : w.heap.size + 2 < lo1 := by omega
      have h3P : w.heap.size + 2 < gP := by omega
      have h3C : w.heap.size + 2 < gC := by omega
      clear hB l9 l9R l9H
      go_wp2_with fail
      go_loopw [12, 13] (fun n i wx => RfkL fr ls gAC cAC w5 n i wx) (fun _ i _ => 8 - (intOf i).toNat)
      case atStart => exact ⟨0, by omega, rfl, by simp [frmL], rAC, But.refl _ _⟩
      case round =>
        clear rAC
        obtain ⟨k, hk, rfl, rfl, hrow, hBx⟩ := hrel
        have hBwx := hBW.trans (hBx.toBelow (B := w.heap.size) (by omega) (fun b hb e => by omega))
        by_cases hlt : k < 8
        · have hkI : (k : Int) < 8 := by omega
          have hkN : (0 : Int) ≤ k := by omega
          have kCr := kC.but hBx (show ¬ gC = gAC by omega)
          have hcl : wr.cell? ⟨gAC, k, none⟩ = some (.int .i64 (ls.getD k 0)) := by
            rw [(hrow.cell hlt).1, ← miL_at fr ls hlt]
            have := miL_len fr ls k
            simp [iw, List.getD_eq_getElem?_getD, show k < (miL fr ls k).length by omega]
          have hfz := (hrow.cell hlt).2
          have hge := HLf.out k hlt
          have hcs := cnt_succ ls H8.out k hlt
          have HMn := Lib.hid (fun h => miL_no (fr := fr) (ls := ls) hlt h)
          have HMy := Lib.hid (fun h => miL_yes (fr := fr) (ls := ls) hlt h)
          have HIk := Lib.hid (fun h => (HIx.out k hlt h).2)
          have hfrl := frmL_len ls k
          have HRow := Lib.hid hrow
          generalize ls.getD k 0 = z at *
          by_cases hzn : z = -1
          · have d1 : decide (0 ≤ z) = false := decide_eq_false (by omega)
            have d2 : ¬ 0 ≤ z := by omega
            have HM2 := Lib.hid (HMn.out hzn)
            have HC2 : Hid ((frmL ls (k + 1)).length = (frmL ls k).length) := Lib.hid (by rw [hcs, if_pos hzn, Nat.add_zero])
            clear hcs hzn hrow
            obtain ⟨cC, fC, lC⟩ := kCr.facts
            go_wp2_with fail
            go_roundw
            case rel => exact ⟨k + 1, by omega, by go_num, by rw [HC2.out], by rw [HM2.out]; exact HRow.out, hBx⟩
            case measure => simp [intOf]; omega
          · have d1 : decide (0 ≤ z) = true := decide_eq_true (by omega)
            have d2 : 0 ≤ z := by omega
            have HM2 := Lib.hid (HMy.out hzn)
            have HC2 : Hid ((frmL ls (k + 1)).length = (frmL ls k).length + 1) := Lib.hid (by rw [hcs, if_neg hzn])
            have hmN := HIk.out hzn
            rw [← HNN.out] at hmN
            generalize hm : 1 + (frmL ls k).length = m at *
            have HC3 : Hid (1 + (frmL ls (k + 1)).length = m + 1) := Lib.hid (by rw [HC2.out]; omega)
            have hcm := HCell.out wr hBwx m hmN
            generalize fr.getD m 0 = y at *
            have hmI : (m : Int) < N := by omega
            have hmI0 : (0 : Int) ≤ m := by omega
            have hm100 : (m : Int) ≤ 100 := by omega
            clear hcs hzn hm HC2 HIk HMn HMy hrow
            obtain ⟨cC, fC, lC⟩ := kCr.facts
            go_upto_region 25 with fail
            have s2 := kCr.cell 2
            simp at s2
            have fG : wr.drew.frozen? ⟨gAC, k, none⟩ = false := hfz
            have hy6 : wr.drew.cell? ⟨gAC, k, none⟩ = some (.int .i64 z) := hcl
            have lG : gAC < wr.drew.heap.size := HRow.out.lt
            clear cC fC lC hcl hfz
            go_region_held3 (fun w' => w'.cell? ⟨gC, 2, none⟩ = some (.slice (some ⟨gAC, 0, none⟩) 8 cAC) ∧ w'.cell? ⟨gF, oF + m, none⟩ = some (.int .i64 y))
              (refine ⟨?_, ?_⟩ <;> (repeat (with_reducible first | exact s2 | exact hcm | refine cell_drew ?_ | refine cell_far ?_ (by show _ ≠ _; simp only; omega) _)))
              (fail)
            all_goals
              have hR2 := (RowO.to HRow.out (below_drew (Below.refl _ _))).put k (.int .i64 y)
              rw [iw_set1] at hR2
              have hB2 := (hBx.below (below_drew (Below.refl _ _))).setCell (p := ⟨gAC, k, none⟩) (.inl rfl) (.int .i64 y)
              have HR2 := Lib.hid hR2
              clear hR2
              go_wp2_with fail
              go_roundw
              case rel => exact ⟨k + 1, by omega, by go_num, by rw [HC3.out]; go_num, by rw [HM2.out]; exact HR2.out, hB2⟩
              case measure => simp [intOf]; omega
        · obtain rfl : k = 8 := by omega
          rw [miL_all] at hrow
          replace k9 := k9.but hBx (show ¬ w.heap.size = gAC by omega)
          replace kRw := kRw.but hBx (show ¬ w.heap.size + 1 = gAC by omega)
          replace kHw := kHw.but hBx (show ¬ w.heap.size + 1 + 1 = gAC by omega)
          replace kP := kP.but hBx (show ¬ gP = gAC by omega)
          replace kC := kC.but hBx (show ¬ gC = gAC by omega)
          replace rRP := rRP.but hBx (fun b off h0 e => by have := (lRP b off h0 e).1; omega)
          replace rAP := rAP.but hBx (show ¬ gAP = gAC by omega)
          replace rBP := rBP.but hBx (show ¬ gBP = gAC by omega)
          replace rRC := rRC.but hBx (fun b off h0 e => by have := (lRC b off h0 e).2.1; omega)
          replace rBC := rBC.but hBx (show ¬ gBC = gAC from fun e => neC e.symm)
          have hz9 := hBx.size
          replace hBW := hBwx
          rw [← mapK_zero parW es] at rBP
          rw [← mapK_zero chiW es] at rBC
          clear hBwx hBx hlt
          go_wp2_with fail
          go_loopw [14] (fun i wx => RfkP es gBP cBP gBC cBC wr i wx) (fun i _ => 64 - (intOf i).toNat)
          case atStart => exact ⟨0, by omega, rfl, rBP, rBC, But.refl _ _⟩
          case round =>
            clear rBP rBC
            obtain ⟨k, hk, rfl, hrP, hrC, hBy⟩ := hrel
            have hszB := hBy.size
            have hBwx := hBW.trans (hBy.toBelow (B := w.heap.size) (by omega) (fun b hb e => by omega))
            by_cases hlt : k < 64
            · have hkI : (k : Int) < 64 := by omega
              have hkN : (0 : Int) ≤ k := by omega
              have k9r := k9.but hBy (show ¬ (w.heap.size = gBP ∨ w.heap.size = gBC) by omega)
              have kPr := kP.but hBy (show ¬ (gP = gBP ∨ gP = gBC) by omega)
              have kCr := kC.but hBy (show ¬ (gC = gBP ∨ gC = gBC) by omega)
              rcases hee : entP es k with ⟨k1, n1, a1, b1, d1⟩
              have HE := Lib.hid (HEt.out _ (HV.out _ hBwx) k hlt _ _ _ _ _ hee)
              have hun : unpR (es.getD k 0) = ((k1, n1, a1, b1, d1), 0) := Prod.ext hee (HUn.out k hlt)
              have HMP := Lib.hid (mapK_succ parW (es := es) (k := k) (by rw [H64.out]; exact hlt))
              have HMC := Lib.hid (mapK_succ chiW (es := es) (k := k) (by rw [H64.out]; exact hlt))
              have HSfP := Lib.hid (mapK_self parW (es := es) (k := k) (by rw [H64.out]; exact hlt))
              have HSfC := Lib.hid (mapK_self chiW (es := es) (k := k) (by rw [H64.out]; exact hlt))
              have HmP := Lib.hid (mapK_len parW es k)
              generalize es.getD k 0 = x at *
              have HUx := Lib.hid hun
              have HrP := Lib.hid hrP
              have HrC := Lib.hid hrC
              have lP := kPr.lt
              have lC := kCr.lt
              have lrP := hrP.lt
              have lrC := hrC.lt
              clear hee hun hrP hrC
              obtain ⟨cS, fS, lS⟩ := k9r.facts
              go_wp2_with fail
              refine HE.out.mono ?_
              rintro e w7 ⟨rfl, hb7⟩
              clear cS fS lS HE
              have hs7 := hb7.size
              have kX := Bk.new w7 #[.int .i64 k1, .int .i64 n1, .bool a1, .bool b1, .bool d1] 52
              have hcE := balloc hb7 (.cells #[.int .i64 k1, .int .i64 n1, .bool a1, .bool b1, .bool d1] 52)
              have kP8 := kPr.to hcE
              have kC8 := kCr.to hcE
              have hrP8 := RowO.to HrP.out hcE
              have hrC8 := RowO.to HrC.out hcE
              have hBy8 := hBy.below hcE
              clear HrP HrC
              go_upto_region 31 with fail
              generalize w7.alloc (.cells #[.int .i64 k1, .int .i64 n1, .bool a1, .bool b1, .bool d1] 52) = w8 at *
              obtain ⟨X, hX⟩ : ∃ X, X = w7.heap.size := ⟨_, rfl⟩
              rw [← hX] at kX hs7 ⊢
              clear hX hcE hb7 kPr kCr k9r
              by_cases hk1 : k1 = 1
              case neg =>
                have hd : (k1 == 1) = false := by simpa using hk1
                have HW1 := Lib.hid (par_no HUx.out hk1)
                have HW2 := Lib.hid (chi_no HUx.out hk1)
                have HR1 := Lib.hid hrP8
                have HR2 := Lib.hid hrC8
                clear hk1 hrP8 hrC8
                obtain ⟨cX, fX, lX⟩ := kX.facts
                go_wp2_with fail
                go_roundw
                case rel => first | exact ⟨k + 1, by omega, by go_num, by rw [HMP.out, HW1.out, HSfP.out]; exact HR1.out, by rw [HMC.out, HW2.out, HSfC.out]; exact HR2.out, hBy8⟩ | ((repeat apply Exists.intro); exact ⟨⟨k + 1, by omega, by go_num, by rw [HMP.out, HW1.out, HSfP.out]; exact HR1.out, by rw [HMC.out, HW2.out, HSfC.out]; exact HR2.out, hBy8⟩, rfl⟩)
                case measure => simp [intOf]; omega
              subst hk1
              have HpP := Lib.hid (par_pack HUx.out)
              have HpC := Lib.hid (chi_pack HUx.out)
              obtain ⟨cX, fX, lX⟩ := kX.facts
              go_upto_region 33 with fail
              clear cX fX lX
              replace kX := (kX.put 2 (.bool false)).put 3 (.bool true)
              simp only [List.setIfInBounds_toArray, List.set_cons_succ, List.set_cons_zero] at kX
              replace kP8 := (kP8.far (p := ⟨X, 2, none⟩) (by show gP ≠ X; omega) (.bool false)).far (p := ⟨X, 3, none⟩) (by show gP ≠ X; omega) (.bool true)
              replace kC8 := (kC8.far (p := ⟨X, 2, none⟩) (by show gC ≠ X; omega) (.bool false)).far (p := ⟨X, 3, none⟩) (by show gC ≠ X; omega) (.bool true)
              replace hrP8 := (hrP8.far (p := ⟨X, 2, none⟩) (by show gBP ≠ X; omega) (.bool false)).far (p := ⟨X, 3, none⟩) (by show gBP ≠ X; omega) (.bool true)
              replace hrC8 := (hrC8.far (p := ⟨X, 2, none⟩) (by show gBC ≠ X; omega) (.bool false)).far (p := ⟨X, 3, none⟩) (by show gBC ≠ X; omega) (.bool true)
              replace hBy8 := (hBy8.setCell (p := ⟨X, 2, none⟩) (.inr (by show _ ≤ X; omega)) (.bool false)).setCell (p := ⟨X, 3, none⟩) (.inr (by show _ ≤ X; omega)) (.bool true)
              generalize (w8.setCell ⟨X, 2, none⟩ (.bool false)).setCell ⟨X, 3, none⟩ (.bool true) = w9 at *
              have hu5 : (Tryd.prog.underlying 52).map (·.isRow) = some true := by kernel_rfl
              obtain ⟨d5, hu5, hd5⟩ := Option.map_eq_some_iff.1 hu5
              have hcf5 : ∀ (x : Value) (W : World), (callFunc 56 #[x]).run Tryd.prog W = .ok (.enter 56 #[x]) W := fun x W => by go_simp
              refine wp_region_held_drew (S := (fun w' => Bk w' gP #[.slice ARP rs.length cRP, .int .i64 r, .slice (some ⟨gAP, 0, none⟩) 8 cAP, .slice (some ⟨gBP, 0, none⟩) 64 cBP] 28 ∧ Bk w' X #[.int .i64 1, .int .i64 n1, .bool false, .bool true, .bool d1] 52)) (by kernel_rfl) ⟨kP8.drew, kX.drew⟩ (fun _ => ?_)
              refine takeD 0 (some 125) (.pointer (some ⟨gP, 1, none⟩)) rfl rfl (by kernel_rfl) (by kernel_rfl) (by kernel_rfl) (fun _ _ _ h => h) (.inl ⟨rfl, fun w' hS => by go_simp⟩) ⟨kP8.drew, kX.drew⟩ ?_
              try simp only [Act.put, List.setIfInBounds_toArray, List.set_cons_zero, List.set_cons_succ]
              refine takeD 1 (some 126) (.pointer (some ⟨gP, 3, none⟩)) rfl rfl (by kernel_rfl) (by kernel_rfl) (by kernel_rfl) (fun _ _ _ h => h) (.inl ⟨rfl, fun w' hS => by go_simp⟩) ⟨kP8.drew, kX.drew⟩ ?_
              try simp only [Act.put, List.setIfInBounds_toArray, List.set_cons_zero, List.set_cons_succ]
              refine takeD 2 (some 127) (.slice (some ⟨gBP, 0, none⟩) 64 cBP) rfl rfl (by kernel_rfl) (by kernel_rfl) (by kernel_rfl) (fun _ _ _ h => h) (.inl ⟨rfl, fun w' hS => by have hc := hS.1.cell; go_simp⟩) ⟨kP8.drew, kX.drew⟩ ?_
              try simp only [Act.put, List.setIfInBounds_toArray, List.set_cons_zero, List.set_cons_succ]
              refine takeD 3 (some 128) (.int .i64 k) rfl rfl (by kernel_rfl) (by kernel_rfl) (by kernel_rfl) (fun _ _ _ h => h) (.inl ⟨rfl, fun w' hS => by go_simp⟩) ⟨kP8.drew, kX.drew⟩ ?_
              try simp only [Act.put, List.setIfInBounds_toArray, List.set_cons_zero, List.set_cons_succ]
              refine takeD 4 (some 129) (.agg #[.int .i64 1, .int .i64 n1, .bool false, .bool true, .bool d1]) rfl rfl (by kernel_rfl) (by kernel_rfl) (by kernel_rfl) (fun _ _ _ h => h) (yieldsIf_load_mid (by rfl) 52 _ rfl X 0 rfl [.int .i64 1, .int .i64 n1, .bool false, .bool true, .bool d1] d5 (fun w' e => e.2.range) hu5 hd5 (by kernel_rfl)) ⟨kP8.drew, kX.drew⟩ ?_
              try simp only [Act.put, List.setIfInBounds_toArray, List.set_cons_zero, List.set_cons_succ]
              refine wpAnyH_all (rs := [5]) (by kernel_rfl) (by simp) (fun i hiR => ?_)
              obtain rfl : i = 5 := by simpa using hiR
              refine callD 5 (some 130) rfl rfl rfl (f := 56) (args := #[.agg #[.int .i64 1, .int .i64 n1, .bool false, .bool true, .bool d1]]) (run_call1 (vx := .agg #[.int .i64 1, .int .i64 n1, .bool false, .bool true, .bool d1]) (x := .tmp 129) rfl rfl rfl (hcf5 _) _) (rPkd28_any 1 n1 false true d1 _ w9.drew HpP.out) ?_
              rintro e wG ⟨rfl, hbG⟩
              refine ⟨_, rfl, ⟨kP8.drew.to hbG, kX.drew.to hbG⟩, ?_⟩
              replace kP8 := kP8.drew.to hbG
              replace kC8 := kC8.drew.to hbG
              replace kX := kX.drew.to hbG
              replace hrP8 := (RowO.to hrP8 (below_drew (Below.refl _ _))).to hbG
              replace hrC8 := (RowO.to hrC8 (below_drew (Below.refl _ _))).to hbG
              replace hBy8 := (hBy8.below (below_drew (Below.refl _ _))).below hbG
              clear hbG
              try simp only [Act.put, List.setIfInBounds_toArray, List.set_cons_zero, List.set_cons_succ]
              refine takeD 6 (some 131) (.pointer (some ⟨gBP, k, none⟩)) rfl rfl (by kernel_rfl) (by kernel_rfl) (by kernel_rfl) (fun _ _ _ h => h) (.inl ⟨rfl, fun w' hS => by go_simp⟩) ⟨kP8, kX⟩ ?_
              try simp only [Act.put, List.setIfInBounds_toArray, List.set_cons_zero, List.set_cons_succ]
              refine wpAnyH_all (rs := [7]) (by kernel_rfl) (by simp) (fun i hiR => ?_)
              obtain rfl : i = 7 := by simpa using hiR
              have fG := (hrP8.cell (j := k) (by omega)).2
              obtain ⟨y6, hy6⟩ : ∃ y, wG.cell? ⟨gBP, k, none⟩ = some y := ⟨_, by rw [(hrP8.cell (j := k) (by omega)).1]; exact List.getElem?_eq_getElem (by rw [uw_len, mapK_len, H64.out]; exact hlt)⟩
              have lG := hrP8.lt
              have kP9 := kP8.far (p := ⟨gBP, k, none⟩) (by show gP ≠ gBP; omega) (.int .u64 ((parW x : Nat) : Int))
              have kC9 := kC8.far (p := ⟨gBP, k, none⟩) (by show gC ≠ gBP; omega) (.int .u64 ((parW x : Nat) : Int))
              have kX9 := kX.far (p := ⟨gBP, k, none⟩) (by show X ≠ gBP; omega) (.int .u64 ((parW x : Nat) : Int))
              have hr9 := hrP8.put k (.int .u64 ((parW x : Nat) : Int))
              rw [uw_set1] at hr9
              have ho9 := hrC8.far (p := ⟨gBP, k, none⟩) (by show gBC ≠ gBP; omega) (.int .u64 ((parW x : Nat) : Int))
              have hB9 := hBy8.setCell (p := ⟨gBP, k, none⟩) (.inl (by first | exact .inl rfl | exact .inr rfl)) (.int .u64 ((parW x : Nat) : Int))
              refine storeD1 7 rfl rfl rfl 55 _ _ rfl gBP k (.int .u64 ((parW x : Nat) : Int)) rfl rfl (by go_simp) ⟨⟨kP9, kX9⟩, ?_⟩
              refine wpAnyH_done (by kernel_rfl) ?_ _
              try simp only [Exit.then]
              try go_at_K
              try go_frame
              generalize wG.setCell ⟨gBP, k, none⟩ (.int .u64 ((parW x : Nat) : Int)) = wH at *
              clear fG hy6 lG hu5 hd5 hcf5
              replace kP8 := kP9
              replace kC8 := kC9
              replace kX := kX9
              replace hrP8 := hr9
              replace hrC8 := ho9
              replace hBy8 := hB9
              clear kP9 kC9 kX9 hr9 ho9 hB9
              have HR1 := Lib.hid hrP8
              obtain ⟨cX, fX, lX⟩ := kX.facts
              go_upto_region 35 with fail
              clear cX fX lX
              replace hrP8 := RowO.far HR1.out (p := ⟨X, 4, none⟩) (by show gBP ≠ X; omega) (.bool false)
              clear HR1
              replace kX := kX.put 4 (.bool false)
              simp only [List.setIfInBounds_toArray, List.set_cons_succ, List.set_cons_zero] at kX
              replace kP8 := kP8.far (p := ⟨X, 4, none⟩) (by show gP ≠ X; omega) (.bool false)
              replace kC8 := kC8.far (p := ⟨X, 4, none⟩) (by show gC ≠ X; omega) (.bool false)
              replace hrC8 := hrC8.far (p := ⟨X, 4, none⟩) (by show gBC ≠ X; omega) (.bool false)
              replace hBy8 := hBy8.setCell (p := ⟨X, 4, none⟩) (.inr (by show _ ≤ X; omega)) (.bool false)
              generalize wH.setCell ⟨X, 4, none⟩ (.bool false) = wI at *
              have hu5 : (Tryd.prog.underlying 52).map (·.isRow) = some true := by kernel_rfl
              obtain ⟨d5, hu5, hd5⟩ := Option.map_eq_some_iff.1 hu5
              have hcf5 : ∀ (x : Value) (W : World), (callFunc 56 #[x]).run Tryd.prog W = .ok (.enter 56 #[x]) W := fun x W => by go_simp
              refine wp_region_held_drew (S := (fun w' => Bk w' gC #[.slice ARC rs.length cRC, .int .i64 f0, .slice (some ⟨gAC, 0, none⟩) 8 cAC, .slice (some ⟨gBC, 0, none⟩) 64 cBC] 28 ∧ Bk w' X #[.int .i64 1, .int .i64 n1, .bool false, .bool true, .bool false] 52)) (by kernel_rfl) ⟨kC8.drew, kX.drew⟩ (fun _ => ?_)
              refine takeD 0 (some 133) (.pointer (some ⟨gC, 1, none⟩)) rfl rfl (by kernel_rfl) (by kernel_rfl) (by kernel_rfl) (fun _ _ _ h => h) (.inl ⟨rfl, fun w' hS => by go_simp⟩) ⟨kC8.drew, kX.drew⟩ ?_
              try simp only [Act.put, List.setIfInBounds_toArray, List.set_cons_zero, List.set_cons_succ]
              refine takeD 1 (some 134) (.pointer (some ⟨gC, 3, none⟩)) rfl rfl (by kernel_rfl) (by kernel_rfl) (by kernel_rfl) (fun _ _ _ h => h) (.inl ⟨rfl, fun w' hS => by go_simp⟩) ⟨kC8.drew, kX.drew⟩ ?_
              try simp only [Act.put, List.setIfInBounds_toArray, List.set_cons_zero, List.set_cons_succ]
              refine takeD 2 (some 135) (.slice (some ⟨gBC, 0, none⟩) 64 cBC) rfl rfl (by kernel_rfl) (by kernel_rfl) (by kernel_rfl) (fun _ _ _ h => h) (.inl ⟨rfl, fun w' hS => by have hc := hS.1.cell; go_simp⟩) ⟨kC8.drew, kX.drew⟩ ?_
              try simp only [Act.put, List.setIfInBounds_toArray, List.set_cons_zero, List.set_cons_succ]
              refine takeD 3 (some 136) (.int .i64 k) rfl rfl (by kernel_rfl) (by kernel_rfl) (by kernel_rfl) (fun _ _ _ h => h) (.inl ⟨rfl, fun w' hS => by go_simp⟩) ⟨kC8.drew, kX.drew⟩ ?_
              try simp only [Act.put, List.setIfInBounds_toArray, List.set_cons_zero, List.set_cons_succ]
              refine takeD 4 (some 137) (.agg #[.int .i64 1, .int .i64 n1, .bool false, .bool true, .bool false]) rfl rfl (by kernel_rfl) (by kernel_rfl) (by kernel_rfl) (fun _ _ _ h => h) (yieldsIf_load_mid (by rfl) 52 _ rfl X 0 rfl [.int .i64 1, .int .i64 n1, .bool false, .bool true, .bool false] d5 (fun w' e => e.2.range) hu5 hd5 (by kernel_rfl)) ⟨kC8.drew, kX.drew⟩ ?_
              try simp only [Act.put, List.setIfInBounds_toArray, List.set_cons_zero, List.set_cons_succ]
              refine wpAnyH_all (rs := [5]) (by kernel_rfl) (by simp) (fun i hiR => ?_)
              obtain rfl : i = 5 := by simpa using hiR
              refine callD 5 (some 138) rfl rfl rfl (f := 56) (args := #[.agg #[.int .i64 1, .int .i64 n1, .bool false, .bool true, .bool false]]) (run_call1 (vx := .agg #[.int .i64 1, .int .i64 n1, .bool false, .bool true, .bool false]) (x := .tmp 137) rfl rfl rfl (hcf5 _) _) (rPkd28_any 1 n1 false true false _ wI.drew HpC.out) ?_
              rintro e wJ ⟨rfl, hbG⟩
              refine ⟨_, rfl, ⟨kC8.drew.to hbG, kX.drew.to hbG⟩, ?_⟩
              replace kP8 := kP8.drew.to hbG
              replace kC8 := kC8.drew.to hbG
              replace kX := kX.drew.to hbG
              replace hrP8 := (RowO.to hrP8 (below_drew (Below.refl _ _))).to hbG
              replace hrC8 := (RowO.to hrC8 (below_drew (Below.refl _ _))).to hbG
              replace hBy8 := (hBy8.below (below_drew (Below.refl _ _))).below hbG
              clear hbG
              try simp only [Act.put, List.setIfInBounds_toArray, List.set_cons_zero, List.set_cons_succ]
              refine takeD 6 (some 139) (.pointer (some ⟨gBC, k, none⟩)) rfl rfl (by kernel_rfl) (by kernel_rfl) (by kernel_rfl) (fun _ _ _ h => h) (.inl ⟨rfl, fun w' hS => by go_simp⟩) ⟨kC8, kX⟩ ?_
              try simp only [Act.put, List.setIfInBounds_toArray, List.set_cons_zero, List.set_cons_succ]
              refine wpAnyH_all (rs := [7]) (by kernel_rfl) (by simp) (fun i hiR => ?_)
              obtain rfl : i = 7 := by simpa using hiR
              have fG := (hrC8.cell (j := k) (by omega)).2
              obtain ⟨y6, hy6⟩ : ∃ y, wJ.cell? ⟨gBC, k, none⟩ = some y := ⟨_, by rw [(hrC8.cell (j := k) (by omega)).1]; exact List.getElem?_eq_getElem (by rw [uw_len, mapK_len, H64.out]; exact hlt)⟩
              have lG := hrC8.lt
              have kP9 := kP8.far (p := ⟨gBC, k, none⟩) (by show gP ≠ gBC; omega) (.int .u64 ((chiW x : Nat) : Int))
              have kC9 := kC8.far (p := ⟨gBC, k, none⟩) (by show gC ≠ gBC; omega) (.int .u64 ((chiW x : Nat) : Int))
              have kX9 := kX.far (p := ⟨gBC, k, none⟩) (by show X ≠ gBC; omega) (.int .u64 ((chiW x : Nat) : Int))
              have hr9 := hrC8.put k (.int .u64 ((chiW x : Nat) : Int))
              rw [uw_set1] at hr9
              have ho9 := hrP8.far (p := ⟨gBC, k, none⟩) (by show gBP ≠ gBC; omega) (.int .u64 ((chiW x : Nat) : Int))
              have hB9 := hBy8.setCell (p := ⟨gBC, k, none⟩) (.inl (by first | exact .inl rfl | exact .inr rfl)) (.int .u64 ((chiW x : Nat) : Int))
              refine storeD1 7 rfl rfl rfl 55 _ _ rfl gBC k (.int .u64 ((chiW x : Nat) : Int)) rfl rfl (by go_simp) ⟨⟨kC9, kX9⟩, ?_⟩
              refine wpAnyH_done (by kernel_rfl) ?_ _
              try simp only [Exit.then]
              try go_at_K
              try go_frame
              generalize wJ.setCell ⟨gBC, k, none⟩ (.int .u64 ((chiW x : Nat) : Int)) = wK at *
              clear fG hy6 lG hu5 hd5 hcf5
              replace kP8 := kP9
              replace kC8 := kC9
              replace kX := kX9
              replace hrC8 := hr9
              replace hrP8 := ho9
              replace hBy8 := hB9
              clear kP9 kC9 kX9 hr9 ho9 hB9
              have HR1 := Lib.hid hrP8
              have HR2 := Lib.hid hrC8
              clear hrP8 hrC8
              go_wp2_with fail
              go_roundw
              case rel => first | exact ⟨k + 1, by omega, by go_num, by rw [HMP.out]; exact HR1.out, by rw [HMC.out]; exact HR2.out, hBy8⟩ | ((repeat apply Exists.intro); exact ⟨⟨k + 1, by omega, by go_num, by rw [HMP.out]; exact HR1.out, by rw [HMC.out]; exact HR2.out, hBy8⟩, rfl⟩)
              case measure => simp [intOf]; omega
            · obtain rfl : k = 64 := by omega
              rw [mapK_all H64.out] at hrP hrC
              replace kRw := kRw.but hBy (show ¬ (w.heap.size + 1 = gBP ∨ w.heap.size + 1 = gBC) by omega)
              replace kHw := kHw.but hBy (show ¬ (w.heap.size + 1 + 1 = gBP ∨ w.heap.size + 1 + 1 = gBC) by omega)
              replace kP := kP.but hBy (show ¬ (gP = gBP ∨ gP = gBC) by omega)
              replace kC := kC.but hBy (show ¬ (gC = gBP ∨ gC = gBC) by omega)
              replace rRP := rRP.but hBy (fun b off h0 e => by have := lRP b off h0 e; omega)
              replace rAP := rAP.but hBy (show ¬ (gAP = gBP ∨ gAP = gBC) by omega)
              replace rRC := rRC.but hBy (fun b off h0 e => by have := lRC b off h0 e; omega)
              replace hrow := hrow.but hBy (show ¬ (gAC = gBP ∨ gAC = gBC) by omega)
              go_upto_region 36 with fail
              have hu : (Tryd.prog.underlying 28).map (·.isRow) = some true := by kernel_rfl
              obtain ⟨dd, hu, hd⟩ := Option.map_eq_some_iff.1 hu
              refine wp_region_held_drew (S := (fun w' => Bk w' gP #[.slice ARP rs.length cRP, .int .i64 r, .slice (some ⟨gAP, 0, none⟩) 8 cAP, .slice (some ⟨gBP, 0, none⟩) 64 cBP] 28 ∧ Bk w' gC #[.slice ARC rs.length cRC, .int .i64 f0, .slice (some ⟨gAC, 0, none⟩) 8 cAC, .slice (some ⟨gBC, 0, none⟩) 64 cBC] 28)) (by kernel_rfl) ⟨kP.drew, kC.drew⟩ (fun _ => ?_)
              refine takeD 0 (some 140) (.agg #[.slice ARP rs.length cRP, .int .i64 r, .slice (some ⟨gAP, 0, none⟩) 8 cAP, .slice (some ⟨gBP, 0, none⟩) 64 cBP]) rfl rfl (by kernel_rfl) (by kernel_rfl) (by kernel_rfl) (fun _ _ _ h => h) (yieldsIf_load_mid (by rfl) 28 _ rfl gP 0 rfl [.slice ARP rs.length cRP, .int .i64 r, .slice (some ⟨gAP, 0, none⟩) 8 cAP, .slice (some ⟨gBP, 0, none⟩) 64 cBP] dd (fun w' e => e.1.range) hu hd (by kernel_rfl)) ⟨kP.drew, kC.drew⟩ ?_
              try simp only [Act.put, List.setIfInBounds_toArray, List.set_cons_zero, List.set_cons_succ]
              refine takeD 1 (some 141) (.agg #[.slice ARC rs.length cRC, .int .i64 f0, .slice (some ⟨gAC, 0, none⟩) 8 cAC, .slice (some ⟨gBC, 0, none⟩) 64 cBC]) rfl rfl (by kernel_rfl) (by kernel_rfl) (by kernel_rfl) (fun _ _ _ h => h) (yieldsIf_load_mid (by rfl) 28 _ rfl gC 0 rfl [.slice ARC rs.length cRC, .int .i64 f0, .slice (some ⟨gAC, 0, none⟩) 8 cAC, .slice (some ⟨gBC, 0, none⟩) 64 cBC] dd (fun w' e => e.2.range) hu hd (by kernel_rfl)) ⟨kP.drew, kC.drew⟩ ?_
              try simp only [Act.put, List.setIfInBounds_toArray, List.set_cons_zero, List.set_cons_succ]
              have kRd := kRw.drew
              have kHd := kHw.drew
              replace kP := kP.drew
              replace kC := kC.drew
              replace rRP := rRP.below (below_drew (Below.refl _ _)) (Nat.le_refl _)
              replace rRC := rRC.below (below_drew (Below.refl _ _)) (Nat.le_refl _)
              replace rAP := rAP.to (below_drew (Below.refl _ _))
              replace hrow := hrow.to (below_drew (Below.refl _ _))
              replace hrP := hrP.to (below_drew (Below.refl _ _))
              replace hrC := hrC.to (below_drew (Below.refl _ _))
              replace hBwx := below_drew hBwx
              generalize hwdd : World.drew _ = wd at *
              clear hwdd kRw kHw
              refine wpAnyH_all (rs := [2]) (by kernel_rfl) (by simp) (fun i hiR => ?_)
              obtain rfl : i = 2 := by simpa using hiR
              have kN := kRd.row #[.slice ARP rs.length cRP, .int .i64 r, .slice (some ⟨gAP, 0, none⟩) 8 cAP, .slice (some ⟨gBP, 0, none⟩) 64 cBP]
              have kO := kHd.rowfar (show w.heap.size + 1 + 1 ≠ (w.heap.size + 1) by omega) #[.slice ARP rs.length cRP, .int .i64 r, .slice (some ⟨gAP, 0, none⟩) 8 cAP, .slice (some ⟨gBP, 0, none⟩) 64 cBP]
              have kP2 := kP.rowfar (show gP ≠ (w.heap.size + 1) by omega) #[.slice ARP rs.length cRP, .int .i64 r, .slice (some ⟨gAP, 0, none⟩) 8 cAP, .slice (some ⟨gBP, 0, none⟩) 64 cBP]
              have kC2 := kC.rowfar (show gC ≠ (w.heap.size + 1) by omega) #[.slice ARP rs.length cRP, .int .i64 r, .slice (some ⟨gAP, 0, none⟩) 8 cAP, .slice (some ⟨gBP, 0, none⟩) 64 cBP]
              have hBn := below_row hBwx (show w.heap.size ≤ (w.heap.size + 1) by omega) #[.slice ARP rs.length cRP, .int .i64 r, .slice (some ⟨gAP, 0, none⟩) 8 cAP, .slice (some ⟨gBP, 0, none⟩) 64 cBP]
              have x1 := rRP.rowfar (g := (w.heap.size + 1)) (fun b off h0 e => by have := lRP b off h0 e; omega) #[.slice ARP rs.length cRP, .int .i64 r, .slice (some ⟨gAP, 0, none⟩) 8 cAP, .slice (some ⟨gBP, 0, none⟩) 64 cBP]
              have x2 := rRC.rowfar (g := (w.heap.size + 1)) (fun b off h0 e => by have := lRC b off h0 e; omega) #[.slice ARP rs.length cRP, .int .i64 r, .slice (some ⟨gAP, 0, none⟩) 8 cAP, .slice (some ⟨gBP, 0, none⟩) 64 cBP]
              have x3 := rAP.rowfar (q := (w.heap.size + 1)) (by omega) #[.slice ARP rs.length cRP, .int .i64 r, .slice (some ⟨gAP, 0, none⟩) 8 cAP, .slice (some ⟨gBP, 0, none⟩) 64 cBP]
              have x4 := hrow.rowfar (q := (w.heap.size + 1)) (by omega) #[.slice ARP rs.length cRP, .int .i64 r, .slice (some ⟨gAP, 0, none⟩) 8 cAP, .slice (some ⟨gBP, 0, none⟩) 64 cBP]
              have x5 := hrP.rowfar (q := (w.heap.size + 1)) (by omega) #[.slice ARP rs.length cRP, .int .i64 r, .slice (some ⟨gAP, 0, none⟩) 8 cAP, .slice (some ⟨gBP, 0, none⟩) 64 cBP]
              have x6 := hrC.rowfar (q := (w.heap.size + 1)) (by omega) #[.slice ARP rs.length cRP, .int .i64 r, .slice (some ⟨gAP, 0, none⟩) 8 cAP, .slice (some ⟨gBP, 0, none⟩) 64 cBP]
              refine storeD 2 rfl rfl rfl 28 _ _ rfl (w.heap.size + 1) #[.slice ARP rs.length cRP, .int .i64 r, .slice (some ⟨gAP, 0, none⟩) 8 cAP, .slice (some ⟨gBP, 0, none⟩) 64 cBP] rfl rfl 28 _ kRd (by kernel_rfl) rfl (all_oneCell_toArray (fun v hv => by simp at hv; rcases hv with rfl | rfl | rfl | rfl <;> rfl)) ⟨⟨kP2, kC2⟩, ?_⟩
              generalize World.setRow wd (w.heap.size + 1) #[.slice ARP rs.length cRP, .int .i64 r, .slice (some ⟨gAP, 0, none⟩) 8 cAP, .slice (some ⟨gBP, 0, none⟩) 64 cBP] = wdz at *
              replace kRd := kN
              replace kHd := kO
              replace kP := kP2
              replace kC := kC2
              replace hBwx := hBn
              replace rRP := x1
              replace rRC := x2
              replace rAP := x3
              replace hrow := x4
              replace hrP := x5
              replace hrC := x6
              clear kN kO kP2 kC2 hBn x1 x2 x3 x4 x5 x6
              try simp only [Act.put, List.setIfInBounds_toArray, List.set_cons_zero, List.set_cons_succ]
              refine wpAnyH_all (rs := [3]) (by kernel_rfl) (by simp) (fun i hiR => ?_)
              obtain rfl : i = 3 := by simpa using hiR
              have kN := kHd.row #[.slice ARC rs.length cRC, .int .i64 f0, .slice (some ⟨gAC, 0, none⟩) 8 cAC, .slice (some ⟨gBC, 0, none⟩) 64 cBC]
              have kO := kRd.rowfar (show w.heap.size + 1 ≠ (w.heap.size + 1 + 1) by omega) #[.slice ARC rs.length cRC, .int .i64 f0, .slice (some ⟨gAC, 0, none⟩) 8 cAC, .slice (some ⟨gBC, 0, none⟩) 64 cBC]
              have kP2 := kP.rowfar (show gP ≠ (w.heap.size + 1 + 1) by omega) #[.slice ARC rs.length cRC, .int .i64 f0, .slice (some ⟨gAC, 0, none⟩) 8 cAC, .slice (some ⟨gBC, 0, none⟩) 64 cBC]
              have kC2 := kC.rowfar (show gC ≠ (w.heap.size + 1 + 1) by omega) #[.slice ARC rs.length cRC, .int .i64 f0, .slice (some ⟨gAC, 0, none⟩) 8 cAC, .slice (some ⟨gBC, 0, none⟩) 64 cBC]
              have hBn := below_row hBwx (show w.heap.size ≤ (w.heap.size + 1 + 1) by omega) #[.slice ARC rs.length cRC, .int .i64 f0, .slice (some ⟨gAC, 0, none⟩) 8 cAC, .slice (some ⟨gBC, 0, none⟩) 64 cBC]
              have x1 := rRP.rowfar (g := (w.heap.size + 1 + 1)) (fun b off h0 e => by have := lRP b off h0 e; omega) #[.slice ARC rs.length cRC, .int .i64 f0, .slice (some ⟨gAC, 0, none⟩) 8 cAC, .slice (some ⟨gBC, 0, none⟩) 64 cBC]
              have x2 := rRC.rowfar (g := (w.heap.size + 1 + 1)) (fun b off h0 e => by have := lRC b off h0 e; omega) #[.slice ARC rs.length cRC, .int .i64 f0, .slice (some ⟨gAC, 0, none⟩) 8 cAC, .slice (some ⟨gBC, 0, none⟩) 64 cBC]
              have x3 := rAP.rowfar (q := (w.heap.size + 1 + 1)) (by omega) #[.slice ARC rs.length cRC, .int .i64 f0, .slice (some ⟨gAC, 0, none⟩) 8 cAC, .slice (some ⟨gBC, 0, none⟩) 64 cBC]
              have x4 := hrow.rowfar (q := (w.heap.size + 1 + 1)) (by omega) #[.slice ARC rs.length cRC, .int .i64 f0, .slice (some ⟨gAC, 0, none⟩) 8 cAC, .slice (some ⟨gBC, 0, none⟩) 64 cBC]
              have x5 := hrP.rowfar (q := (w.heap.size + 1 + 1)) (by omega) #[.slice ARC rs.length cRC, .int .i64 f0, .slice (some ⟨gAC, 0, none⟩) 8 cAC, .slice (some ⟨gBC, 0, none⟩) 64 cBC]
              have x6 := hrC.rowfar (q := (w.heap.size + 1 + 1)) (by omega) #[.slice ARC rs.length cRC, .int .i64 f0, .slice (some ⟨gAC, 0, none⟩) 8 cAC, .slice (some ⟨gBC, 0, none⟩) 64 cBC]
              refine storeD 3 rfl rfl rfl 28 _ _ rfl (w.heap.size + 1 + 1) #[.slice ARC rs.length cRC, .int .i64 f0, .slice (some ⟨gAC, 0, none⟩) 8 cAC, .slice (some ⟨gBC, 0, none⟩) 64 cBC] rfl rfl 28 _ kHd (by kernel_rfl) rfl (all_oneCell_toArray (fun v hv => by simp at hv; rcases hv with rfl | rfl | rfl | rfl <;> rfl)) ⟨⟨kP2, kC2⟩, ?_⟩
              generalize World.setRow wdz (w.heap.size + 1 + 1) #[.slice ARC rs.length cRC, .int .i64 f0, .slice (some ⟨gAC, 0, none⟩) 8 cAC, .slice (some ⟨gBC, 0, none⟩) 64 cBC] = wdzz at *
              replace kHd := kN
              replace kRd := kO
              replace kP := kP2
              replace kC := kC2
              replace hBwx := hBn
              replace rRP := x1
              replace rRC := x2
              replace rAP := x3
              replace hrow := x4
              replace hrP := x5
              replace hrC := x6
              clear kN kO kP2 kC2 hBn x1 x2 x3 x4 x5 x6
              try simp only [Act.put, List.setIfInBounds_toArray, List.set_cons_zero, List.set_cons_succ]
              refine takeD 4 (some 6) (.int .i64 0) rfl rfl (by kernel_rfl) (by kernel_rfl) (by kernel_rfl) (fun _ _ _ h => h) (.inl ⟨rfl, fun w' hS => by go_simp⟩) ⟨kP, kC⟩ ?_
              try simp only [Act.put, List.setIfInBounds_toArray, List.set_cons_zero, List.set_cons_succ]
              refine wpAnyH_done (by kernel_rfl) ?_ _
              simp only [Exit.then]
              try go_at_K
              try go_frame
              try go_wp2
              have h8 := H8.out
              have h64 := H64.out
              have m1 : (es.map parW).length = 64 := by rw [List.length_map]; exact h64
              have m2 : (es.map chiW).length = 64 := by rw [List.length_map]; exact h64
              have m3 : (chiL fr ls).length = 8 := by simp [chiL]
              refine bodyPost_ret (kRd.resCCt (P := Tryd.prog) kHd rfl _ rfl rfl (by kernel_rfl) (by kernel_rfl) (by kernel_rfl)) rfl ⟨_, _, rfl, ?_, ?_, hBwx⟩
              · rw [HPS.out]
                exact ⟨ARP, cRP, some ⟨gAP, 0, none⟩, cAP, some ⟨gBP, 0, none⟩, cBP, by simp only [spcV, h8, m1], rRP, by simp only [h8]; exact rAP.rd, by simp only [m1]; exact hrP.rd, by simp only [h8]; exact rAP.cap (by omega)⟩
              · rw [HCS.out]
                exact ⟨ARC, cRC, some ⟨gAC, 0, none⟩, cAC, some ⟨gBC, 0, none⟩, cBC, by simp only [spcV, m3, m2, hf0], rRC, by simp only [m3]; exact hrow.rd, by simp only [m2]; exact hrC.rd, by simp only [m3]; exact hrow.cap (by omega)⟩
end Go.Proofs.YtmjahjdnfijpkaaDoor
/- The reference of chapter 28: Fork, its errors. -/
namespace Go.Proofs.YtmjahjdnfijpkaaDoor
open Go Go.Proofs Go.RowKit
set_option linter.unusedSimpArgs false
set_option linter.unusedVariables false
set_option maxRecDepth 100000

/-- A loop where an error stands already. -/
def RfbA (z : Int) (w2 : World) (e i : Value) (wr : World) : Prop := i = .int .i64 0 ∧ e = .int .i64 z ∧ wr = w2
/-- The loop over the frames. -/
def RfbI (f : Nat → Int) (N : Nat) (E : Int) (w3 : World) (e i : Value) (wr : World) : Prop := ∃ k : Nat, k ≤ N ∧ i = .int .i64 k ∧ Below w3.heap.size w3 wr ∧ ((e = .int .i64 0 ∧ fst0 f k = 0) ∨ e = .int .i64 E)
/-- The loop over the frames before one. -/
def RfbJ (fr : List Int) (z : Int) (k : Nat) (wr : World) (e m : Value) (wy : World) : Prop := ∃ j : Nat, j ≤ k ∧ m = .int .i64 j ∧ Below wr.heap.size wr wy ∧ ((e = .int .i64 0 ∧ ∀ i, i < j → fr.getD i 0 ≠ z) ∨ (e = .int .i64 7 ∧ z ∈ fr.take k))
theorem take_no {fr : List Int} {z : Int} {k : Nat} (hk : k ≤ fr.length) (h : ∀ i, i < k → fr.getD i 0 ≠ z) : ¬ z ∈ fr.take k := fun hm => by
  obtain ⟨j, hj, e⟩ := List.mem_iff_getElem.1 hm
  rw [List.length_take] at hj
  have := h j (by omega)
  rw [List.getElem_take] at e
  rw [List.getD_eq_getElem?_getD, List.getElem?_eq_getElem (by omega)] at this
  exact this e
theorem fit_two {s : Sp} {fr : List Int} {k : Nat} (h : fr.getD k 0 < 0 ∨ 255 < fr.getD k 0) : fitF s fr k = 2 := by unfold fitF; rw [if_pos h]
theorem fit_seven {s : Sp} {fr : List Int} {k : Nat} (h : ¬ (fr.getD k 0 < 0 ∨ 255 < fr.getD k 0)) (h2 : usedB s (fr.getD k 0) = true ∨ fr.getD k 0 ∈ fr.take k) : fitF s fr k = 7 := by unfold fitF; rw [if_neg h, if_pos h2]
theorem fit_none {s : Sp} {fr : List Int} {k : Nat} (h : ¬ (fr.getD k 0 < 0 ∨ 255 < fr.getD k 0)) (h2 : usedB s (fr.getD k 0) = false) (h3 : ¬ fr.getD k 0 ∈ fr.take k) : fitF s fr k = 0 := by
  unfold fitF
  rw [if_neg h, if_neg]
  rintro (h4 | h4)
  · rw [h2] at h4; cases h4
  · exact h3 h4

set_option maxHeartbeats 16000000 in
theorem rFork28_bad (rs : List (Int × Int)) (r : Int) (ls : List Int) (es : List Nat) (v : Value) (fr : List Int) (F : Option Addr) (cf : Nat) (w : World) (hv : SpV w v (rs, r, ls, es)) (hn : rs.length ≤ 1000000) (hs : wsmall es) (hF : Rd w 1 F fr.length (iw fr)) (hfn : fr.length ≤ 1000) (hE : forE (rs, r, ls, es) fr ≠ 0) :
    Calls Tryd.prog 17 #[v, .slice F fr.length cf] w fun e w' => FkRs w w' sp0 sp0 (forE (rs, r, ls, es) fr) e := by
  obtain ⟨A, c, L, cl, B, d, hve, hA, hLs, hB, hcc⟩ := id hv
  subst hve
  unfold spcV at hv ⊢
  simp only at hv ⊢ hA hLs hB hcc
  have kS := ((Bk.new w #[.slice A rs.length c, .int .i64 r, .slice L ls.length cl, .slice B es.length d] 28).alloc (.cells #[.slice none 0 0, .int .i64 0, .slice none 0 0, .slice none 0 0] 28)).alloc (.cells #[.slice none 0 0, .int .i64 0, .slice none 0 0, .slice none 0 0] 28)
  have kR := (Bk.new (w.alloc (.cells #[.slice A rs.length c, .int .i64 r, .slice L ls.length cl, .slice B es.length d] 28)) #[.slice none 0 0, .int .i64 0, .slice none 0 0, .slice none 0 0] 28).alloc (.cells #[.slice none 0 0, .int .i64 0, .slice none 0 0, .slice none 0 0] 28)
  have kH := Bk.new ((w.alloc (.cells #[.slice A rs.length c, .int .i64 r, .slice L ls.length cl, .slice B es.length d] 28)).alloc (.cells #[.slice none 0 0, .int .i64 0, .slice none 0 0, .slice none 0 0] 28)) #[.slice none 0 0, .int .i64 0, .slice none 0 0, .slice none 0 0] 28
  simp only [World.size_alloc] at kR kH
  have hB1 := balloc (balloc (balloc (Below.refl _ w) (.cells #[.slice A rs.length c, .int .i64 r, .slice L ls.length cl, .slice B es.length d] 28)) (.cells #[.slice none 0 0, .int .i64 0, .slice none 0 0, .slice none 0 0] 28)) (.cells #[.slice none 0 0, .int .i64 0, .slice none 0 0, .slice none 0 0] 28)
  generalize hw1 : ((w.alloc (.cells #[.slice A rs.length c, .int .i64 r, .slice L ls.length cl, .slice B es.length d] 28)).alloc (.cells #[.slice none 0 0, .int .i64 0, .slice none 0 0, .slice none 0 0] 28)).alloc (.cells #[.slice none 0 0, .int .i64 0, .slice none 0 0, .slice none 0 0] 28) = w1 at *
  have HC := Lib.hid (rChecked28_any rs r ls es _ _ (hv.to hB1) hn hs)
  have hne : w.heap.size + 1 ≠ w.heap.size + 1 + 1 := by omega
  have hne2 : w.heap.size + 1 + 1 ≠ w.heap.size + 1 := by omega
  have HSh : Hid (∀ (W : World), Bk W (w.heap.size + 1) #[.slice none 0 0, .int .i64 0, .slice none 0 0, .slice none 0 0] 28 → Bk W (w.heap.size + 1 + 1) #[.slice none 0 0, .int .i64 0, .slice none 0 0, .slice none 0 0] 28 → Below w.heap.size w W →
      ∃ W2, W2 = (((((((W.setCell ⟨w.heap.size + 1, 0, none⟩ (.slice none 0 0)).setCell ⟨w.heap.size + 1, 1, none⟩ (.int .i64 0)).setCell ⟨w.heap.size + 1, 2, none⟩ (.slice none 0 0)).setCell ⟨w.heap.size + 1, 3, none⟩ (.slice none 0 0)).setCell ⟨w.heap.size + 1 + 1, 0, none⟩ (.slice none 0 0)).setCell ⟨w.heap.size + 1 + 1, 1, none⟩ (.int .i64 0)).setCell ⟨w.heap.size + 1 + 1, 2, none⟩ (.slice none 0 0)).setCell ⟨w.heap.size + 1 + 1, 3, none⟩ (.slice none 0 0) ∧ Bk W2 (w.heap.size + 1) #[.slice none 0 0, .int .i64 0, .slice none 0 0, .slice none 0 0] 28 ∧ Bk W2 (w.heap.size + 1 + 1) #[.slice none 0 0, .int .i64 0, .slice none 0 0, .slice none 0 0] 28 ∧ Below w.heap.size w W2) :=
    Lib.hid (fun W k1 k2 hb => ⟨_, rfl, ((((k1.put4 _ _ _ _).far (p := ⟨w.heap.size + 1 + 1, 0, none⟩) hne _).far (p := ⟨w.heap.size + 1 + 1, 1, none⟩) hne _).far (p := ⟨w.heap.size + 1 + 1, 2, none⟩) hne _).far (p := ⟨w.heap.size + 1 + 1, 3, none⟩) hne _, ((((k2.far (p := ⟨w.heap.size + 1, 0, none⟩) hne2 _).far (p := ⟨w.heap.size + 1, 1, none⟩) hne2 _).far (p := ⟨w.heap.size + 1, 2, none⟩) hne2 _).far (p := ⟨w.heap.size + 1, 3, none⟩) hne2 _).put4 _ _ _ _, below_put4 (below_put4 hb (by omega) _ _ _ _) (by omega) _ _ _ _⟩)
  clear hne hne2 hA hLs hB hcc
  obtain ⟨cS, fS, lS⟩ := kS.facts
  by_cases hR : rooE (rs, r, ls, es) = 0
  case neg =>
    have hE2 : forE (rs, r, ls, es) fr = rooE (rs, r, ls, es) := by unfold forE; rw [orE_l _ hR]
    rw [hE2]
    have hd : (rooE (rs, r, ls, es) != 0) = true := by simpa using hR
    have hd2 : (rooE (rs, r, ls, es) == 0) = false := by simpa using hR
    generalize rooE (rs, r, ls, es) = z at *
    clear hE2 hE hv hF
    go_enter Tryd.func17, Tryd.ntmps17
    go_wp2_with fail
    refine HC.out.mono ?_
    rintro e w2 ⟨rfl, hb2⟩
    clear cS fS lS
    replace kR := kR.to hb2
    replace kH := kH.to hb2
    replace hB1 := bnext hB1 hb2
    clear hb2 hw1 HC kS hR
    go_wp2_with fail
    go_loopw [7, 8] (fun e i wr => RfbA z w2 e i wr) (fun _ _ _ => 0)
    case atStart => exact ⟨rfl, rfl, rfl⟩
    case round =>
      obtain ⟨rfl, rfl, rfl⟩ := hrel
      obtain ⟨cR, fR, lR⟩ := kR.facts
      obtain ⟨cH, fH, lH⟩ := kH.facts
      go_wp2_with fail
      all_goals
        obtain ⟨W2, hW2, k1, k2, hBW⟩ := HSh.out _ kR kH hB1
        rw [← hW2]
        exact bodyPost_ret (k1.resCCt (P := Tryd.prog) k2 rfl _ rfl rfl (by kernel_rfl) (by kernel_rfl) (by kernel_rfl)) rfl ⟨_, _, rfl, SpV.zero _, SpV.zero _, hBW⟩
  have hT := (spc_zero (roo_zero hR).1).2.1
  simp only at hT
  have HNd := Lib.hid (fun W h => rneeds28_any rs r ls es (.agg #[.slice A rs.length c, .int .i64 r, .slice L ls.length cl, .slice B es.length d]) W h hT)
  have HV := Lib.hid (fun W (hb : Below w.heap.size w W) => hv.to hb)
  rw [hR] at HC
  by_cases hc : fr.length = neeN ls
  case neg =>
    have hE2 : forE (rs, r, ls, es) fr = 15 := by unfold forE; rw [orE_r _ hR, orE_l _ (by rw [if_neg hc]; decide), if_neg hc]
    rw [hE2]
    have hcI : ¬ (fr.length : Int) = (neeN ls : Int) := by omega
    have hd : ((fr.length : Int) != (neeN ls : Int)) = true := by simpa using hcI
    generalize neeN ls = N at *
    clear hE2 hE hR hc hT hv hF
    go_enter Tryd.func17, Tryd.ntmps17
    go_wp2_with fail
    refine HC.out.mono ?_
    rintro e w2 ⟨rfl, hb2⟩
    clear cS fS lS
    replace kS := kS.to hb2
    replace kR := kR.to hb2
    replace kH := kH.to hb2
    replace hB1 := bnext hB1 hb2
    clear hb2 hw1 HC
    obtain ⟨cS, fS, lS⟩ := kS.facts
    go_wp2_with fail
    refine (HNd.out _ (HV.out _ hB1)).mono ?_
    rintro e w3 ⟨rfl, hb3⟩
    clear cS fS lS kS
    replace kR := kR.to hb3
    replace kH := kH.to hb3
    replace hB1 := bnext hB1 hb3
    clear hb3
    go_wp2_with fail
    clear hcI hd
    go_loopw [7, 8] (fun e i wr => RfbA 15 w3 e i wr) (fun _ _ _ => 0)
    case atStart => exact ⟨rfl, rfl, rfl⟩
    case round =>
      obtain ⟨rfl, rfl, rfl⟩ := hrel
      obtain ⟨cR, fR, lR⟩ := kR.facts
      obtain ⟨cH, fH, lH⟩ := kH.facts
      go_wp2_with fail
      all_goals
        obtain ⟨W2, hW2, k1, k2, hBW⟩ := HSh.out _ kR kH hB1
        rw [← hW2]
        exact bodyPost_ret (k1.resCCt (P := Tryd.prog) k2 rfl _ rfl rfl (by kernel_rfl) (by kernel_rfl) (by kernel_rfl)) rfl ⟨_, _, rfl, SpV.zero _, SpV.zero _, hBW⟩
  have hE2 : forE (rs, r, ls, es) fr = fst0 (fitF (rs, r, ls, es) fr) fr.length := by unfold forE; rw [orE_r _ hR, orE_r _ (if_pos hc)]
  rw [hE2] at hE ⊢
  have h8 := (tab_zero hT).1
  have h64 := (tab_zero hT).2.1
  rw [← hc] at HNd
  obtain ⟨gF, oF, rfl, hgF, hcF⟩ := hF.2 (show 0 < fr.length by rw [hc]; unfold neeN; omega)
  have HCell : Hid (∀ W, Below w.heap.size w W → ∀ j, j < fr.length → W.cell? ⟨gF, oF + j, none⟩ = some (.int .i64 (fr.getD j 0))) := Lib.hid (fun W hb j hj => (hb.cell (p := ⟨gF, oF + j, none⟩) hgF).trans (hcF j _ (by simp [iw, List.getD_eq_getElem?_getD, hj])))
  have HUs := Lib.hid (fun W h k (hk : fr.getD k 0 ≠ -1) => rused28_any rs r ls es (.agg #[.slice A rs.length c, .int .i64 r, .slice L ls.length cl, .slice B es.length d]) (fr.getD k 0) W h hs hT hk)
  have HF2 := Lib.hid (fun k h => fit_two (s := (rs, r, ls, es)) (fr := fr) (k := k) h)
  have HF7 := Lib.hid (fun k h h2 => fit_seven (s := (rs, r, ls, es)) (fr := fr) (k := k) h h2)
  have HF0 := Lib.hid (fun k h h2 h3 => fit_none (s := (rs, r, ls, es)) (fr := fr) (k := k) h h2 h3)
  have HHit := Lib.hid (fun k h0 he hk => fst0_hit (fitF (rs, r, ls, es) fr) k fr.length h0 he hk)
  have HStp := Lib.hid (fun k h0 he => fst0_step (fitF (rs, r, ls, es) fr) k h0 he)
  have HTn := Lib.hid (fun z k hk h => take_no (fr := fr) (z := z) (k := k) hk h)
  have HTm := Lib.hid (fun i j hij hj => take_mem (fr := fr) (i := i) (j := j) hij hj)
  generalize hff : fitF (rs, r, ls, es) fr = f at *
  generalize hEE : fst0 f fr.length = E at *
  obtain ⟨N, hN⟩ : ∃ N, N = fr.length := ⟨_, rfl⟩
  rw [← hN] at HCell HNd HHit HTn HTm hfn hEE ⊢
  have HEE := Lib.hid hEE
  have hd : (E != 0) = true := by simpa using hE
  have hd2 : (E == 0) = false := by simpa using hE
  have HE := Lib.hid hE
  clear hE2 hE hR hc hT hv hF hcF hff hEE hN h8 h64 cS fS lS
  obtain ⟨cS, fS, lS⟩ := kS.facts
  go_enter Tryd.func17, Tryd.ntmps17
  go_wp2_with fail
  refine HC.out.mono ?_
  rintro e w2 ⟨rfl, hb2⟩
  clear cS fS lS
  replace kS := kS.to hb2
  replace kR := kR.to hb2
  replace kH := kH.to hb2
  replace hB1 := bnext hB1 hb2
  clear hb2 hw1 HC
  obtain ⟨cS, fS, lS⟩ := kS.facts
  go_wp2_with fail
  refine (HNd.out _ (HV.out _ hB1)).mono ?_
  rintro e w3 ⟨rfl, hb3⟩
  clear cS fS lS
  replace kS := kS.to hb3
  replace kR := kR.to hb3
  replace kH := kH.to hb3
  replace hB1 := bnext hB1 hb3
  clear hb3 HNd
  go_wp2_with fail
  go_loopw [7, 8] (fun e i wr => RfbI f N E w3 e i wr) (fun _ i _ => N - (intOf i).toNat)
  case atStart => exact ⟨0, by omega, rfl, Below.refl _ _, .inl ⟨rfl, rfl⟩⟩
  case round =>
    obtain ⟨k, hk, rfl, hBx, he⟩ := hrel
    have kSr := kS.to hBx
    have kRr := kR.to hBx
    have kHr := kH.to hBx
    have hBw := bnext hB1 hBx
    rcases he with ⟨rfl, h0⟩ | rfl
    case inr =>
      clear kS kR kH hB1 hBx
      obtain ⟨cR, fR, lR⟩ := kRr.facts
      obtain ⟨cH, fH, lH⟩ := kHr.facts
      go_wp2_with fail
      all_goals
        obtain ⟨W2, hW2, k1, k2, hBW⟩ := HSh.out _ kRr kHr hBw
        rw [← hW2]
        exact bodyPost_ret (k1.resCCt (P := Tryd.prog) k2 rfl _ rfl rfl (by kernel_rfl) (by kernel_rfl) (by kernel_rfl)) rfl ⟨_, _, rfl, SpV.zero _, SpV.zero _, hBW⟩
    by_cases hlt : k < N
    case neg =>
      obtain rfl : k = N := by omega
      exact absurd (HEE.out.symm.trans h0) HE.out
    have hkI : (k : Int) < N := by omega
    have hkN : (0 : Int) ≤ k := by omega
    have hck := HCell.out wr hBw k hlt
    have HU1 := Lib.hid (fun W (hb : Below w.heap.size w W) hz => HUs.out W (HV.out W hb) k hz)
    have H2 := Lib.hid (HF2.out k)
    have H7 := Lib.hid (HF7.out k)
    have H0 := Lib.hid (HF0.out k)
    have HH := Lib.hid (fun he => HHit.out k h0 he hlt)
    have HS := Lib.hid (fun he => HStp.out k h0 he)
    generalize hzz : fr.getD k 0 = z at *
    have HZ := Lib.hid hzz
    generalize usedB (rs, r, ls, es) z = ub at *
    clear hzz h0
    by_cases hrg : z < 0 ∨ 255 < z
    case pos =>
      have HEf : Hid (E = 2) := Lib.hid (by have h2 := H2.out hrg; have := HH.out (by rw [h2]; decide); rw [h2] at this; exact this)
      have hE2 := HEf.out
      subst hE2
      clear HH HS H2 H7 H0 HU1
      rcases Int.lt_or_le z 0 with hz0 | hz0
      · have d1 : decide (z < 0) = true := decide_eq_true hz0
        clear hrg
        go_wp2_with fail
        go_loopw [7, 9] (fun e m wy => RfbA 2 wr e m wy) (fun _ _ _ => 0)
        case atStart => exact ⟨rfl, rfl, rfl⟩
        case round =>
          obtain ⟨rfl, rfl, rfl⟩ := hrel
          go_wp2_with fail
          all_goals
            go_upto_region 14 with fail
            go_quiet (fail)
            go_wp2_with fail
            go_roundw
            case rel => exact ⟨k + 1, by omega, by go_num, below_drewN hBx _, .inr rfl⟩
            case measure => simp [intOf]; omega
      · have d1 : decide (z < 0) = false := decide_eq_false (by omega)
        have d2 : decide (256 ≤ z) = true := decide_eq_true (by omega)
        have d3 : ¬ z < 0 := by omega
        have d4 : 256 ≤ z := by omega
        clear hrg
        go_wp2_with fail
        go_loopw [7, 9] (fun e m wy => RfbA 2 wr e m wy) (fun _ _ _ => 0)
        case atStart => exact ⟨rfl, rfl, rfl⟩
        case round =>
          obtain ⟨rfl, rfl, rfl⟩ := hrel
          go_wp2_with fail
          all_goals
            go_upto_region 14 with fail
            go_quiet (fail)
            go_wp2_with fail
            go_roundw
            case rel => exact ⟨k + 1, by omega, by go_num, below_drewN hBx _, .inr rfl⟩
            case measure => simp [intOf]; omega
    have d1 : decide (z < 0) = false := decide_eq_false (by omega)
    have d2 : decide (256 ≤ z) = false := decide_eq_false (by omega)
    have d3 : ¬ z < 0 := by omega
    have d4 : ¬ 256 ≤ z := by omega
    have HU2 := Lib.hid (fun W (hb : Below w.heap.size w W) => HU1.out W hb (by omega))
    have H7b := Lib.hid (H7.out hrg)
    have H0b := Lib.hid (H0.out hrg)
    clear HU1 H7 H0 H2 hrg
    go_wp2_with fail
    go_loopw [7, 9] (fun e m wy => RfbJ fr z k wr e m wy) (fun _ m _ => k - (intOf m).toNat)
    case atStart => exact ⟨0, by omega, rfl, Below.refl _ _, .inl ⟨rfl, fun i hi => absurd hi (by omega)⟩⟩
    case round =>
      obtain ⟨j, hj, rfl, hBy, he⟩ := hrel
      replace hBx := bnext hBx hBy
      replace hBw := bnext hBw hBy
      replace kSr := kSr.to hBy
      replace hck := (hBy.cell (p := ⟨gF, oF + k, none⟩) (World.block_lt_of_cell? _ _ hck)).trans hck
      rcases he with ⟨rfl, hno⟩ | ⟨rfl, hmem⟩
      case inr =>
        have HEf : Hid (E = 7) := Lib.hid (by have h2 := H7b.out (.inr hmem); have := HH.out (by rw [h2]; decide); rw [h2] at this; exact this)
        have hE2 := HEf.out
        subst hE2
        clear hmem
        go_wp2_with fail
        all_goals
          go_upto_region 14 with fail
          go_quiet (fail)
          go_wp2_with fail
          go_roundw
          case rel => exact ⟨k + 1, by omega, by go_num, below_drewN hBx _, .inr rfl⟩
          case measure => simp [intOf]; omega
      by_cases hlj : j < k
      · have hjI : (j : Int) < k := by omega
        have hjN : (0 : Int) ≤ j := by omega
        have hjM : (j : Int) < N := by omega
        have hcj := HCell.out _ hBw j (by omega)
        have hm := HTm.out j k hlj hlt
        generalize hyy : fr.getD j 0 = y at *
        by_cases hyz : y = z
        · have d5 : (y == z) = true := by simpa using hyz
          have HM : Hid (z ∈ fr.take k) := Lib.hid (by rw [← hyz]; exact hm)
          clear hno hm hyz hyy
          go_upto_region 12 with fail
          go_quiet (fail)
          go_wp2_with fail
          go_roundw
          case rel => exact ⟨j + 1, by omega, by go_num, below_drewN hBy _, .inr ⟨rfl, HM.out⟩⟩
          case measure => simp [intOf]; omega
        · have d5 : (y == z) = false := by simpa using hyz
          have HNo : Hid (∀ i, i < j + 1 → fr.getD i 0 ≠ z) := Lib.hid (fun i hi => by
            rcases Nat.lt_or_ge i j with h | h
            · exact hno i h
            · obtain rfl : i = j := by omega
              rw [hyy]
              exact hyz)
          clear hno hm hyz hyy
          go_upto_region 12 with fail
          go_quiet (fail)
          go_wp2_with fail
          go_roundw
          case rel => exact ⟨j + 1, by omega, by go_num, below_drewN hBy _, .inl ⟨rfl, HNo.out⟩⟩
          case measure => simp [intOf]; omega
      · obtain rfl : j = k := by omega
        have HNm := Lib.hid (HTn.out z j (by omega) hno)
        have s0 := kSr.cell 0
        have s1 := kSr.cell 1
        have s2 := kSr.cell 2
        have s3 := kSr.cell 3
        simp at s0 s1 s2 s3
        have lk1 := kSr.lt
        clear hno
        go_upto_region 14 with fail
        go_region_held3 (fun w' => w'.cell? ⟨w.heap.size, 0, none⟩ = some (.slice A rs.length c) ∧ w'.cell? ⟨w.heap.size, 1, none⟩ = some (.int .i64 r) ∧ w'.cell? ⟨w.heap.size, 2, none⟩ = some (.slice L ls.length cl) ∧ w'.cell? ⟨w.heap.size, 3, none⟩ = some (.slice B es.length d) ∧ w'.cell? ⟨gF, oF + j, none⟩ = some (.int .i64 z))
          (refine ⟨?_, ?_, ?_, ?_, ?_⟩ <;> (repeat (with_reducible first | exact s0 | exact s1 | exact s2 | exact s3 | exact hck | refine cell_drew ?_ | refine cell_later hbG ?_)))
          (first
            | (go_at_call 53
               refine (HU2.out _ (below_drew hBw)).mono ?_
               rintro e wG ⟨rfl, hbG⟩))
        all_goals
          cases ub with
          | true =>
            have HEf : Hid (E = 7) := Lib.hid (by have h2 := H7b.out (.inl rfl); have := HH.out (by rw [h2]; decide); rw [h2] at this; exact this)
            have hE2 := HEf.out
            subst hE2
            go_wp2_with fail
            go_roundw
            case rel => exact ⟨j + 1, by omega, by go_num, bnext (below_drew hBx) hbG, .inr rfl⟩
            case measure => simp [intOf]; omega
          | false =>
            have HZr := Lib.hid (HS.out (H0b.out rfl HNm.out))
            go_wp2_with fail
            go_roundw
            case rel => exact ⟨j + 1, by omega, by go_num, bnext (below_drew hBx) hbG, .inl ⟨rfl, HZr.out⟩⟩
            case measure => simp [intOf]; omega
end Go.Proofs.YtmjahjdnfijpkaaDoor
