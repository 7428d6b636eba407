/- Several texts in one. -/
import Derived.Test.YtpkgfkhaiifooaaGreatDoorSpC
import Derived.Test.YtpkgfkhaiifooaaGreatDoorMadeP
import Derived.Test.YtpkgfkhaiifooaaGreatDoorSp1
import Derived.Test.YtpkgfkhaiifooaaGreatDoorPages
import Derived.Test.YtpkgfkhaiifooaaGreatDoorGW
import Derived.Test.YtpkgfkhaiifooaaGreatDoorSpO
import Derived.Test.YtpkgfkhaiifooaaGreatDoorGZ
import Derived.Test.YtpkgfkhaiifooaaGreatDoorSpT
import Derived.Test.YtpkgfkhaiifooaaGreatDoorSpM
import Derived.Test.YtpkgfkhaiifooaaGreatDoorSpF
import Derived.Test.YtpkgfkhaiifooaaGreatDoorGD
import Derived.Test.YtpkgfkhaiifooaaGreatDoorGV
/- The iterator over the entries of a table, where the pages that came so far are known also at a stop. -/
namespace Go.Proofs.YtpkgfkhaiifooaaGreatDoor
open Go Go.Proofs Go.RowKit Go.Shelf
set_option linter.unusedSimpArgs false
set_option linter.unusedVariables false
attribute [local go_sem] Oper.semAt_some

set_option maxRecDepth 100000 in
set_option maxHeartbeats 4000000 in
theorem entries1_at (F : Fence) (n : Nat) (h32 : F.fn 82) (hf : F.fn 80) (hU : ∀ x u, x < 18446744073709551616 → LayOK u → CallsIn F (n - 1) Tryz.prog 80 #[.int .u64 (x : Nat)] u fun e u' => EnRes u u' (unpR x) e) (hro : F.round = none) (hn : 1 ≤ n) (l Br : Nat) (B : Option Addr) (d : Nat) (es : List Nat) (hes : es.length = 64)
    (hsm : ∀ p, p < 64 → es.getD p 0 < 18446744073709551616) (hok : ∀ p, p < 64 → (unpR (es.getD p 0)).2 = 0) (J Jx : List Pg → World → Prop)
    (hY : ∀ pre x W, J pre W → pre.length < 64 → YieldAt F (n - 1) Tryz.prog l #[.int .i64 x.1, entV (entP es x.1.toNat)] W fun e W' =>
      (e = .returned (.bool true) ∧ J (pre ++ [x]) W' ∧ KeepE Br B W W') ∨ (e = .returned (.bool false) ∧ Jx (pre ++ [x]) W'))
    (W : World) (hc2 : W.cell? ⟨Br, 2, none⟩ = some (.slice B 64 d)) (hL : LayOK W) (hR : Rd W 1 B 64 (uw es)) (hBr : Br < W.heap.size) (hJ0 : J [] W)
    (hJb : ∀ pre X Y, J pre X → X.grownBy Y none → J pre Y) :
    CallsIn F n Tryz.prog 82 #[.func (.yield l) #[] #[], .pointer (some ⟨Br, 0, none⟩)] W fun e W' => (∃ v, e = .returned v) ∧
      ((∃ ys, ys = pgs 0 64 ∧ J ys W') ∨ (∃ pre, pre = pgs 0 pre.length ∧ Jx pre W')) := by
  refine callsIn_of_wp Tryz.func82 rfl h32 ?_ hro
  simp only [Tryz.ntmps82, List.size_toArray, List.length_cons, List.length_nil, Nat.reduceAdd, Nat.reduceSub, Array.replicate_succ, Array.replicate_zero, List.push_toArray, List.append_toArray, List.nil_append, List.cons_append]
  gi_wp2
  gi_loopw [10] (fun p wr => ∃ k : Nat, k ≤ 64 ∧ p = .int .i64 k ∧ J (pgs 0 k) wr ∧ KeepE Br B W wr)
    (fun p _ => 64 - (intOf p).toNat)
  case atStart =>
    exact ⟨0, by omega, by simp, hJ0, rfl, rfl, fun _ _ _ _ => rfl⟩
  case round =>
    obtain ⟨k, hk, rfl, hJs, hB⟩ := hrel
    have hLr := hL.keep hB.1
    have hRr := hR.keepA hB.2.2
    by_cases hlt : k < 64
    · obtain ⟨A0, o0, hBe, hcell⟩ : ∃ b o, B = some ⟨b, o, none⟩ ∧ wr.cell? ⟨b, o + k, none⟩ = some (.int .u64 ((es.getD k 0 : Nat) : Int)) := by
        obtain ⟨b, off, e, _, hc⟩ := hRr.2 (by omega)
        refine ⟨b, off, e, hc k _ ?_⟩
        have : k < es.length := by omega
        simp [uw, this]
      subst hBe
      have hx := hsm k hlt
      have hk0 := hok k hlt
      have hfe : entP es k = (unpR (es.getD k 0)).1 := rfl
      generalize es.getD k 0 = z at hx hk0 hfe hcell
      gi_wp2_with (gi_at_call 80; refine (hU _ _ hx hLr).mono ?_; rintro e w1 ⟨rfl, hb1⟩; rw [hk0])
      have hLr1 : J (pgs 0 k) (w1.alloc (.cells #[.int .i64 (unpR z).1.1, .int .i64 (unpR z).1.2.1, .bool (unpR z).1.2.2.1, .bool (unpR z).1.2.2.2.1, .bool (unpR z).1.2.2.2.2] 57)) := hJb _ _ _ (hJb _ _ _ hJs (grown_below hb1)) (grown_below ((Below.refl _ _).alloc (Nat.le_refl _) _))
      obtain ⟨fn, tmps, assign, body, hy, hR0⟩ := hY (pgs 0 k) (pg k) _ hLr1 (by rw [pgs_len]; omega)
      rw [pg_val _ (by omega) (by omega), Int.toNat_natCast, hfe] at hy
      unfold entV at hy
      have hBa : Below wr.heap.size wr (w1.alloc (.cells #[.int .i64 (unpR z).1.1, .int .i64 (unpR z).1.2.1, .bool (unpR z).1.2.2.1, .bool (unpR z).1.2.2.2.1, .bool (unpR z).1.2.2.2.2] 57)) := balloc hb1 _
      have hA0 := World.block_lt_of_cell? _ _ hcell
      have hc2r : wr.cell? ⟨Br, 2, none⟩ = some (.slice (some ⟨A0, o0, none⟩) 64 d) := (hB.2.1.cell 2).trans hc2
      have hKa : KeepE Br (some ⟨A0, o0, none⟩) wr _ := ⟨KeepB.of_below hBa hLr.lt, KeepB.of_below hBa (World.block_lt_of_cell? _ _ hc2r), fun b o p e => by injection e with e; injection e with e; subst e; exact KeepB.of_below hBa hA0⟩
      gi_wp2
      refine hR0.mono ?_
      rintro e W3 (⟨rfl, hJ3, hk3⟩ | ⟨rfl, hJx3⟩)
      · gi_wp2
        go_roundw
        case rel => exact ⟨k + 1, by omega, by go_num, by rw [pgs_succ, Int.zero_add]; exact hJ3, keepE_t hB (keepE_t hKa hk3)⟩
        case measure => simp [intOf]; omega
      · gi_wp2
        refine bodyPost_ret (results_none rfl _ _ _) rfl ?_
        exact ⟨⟨_, rfl⟩, .inr ⟨_, by rw [List.length_append, pgs_len, List.length_singleton, pgs_succ, Int.zero_add], hJx3⟩⟩
    · obtain rfl : k = 64 := by omega
      gi_wp2
      go_end0
      exact ⟨⟨_, rfl⟩, .inl ⟨_, rfl, hJs⟩⟩
theorem entries_stopsAt (Br : Nat) (B : Option Addr) (d : Nat) (r : Int) (ls : List Int) (es : List Nat) (hT : tabE r ls es = 0) (hs : wsmall es) (w : World) (hL : LayOK w) (hR : Rd w 1 B 64 (uw es)) (hc2 : w.cell? ⟨Br, 2, none⟩ = some (.slice B 64 d)) :
    SeqStopsK Fence.wide 3 Tryz.prog 82 #[.pointer (some ⟨Br, 0, none⟩)] (fun x : Pg => #[Value.int .i64 x.1, entV (entP es x.1.toNat)]) (KeepE Br B) (fun ys => ys = pgs 0 64) (fun pre => pre = pgs 0 pre.length) 64 w := fun l J Jx W hW hJ hJx hY hJ0 => by
  obtain ⟨_, h64, _⟩ := tab_zero hT
  refine entries1_at Fence.wide 3 trivial trivial (fun x u hx hu => callsIn_wide.2 (Unpack_any x u hx hu)) rfl (by omega) l Br B d es h64 (fun p hp => ?_) (fun p hp => unp_in hT p hp) J Jx hY W ?_ (hL.below hW) (hR.below hW (Nat.le_refl _)) ?_ hJ0 (fun pre X Y hX hg => hJ pre X Y none hX hg (fun r e => by cases e))
  · rw [List.getD_eq_getElem?_getD, List.getElem?_eq_getElem (show p < es.length by omega)]
    exact hs _ (List.getElem_mem _)
  · exact (hW.cell (World.block_lt_of_cell? _ _ hc2)).trans hc2
  · exact Nat.lt_of_lt_of_le (World.block_lt_of_cell? _ _ hc2) hW.size

end Go.Proofs.YtpkgfkhaiifooaaGreatDoor
/- What an address space loses: plain numbers. -/
namespace Go.Proofs.YtpkgfkhaiifooaaGreatDoor
open Go Go.Proofs Go.RowKit
set_option linter.unusedSimpArgs false
set_option linter.unusedVariables false

theorem getD_setL (ls : List Int) (p j : Nat) (x : Int) (hp : p < ls.length) : (ls.set p x).getD j 0 = if j = p then x else ls.getD j 0 := by
  rw [List.getD_eq_getElem?_getD, List.getElem?_set]
  by_cases h : p = j
  · subst h
    rw [if_pos rfl, if_pos hp, if_pos rfl]
    rfl
  · rw [if_neg h, if_neg (fun e => h e.symm), List.getD_eq_getElem?_getD]
theorem empty_iffL (es : List Nat) (j : Nat) : emptyB es j = true ↔ ∀ i, i < 8 → unpK (es.getD (j * 8 + i) 0) = 0 := by
  unfold emptyB
  rw [List.all_eq_true]
  constructor
  · intro h i hi
    simpa using h i (List.mem_range.2 hi)
  · intro h i hi
    simpa using h i (List.mem_range.1 hi)
/-- A table without an empty leaf is valid. -/
theorem unset_validL {r : Int} {ls : List Int} {es : List Nat} (h : tabE r ls es = 0) (j : Nat) (hj : j < 8) (he : emptyB es j = true) : tabE r (ls.set j (-1)) es = 0 := by
  obtain ⟨h1, h2, h3, h4, h5, h6, h7, h8⟩ := tab_zero h
  have hg : ∀ i, (ls.set j (-1)).getD i 0 = if i = j then -1 else ls.getD i 0 := fun i => getD_setL ls j i (-1) (by omega)
  unfold tabE
  rw [if_neg (by rw [List.length_set]; omega)]
  have hB : badF r = 0 := by unfold badF; rw [if_neg (by omega)]
  have hl : lsE (ls.set j (-1)) = 0 := by
    refine (fst0_zero _ _).2 fun i hi => ?_
    rw [hg]
    unfold badF
    rw [if_neg]
    have := h4 i hi
    split <;> omega
  have hd : fst0 (dupE r (ls.set j (-1))) 8 = 0 := by
    refine (fst0_zero _ _).2 fun i hi => ?_
    have := h5 i hi
    unfold dupE at this ⊢
    rw [if_neg]
    rintro ⟨ha, hb⟩
    rw [hg i] at ha hb
    by_cases hij : i = j
    · rw [if_pos hij] at ha
      omega
    · rw [if_neg hij] at ha hb
      rw [if_pos] at this
      · omega
      · refine ⟨ha, ?_⟩
        rcases hb with hb | ⟨q, hq, hb⟩
        · exact Or.inl hb
        · rw [hg q] at hb
          by_cases hqj : q = j
          · rw [if_pos hqj] at hb
            omega
          · rw [if_neg hqj] at hb
            exact Or.inr ⟨q, hq, hb⟩
  have hs : fst0 (stE r (ls.set j (-1))) 8 = 0 := by
    refine (fst0_zero _ _).2 fun i hi => ?_
    have := h6 i hi
    unfold stE at this ⊢
    rw [hg i]
    by_cases hij : i = j
    · rw [if_pos hij, if_neg (by omega)]
    · rw [if_neg hij]
      exact this
  have hf : frmE r (ls.set j (-1)) = 0 := by
    unfold frmE
    rw [orE_r _ hB, orE_r _ hl, orE_r _ hd, hs]
  rw [orE_r _ hf]
  refine (fst0_zero _ _).2 fun p hp => ?_
  unfold entB
  rw [orE_r _ (h7 p hp), if_neg]
  rintro ⟨ha, hb⟩
  rw [hg] at hb
  by_cases hij : p / 8 = j
  · have := (empty_iffL es j).1 he (p % 8) (by omega)
    rw [show j * 8 + p % 8 = p by omega, unpK_eq _ (h7 p hp)] at this
    omega
  · rw [if_neg hij] at hb
    exact h8 p hp ⟨ha, hb⟩

/-- Clear of an entry in a valid table. -/
theorem clear_ok {r : Int} {ls : List Int} {es : List Nat} (h : tabE r ls es = 0) (hs : wsmall es) (p : Nat) (hp : p < 64) (hk : unpK (es.getD p 0) ≠ 0) :
    ∃ ls' lf, clearR r ls es p = ((r, ls', es.set p 0), lf, 0) ∧ tabE r ls' (es.set p 0) = 0 ∧ wsmall (es.set p 0) := by
  have hc : clearE r ls es p = 0 := by
    unfold clearE askE
    rw [orE_r _ (by rw [orE_r _ h, if_neg (by omega)]), Int.toNat_natCast, if_neg hk]
  have hv : tabE r ls (es.set p 0) = 0 := put_valid h p 0 hp (by decide +kernel) (fun hh => hh.1 rfl)
  have hw : wsmall (es.set p 0) := wsmall_set hs p (by decide)
  have hq : ((p : Int) / 8).toNat = p / 8 := by omega
  unfold clearR
  rw [if_neg (by omega), Int.toNat_natCast]
  by_cases he : emptyB (es.set p 0) (p / 8) = true
  · rw [if_pos he]
    exact ⟨_, _, rfl, unset_validL hv (p / 8) (by omega) he, hw⟩
  · rw [if_neg he]
    exact ⟨_, _, rfl, hv, hw⟩
/-- A loss: the page, its entry, and the frame of the leaf that goes with it. -/
abbrev Lo : Type := Int × (Int × Int × Bool × Bool × Bool) × Int
def losS (r : Int) (es0 : List Nat) (a b : Int) (st : List Int × List Nat × List Lo) (x : Pg) : List Int × List Nat × List Lo :=
  if x.1 < a ∨ b < x.1 ∨ (entP es0 x.1.toNat).1 = 0 then st
  else ((clearR r st.1 st.2.1 x.1).1.2.1, (clearR r st.1 st.2.1 x.1).1.2.2, st.2.2 ++ [(x.1, entP es0 x.1.toNat, (clearR r st.1 st.2.1 x.1).2.1)])
def losP (r : Int) (ls : List Int) (es : List Nat) (a b : Int) (pre : List Pg) : List Int × List Nat × List Lo := pre.foldl (losS r es a b) (ls, es, [])
theorem losP_snoc (r : Int) (ls : List Int) (es : List Nat) (a b : Int) (pre : List Pg) (x : Pg) : losP r ls es a b (pre ++ [x]) = losS r es a b (losP r ls es a b pre) x := by simp [losP]
/-- What the table is behind the pages below n. -/
theorem los_facts {r : Int} {ls : List Int} {es : List Nat} (h : tabE r ls es = 0) (hs : wsmall es) (a b : Int) : ∀ n : Nat, n ≤ 64 →
    tabE r (losP r ls es a b (pgs 0 n)).1 (losP r ls es a b (pgs 0 n)).2.1 = 0 ∧ wsmall (losP r ls es a b (pgs 0 n)).2.1 ∧ (losP r ls es a b (pgs 0 n)).2.2.length ≤ n ∧
      (∀ j, j < 64 → (losP r ls es a b (pgs 0 n)).2.1.getD j 0 = if j < n ∧ a ≤ (j : Int) ∧ (j : Int) ≤ b ∧ (entP es j).1 ≠ 0 then 0 else es.getD j 0)
  | 0, _ => ⟨h, hs, Nat.le_refl _, fun j hj => by rw [if_neg (by omega)]; rfl⟩
  | n + 1, hn => by
    obtain ⟨h1, h2, h3, h4⟩ := los_facts h hs a b n (by omega)
    have hx : (pg (0 + (n : Int))).1 = (n : Int) := by rw [pg_val _ (by omega) (by omega)]; omega
    rw [pgs_succ, losP_snoc]
    unfold losS
    rw [hx, Int.toNat_natCast]
    generalize losP r ls es a b (pgs 0 n) = st at *
    obtain ⟨ls1, es1, lo1⟩ := st
    simp only at h1 h2 h3 h4 ⊢
    by_cases hc : (n : Int) < a ∨ b < (n : Int) ∨ (entP es n).1 = 0
    · rw [if_pos hc]
      refine ⟨h1, h2, by simp only; omega, fun j hj => ?_⟩
      simp only
      rw [h4 j hj]
      by_cases hjn : j = n
      · subst hjn
        rw [if_neg (by omega), if_neg (by
          rintro ⟨_, q1, q2, q3⟩
          rcases hc with hc | hc | hc
          · omega
          · omega
          · exact q3 hc)]
      · by_cases hq : j < n ∧ a ≤ (j : Int) ∧ (j : Int) ≤ b ∧ (entP es j).1 ≠ 0
        · rw [if_pos hq, if_pos ⟨by omega, hq.2⟩]
        · rw [if_neg hq, if_neg (fun hh => hq ⟨by omega, hh.2⟩)]
    · rw [if_neg hc]
      have hk0 : (entP es n).1 ≠ 0 := fun hh => hc (.inr (.inr hh))
      have he : es1.getD n 0 = es.getD n 0 := by rw [h4 n (by omega), if_neg (by omega)]
      have hk : unpK (es1.getD n 0) ≠ 0 := by rw [he]; exact hk0
      obtain ⟨ls', lf, g1, g2, g3⟩ := clear_ok h1 h2 n (by omega) hk
      have h64 := (tab_zero h1).2.1
      rw [g1]
      refine ⟨g2, g3, by simp only [List.length_append, List.length_singleton]; omega, fun j hj => ?_⟩
      simp only
      rw [getD_set es1 n 0 j (by omega)]
      by_cases hjn : j = n
      · subst hjn
        rw [if_pos rfl, if_pos ⟨by omega, by omega, by omega, hk0⟩]
      · rw [if_neg hjn, h4 j hj]
        by_cases hq : j < n ∧ a ≤ (j : Int) ∧ (j : Int) ≤ b ∧ (entP es j).1 ≠ 0
        · rw [if_pos hq, if_pos ⟨by omega, hq.2⟩]
        · rw [if_neg hq, if_neg (fun hh => hq ⟨by omega, hh.2⟩)]
end Go.Proofs.YtpkgfkhaiifooaaGreatDoor
/- What the two inner functions of space.Unmap and space.Empty do with a loss. -/
namespace Go.Proofs.YtpkgfkhaiifooaaGreatDoor
open Go Go.Proofs Go.RowKit Go.Shelf
set_option linter.unusedSimpArgs false
set_option linter.unusedVariables false
set_option maxRecDepth 100000

/-- A loss as cells. -/
def loC (l : Lo) : List Value := [.int .i64 l.1, .int .i64 l.2.1.1, .int .i64 l.2.1.2.1, .bool l.2.1.2.2.1, .bool l.2.1.2.2.2.1, .bool l.2.1.2.2.2.2, .int .i64 l.2.2]
def loW (ls : List Lo) : List Value := ls.flatMap loC
theorem loW_snoc (ls : List Lo) (x : Lo) : loW (ls ++ [x]) = loW ls ++ loC x := by simp [loW]
theorem infoLost : (Tryz.prog.info? 59).map (fun i => (i.zero, i.size, i.bytes)) = some (some (.agg #[.int .i64 0, .int .i64 0, .int .i64 0, .bool false, .bool false, .bool false, .int .i64 0]), 7, 40) := by kernel_rfl
theorem cells_new (W : World) (xs : List Value) (t : TypeId) : ∀ j u, xs[j]? = some u → (W.alloc (.cells xs.toArray t)).cell? ((⟨W.heap.size, 0, none⟩ : Addr).add j) = some u := by
  intro j u hu
  have := (Bk.new W xs.toArray t).cell j
  rw [Addr.add_mid, Nat.zero_add, this]
  simpa using hu
/-- The rows of tables lie as they lay. -/
def TyT (t : TypeId) : Prop := t = 3 ∨ t = 85 ∨ t = 108
def KTy (W W' : World) : Prop := ∀ (b : Nat) (cs : Array Value) (t : TypeId) (f : Nat × Nat), W.heap[b]? = some (Obj.cells cs t f) → TyT t → W'.heap[b]? = W.heap[b]?
theorem KTy.trans {A B C : World} (h : KTy A B) (k : KTy B C) : KTy A C := fun b cs t f e ht => (k b cs t f ((h b cs t f e ht).trans e) ht).trans (h b cs t f e ht)
theorem KTy.of_below {W W' : World} (h : Below W.heap.size W W') : KTy W W' := fun b cs t f e _ => h.block b (Array.getElem?_eq_some_iff.1 e).1
theorem KTy.set {W : World} {p : Addr} {cs : Array Value} {t : TypeId} {f : Nat × Nat} (k : W.heap[p.block]? = some (.cells cs t f)) (ht : ¬ TyT t) (u : Value) : KTy W (W.setCell p u) := fun b cs' t' f' e ht' => by
  refine Below.heap_setCell W p u b fun hb => ?_
  subst hb
  rw [k] at e
  injection e with e
  injection e with _ e _
  subst e
  exact ht ht'
theorem KTy.grown {W W' : World} {row : Option Nat} (hg : W.grownBy W' row) (hr : ∀ j cs t f, row = some j → W.heap[j]? = some (.cells cs t f) → ¬ TyT t) : KTy W W' := fun b cs t f e ht =>
  hg.block b (Array.getElem?_eq_some_iff.1 e).1 fun h => hr b cs t f h.symm e ht
theorem KTy.row {W W' : World} {base n : Nat} {e : TypeId} {sz : Nat} {v : Value} {xs : List Value} (h : W.ownsRow base e sz v n xs) (he : ¬ TyT e) (hg : W.grownBy W' v.ownBlock) : KTy W W' := by
  refine KTy.grown hg fun j cs t f hj hc => ?_
  rcases h.2 with ⟨rfl, _⟩ | ⟨g, cap, cur, rfl, _, hgb, _⟩
  · simp [Value.ownBlock] at hj
  · have : g = j := by simpa [Value.ownBlock] using hj
    subst this
    rw [hgb] at hc
    injection hc with hc
    injection hc with _ hc _
    subst hc
    exact he
theorem tyT_lost : ¬ TyT 59 := by unfold TyT; decide
theorem tyT_losts : ¬ TyT 36 := by unfold TyT; decide
theorem tyT_table : ¬ TyT 26 := by unfold TyT; decide
/-- What a loss more leaves. -/
def LostR (W W' : World) (PB base : Nat) (los : List Lo) : Prop := ∃ v', Boxed W' PB 36 v' ∧ W'.ownsRow base 59 7 v' los.length (loW los) ∧ KeepsOthers W W' ∧ Below PB W W' ∧ (∀ b, b < base → b ≠ PB → KeepB b W W') ∧ KTy W W'

set_option maxHeartbeats 2000000 in
theorem lost1_any (PB base : Nat) (v : Value) (los : List Lo) (x : Lo) (W : World) (hbx : Boxed W PB 36 v) (hrow : W.ownsRow base 59 7 v los.length (loW los)) (hB : PB < base) (hs : base ≤ W.heap.size) (hn : los.length ≤ 64) :
    Calls Tryz.prog 30 #[.agg #[.int .i64 x.1, .int .i64 x.2.1.1, .int .i64 x.2.1.2.1, .bool x.2.1.2.2.1, .bool x.2.1.2.2.2.1, .bool x.2.1.2.2.2.2, .int .i64 x.2.2], .pointer (some ⟨PB, 0, none⟩)] W fun e W' => (∃ r, e = .returned r) ∧ LostR W W' PB base (los ++ [x]) := by
  obtain ⟨i0, hi, hz0, hz1, hz2⟩ := info_parts infoLost
  obtain ⟨p, ⟨k, n, a, b, c⟩, lf⟩ := x
  simp only
  have hW1 := KeepsOthers.alloc W (.cells #[.int .i64 p, .int .i64 k, .int .i64 n, .bool a, .bool b, .bool c, .int .i64 lf] 59)
  have hb1 : Below PB W (W.alloc (.cells #[.int .i64 p, .int .i64 k, .int .i64 n, .bool a, .bool b, .bool c, .int .i64 lf] 59)) := (Below.refl PB W).alloc (by omega) _
  have hk1 : ∀ b', b' < base → KeepB b' W (W.alloc (.cells #[.int .i64 p, .int .i64 k, .int .i64 n, .bool a, .bool b, .bool c, .int .i64 lf] 59)) := fun b' hb' => Below.heap_alloc W _ b' (by omega)
  have kB := Bk.new W #[.int .i64 p, .int .i64 k, .int .i64 n, .bool a, .bool b, .bool c, .int .i64 lf] 59
  have hbx1 := hbx.alloc (.cells #[.int .i64 p, .int .i64 k, .int .i64 n, .bool a, .bool b, .bool c, .int .i64 lf] 59)
  have hrow1 := hrow.alloc (.cells #[.int .i64 p, .int .i64 k, .int .i64 n, .bool a, .bool b, .bool c, .int .i64 lf] 59)
  have hs1 : base ≤ (W.alloc (.cells #[.int .i64 p, .int .i64 k, .int .i64 n, .bool a, .bool b, .bool c, .int .i64 lf] 59)).heap.size := by simp; omega
  have hty1 : KTy W (W.alloc (.cells #[.int .i64 p, .int .i64 k, .int .i64 n, .bool a, .bool b, .bool c, .int .i64 lf] 59)) := KTy.of_below (balloc (Below.refl _ _) _)
  generalize hw1 : W.alloc (.cells #[.int .i64 p, .int .i64 k, .int .i64 n, .bool a, .bool b, .bool c, .int .i64 lf] 59) = w1 at *
  obtain ⟨cB, fB, lB⟩ := kB.facts
  have hc0 := hbx1.cell
  have hf0 := hbx1.frozen
  go_enter Tryz.func30, Tryz.ntmps30
  go_wp2_with (at_builtin; refine wpList_append_own _ rfl _ _ 36 rfl base 59 i0 (.agg #[.int .i64 0, .int .i64 0, .int .i64 0, .bool false, .bool false, .bool false, .int .i64 0]) 7 40 Tryz.underlying36 hi hz0 hz1 hz2 rfl (by decide) _ _ _ rfl (hrow1.alloc _) ⟨w1.heap.size, 0, none⟩ 1 1 (loC (p, (k, n, a, b, c), lf)) rfl rfl (cells_new w1 (loC (p, (k, n, a, b, c), lf)) 59) (by simp [loC, Value.oneCell']) (by simp only [maxLen]; omega) (by omega) (by simp; omega) ?_; intro v' w5 hown' hgrow _; obtain ⟨g', cap', rfl⟩ := ownsRow_succ hown'; obtain ⟨hv1, hv2, hr2, hk2, hb2, hkb⟩ := boxed_append (n₀ := PB) hbx1 hrow1 hB (Nat.le_refl _) hs1 hown' hgrow; have hc1 := hv1.cell; have hf1 := hv1.frozen)
  go_end0
  exact ⟨⟨_, rfl⟩, _, hv2, by rw [loW_snoc, List.length_append]; exact hr2, hW1.trans hk2, hb1.trans hb2, fun b' h1 h2 => keepB_t (hk1 b' h1) (hkb b' h1 h2), hty1.trans ((KTy.of_below (balloc (Below.refl _ _) _)).trans ((KTy.row (hrow1.alloc _) tyT_lost hgrow).trans (KTy.set (p := ⟨PB, 0, none⟩) hv1 tyT_losts _)))⟩
set_option maxHeartbeats 2000000 in
theorem lost2_any (PB base : Nat) (v : Value) (los : List Lo) (x : Lo) (W : World) (hbx : Boxed W PB 36 v) (hrow : W.ownsRow base 59 7 v los.length (loW los)) (hB : PB < base) (hs : base ≤ W.heap.size) (hn : los.length ≤ 64) :
    Calls Tryz.prog 36 #[.agg #[.int .i64 x.1, .int .i64 x.2.1.1, .int .i64 x.2.1.2.1, .bool x.2.1.2.2.1, .bool x.2.1.2.2.2.1, .bool x.2.1.2.2.2.2, .int .i64 x.2.2], .pointer (some ⟨PB, 0, none⟩)] W fun e W' => (∃ r, e = .returned r) ∧ LostR W W' PB base (los ++ [(x.1, x.2.1, -1)]) := by
  obtain ⟨i0, hi, hz0, hz1, hz2⟩ := info_parts infoLost
  obtain ⟨p, ⟨k, n, a, b, c⟩, lf⟩ := x
  simp only
  have kB := Bk.new W #[.int .i64 p, .int .i64 k, .int .i64 n, .bool a, .bool b, .bool c, .int .i64 lf] 59
  have hW0 := KeepsOthers.alloc W (.cells #[.int .i64 p, .int .i64 k, .int .i64 n, .bool a, .bool b, .bool c, .int .i64 lf] 59)
  have hb0 := balloc (Below.refl _ W) (.cells #[.int .i64 p, .int .i64 k, .int .i64 n, .bool a, .bool b, .bool c, .int .i64 lf] 59)
  generalize hw1 : (W.alloc (.cells #[.int .i64 p, .int .i64 k, .int .i64 n, .bool a, .bool b, .bool c, .int .i64 lf] 59)) = w1 at *
  obtain ⟨cB, fB, lB⟩ := kB.facts
  go_enter Tryz.func36, Tryz.ntmps36
  go_upto_region 2 with fail
  have kB2 : Bk (w1.setCell ⟨W.heap.size, 6, none⟩ (.int .i64 (-1))) W.heap.size #[.int .i64 p, .int .i64 k, .int .i64 n, .bool a, .bool b, .bool c, .int .i64 (-1)] 59 := kB.put 6 (.int .i64 (-1))
  have hb2 := hb0.setCell (p := ⟨W.heap.size, 6, none⟩) (Nat.le_refl _) (.int .i64 (-1))
  have hW1 := hW0.trans (KeepsOthers.setCell w1 ⟨W.heap.size, 6, none⟩ (.int .i64 (-1)))
  clear cB fB lB
  generalize hw2 : w1.setCell ⟨W.heap.size, 6, none⟩ (.int .i64 (-1)) = w2 at *
  have hb1 : Below PB W w2 := hb2.mono (by have := hbx.lt; omega)
  have hk1 : ∀ b', b' < base → KeepB b' W w2 := fun b' hb' => KeepB.of_below hb2 (by omega)
  have hbx1 : Boxed w2 PB 36 v := (hb2.block PB hbx.lt).trans hbx
  have hrow1 := own_below hrow hb2
  have hs1 : base ≤ w2.heap.size := Nat.le_trans hs hb2.size
  have hty1 : KTy W w2 := KTy.of_below hb2
  obtain ⟨cB, fB, lB⟩ := kB2.facts
  have hc0 := hbx1.cell
  have hf0 := hbx1.frozen
  go_wp2_with (at_builtin; refine wpList_append_own _ rfl _ _ 36 rfl base 59 i0 (.agg #[.int .i64 0, .int .i64 0, .int .i64 0, .bool false, .bool false, .bool false, .int .i64 0]) 7 40 Tryz.underlying36 hi hz0 hz1 hz2 rfl (by decide) _ _ _ rfl (hrow1.alloc _) ⟨w2.heap.size, 0, none⟩ 1 1 (loC (p, (k, n, a, b, c), -1)) rfl rfl (cells_new w2 (loC (p, (k, n, a, b, c), -1)) 59) (by simp [loC, Value.oneCell']) (by simp only [maxLen]; omega) (by omega) (by simp; omega) ?_; intro v' w5 hown' hgrow _; obtain ⟨g', cap', rfl⟩ := ownsRow_succ hown'; obtain ⟨hv1, hv2, hr2, hk2, hb2, hkb⟩ := boxed_append (n₀ := PB) hbx1 hrow1 hB (Nat.le_refl _) hs1 hown' hgrow; have hc1 := hv1.cell; have hf1 := hv1.frozen)
  go_end0
  exact ⟨⟨_, rfl⟩, _, hv2, by rw [loW_snoc, List.length_append]; exact hr2, hW1.trans hk2, hb1.trans hb2, fun b' h1 h2 => keepB_t (hk1 b' h1) (hkb b' h1 h2), hty1.trans ((KTy.of_below (balloc (Below.refl _ _) _)).trans ((KTy.row (hrow1.alloc _) tyT_lost hgrow).trans (KTy.set (p := ⟨PB, 0, none⟩) hv1 tyT_losts _)))⟩
end Go.Proofs.YtpkgfkhaiifooaaGreatDoor
/- table.Clear with the row that its result lies in. -/
namespace Go.Proofs.YtpkgfkhaiifooaaGreatDoor
open Go Go.Proofs Go.RowKit
set_option linter.unusedSimpArgs false
set_option linter.unusedVariables false
set_option maxRecDepth 100000

def ClrRow (w w' : World) (r : Int) (ls : List Int) (es : List Nat) (fr : Int) (e : Ending) : Prop := ∃ g, e = .returned (.tuple #[.agg #[.int .i64 r, .slice (some ⟨g, 1, none⟩) 8 8, .slice (some ⟨g, 9, none⟩) 64 64], .int .i64 fr, .int .i64 0]) ∧ Bk w' g (arrL r ls es).toArray 108 ∧ w.heap.size ≤ g ∧ ls.length = 8 ∧ es.length = 64 ∧ Below w.heap.size w w'
set_option maxHeartbeats 1000000 in
theorem TClear_row (r : Int) (ls : List Int) (es : List Nat) (v : Value) (p : Nat) (w : World) (hv : TbV w v (r, ls, es)) (hs : wsmall es) (hL : LayOK w) (hE : tabE r ls es = 0) (hp : p < 64) (hk0 : unpK (es.getD p 0) ≠ 0) :
    Calls Tryz.prog 65 #[v, .int .i64 p] w fun e w' => ClrRow w w' r (relL ls (es.set p 0) (p / 8)) (es.set p 0) (relF ls (es.set p 0) (p / 8)) e := by
  obtain ⟨h1, h2, hR, hLs, hDu, hSt, hUn, hMi⟩ := tab_zero hE
  obtain ⟨A, c, B, d, rfl, hA, hB, hcc⟩ := id hv
  simp only at hA hB hcc
  unfold tabV at hv ⊢
  simp only at hv ⊢
  rw [h1, h2] at hv ⊢
  rw [h1] at hA hcc
  rw [h2] at hB
  have kT := ((Bk.new (w) #[.int .i64 r, .slice A 8 c, .slice B 64 d] 26).alloc (.cells #[.int .i64 0, .slice none 0 0, .slice none 0 0] 26))
  have kR := (Bk.new (w.alloc (.cells #[.int .i64 r, .slice A 8 c, .slice B 64 d] 26)) #[.int .i64 0, .slice none 0 0, .slice none 0 0] 26)
  rw [World.size_alloc] at kR
  have hB1 := balloc (balloc (Below.refl _ w) (.cells #[.int .i64 r, .slice A 8 c, .slice B 64 d] 26)) (.cells #[.int .i64 0, .slice none 0 0, .slice none 0 0] 26)
  generalize hw_w1 : (w.alloc (.cells #[.int .i64 r, .slice A 8 c, .slice B 64 d] 26)).alloc (.cells #[.int .i64 0, .slice none 0 0, .slice none 0 0] 26) = w1 at *
  have hpI : (p : Int) < 64 := by omega
  obtain ⟨cT, fT, lT⟩ := kT.facts
  have hln := arrL_len r ls es h1 h2
  have hst := arr_store0 (arr_73 r ls es h1 h2) (arrL_one r ls es)
  go_enter Tryz.func65, Tryz.ntmps65
  go_wp2_with fail
  refine (open_ok r ls es _ p _ (hv.to hB1) hs (hL.below hB1) hE hp).mono ?_
  rintro e w2 ⟨rfl, hb2⟩
  have hw23 : w.heap.size + 1 < w2.heap.size := Nat.lt_of_lt_of_le kR.lt hb2.size
  have hq8 : p / 8 < 8 := by omega
  go_upto_region 2 with fail
  have kA := (Bk.new (w2) (arrL r ls es).toArray 108)
  have hB3 := balloc (Below.refl _ w2) (.cells (arrL r ls es).toArray 108)
  generalize hw_w3 : (w2).alloc (.cells (arrL r ls es).toArray 108) = w3 at *
  replace kR := (kR.to hb2).to hB3
  replace hB1 := bnext (bnext hB1 hb2) hB3
  clear hst cT fT lT hb2 hB3 hw_w1 hw_w3
  have lA := kA.lt
  have ce := arr_ent h1 h2 kA hp
  have hxs := getD_small hs p (by omega)
  have HK := Lib.hid (kind_any (es.getD p 0) w3 hxs (hUn p hp) (hL.below hB1))
  obtain ⟨x, hx⟩ : ∃ x, x = es.getD p 0 := ⟨_, rfl⟩
  rw [← hx] at ce HK hk0
  clear hx
  obtain ⟨kx, hkx⟩ : ∃ kx, kx = unpK x := ⟨_, rfl⟩
  rw [← hkx] at HK hk0
  clear hkx
  have d1 : (kx == 0) = false := by simpa using hk0
  clear hk0
  go_wp2_with (go_at_call 91; refine HK.out.mono ?_; rintro e w4 ⟨rfl, hb4⟩; replace kR := kR.to hb4; replace kA := kA.to hb4; replace hB1 := bnext hB1 hb4; clear ce lA; have ce := arr_ent h1 h2 kA hp; have fe := kA.frozen (9 + p); have lA := kA.lt)
  have kA2 := kA.put (9 + p) (.int .u64 ((0 : Nat) : Int))
  rw [arr_setent h1 p 0] at kA2
  have kR2 := kR.far (p := ⟨w2.heap.size, 9 + p, none⟩) (by show w.heap.size + 1 ≠ w2.heap.size; omega) (.int .u64 ((0 : Nat) : Int))
  have hB2 := hB1.setCell (p := ⟨w2.heap.size, 9 + p, none⟩) (by show w.heap.size ≤ w2.heap.size; omega) (.int .u64 ((0 : Nat) : Int))
  clear ce fe lA
  generalize hw5 : w4.setCell ⟨w2.heap.size, 9 + p, none⟩ (.int .u64 ((0 : Nat) : Int)) = w5 at *
  have hcz : ((0 : Nat) : Int) = 0 := rfl
  rw [hcz] at hw5
  have h2' : (es.set p 0).length = 64 := by simpa using h2
  have hs' : wsmall (es.set p 0) := wsmall_set hs p (by omega)
  have hU' := unp_set0 h2 hUn p
  obtain ⟨es', hes⟩ : ∃ es', es' = es.set p 0 := ⟨_, rfl⟩
  obtain ⟨q, hqq⟩ : ∃ q, q = p / 8 := ⟨_, rfl⟩
  rw [← hes] at kA2 h2' hs' hU'
  rw [← hqq] at hq8
  have HEQ := Lib.hid (And.intro hes hqq)
  clear hes
  have hR2 := release_arr r ls es' w2.heap.size q w5 h1 h2' hq8 hs' hU' kA2 (hL.below hB2)
  rw [hqq] at hR2
  clear hqq
  refine hR2.mono ?_
  rintro e w6 ⟨he6, kA6, hbs⟩
  replace kR2 : Bk w6 (w.heap.size + 1) _ _ := kR2.below hbs.1 (by omega)
  replace hB2 : Below w.heap.size w w6 := hB2.trans (hbs.1.mono (by omega))
  have HF : Hid (relF ls es' (p / 8) = relF ls (es.set p 0) (p / 8) ∧ relL ls es' (p / 8) = relL ls (es.set p 0) (p / 8)) := Lib.hid (by rw [HEQ.out.1]; exact ⟨rfl, rfl⟩)
  have h1' : (relL ls es' (p / 8)).length = 8 := by unfold relL; split <;> simp [h1]
  obtain ⟨fr, hfr⟩ : ∃ fr, fr = relF ls es' (p / 8) := ⟨_, rfl⟩
  obtain ⟨ls', hls'⟩ : ∃ ls', ls' = relL ls es' (p / 8) := ⟨_, rfl⟩
  rw [← hfr] at HF
  rw [← hls'] at HF kA6 h1'
  rw [← hfr] at he6
  subst he6
  clear hfr hls'
  dsimp only
  go_upto_region 8 with fail
  apply wp_region_lit
  refine wpList_load_arr h1' h2' kA6 rfl _ rfl rfl ?_
  go_frame
  go_wp2_with fail
  refine (table_any r ls' es' _ h1' h2').mono ?_
  rintro e w7 ⟨rfl, kB, hb6⟩
  have hw5 : w.heap.size + 1 < w6.heap.size := kR2.lt
  replace kR2 := kR2.to hb6
  replace hB2 := hB2.trans (hb6.mono hB2.size)
  obtain ⟨cR, fR, lR⟩ := kR2.facts
  go_wp2_with fail
  have kF := kR2.put3 (.int .i64 r) (.slice (some ⟨w6.heap.size, 1, none⟩) 8 8) (.slice (some ⟨w6.heap.size, 9, none⟩) 64 64)
  have kB2 := kB.far3 (g := w.heap.size + 1) (by omega) (.int .i64 r) (.slice (some ⟨w6.heap.size, 1, none⟩) 8 8) (.slice (some ⟨w6.heap.size, 9, none⟩) 64 64)
  have hBF := below_put3 hB2 (g := w.heap.size + 1) (by omega) (.int .i64 r) (.slice (some ⟨w6.heap.size, 1, none⟩) 8 8) (.slice (some ⟨w6.heap.size, 9, none⟩) 64 64)
  exact bodyPost_ret (kF.res3 (P := Tryz.prog) rfl _ rfl (by kernel_rfl) (by kernel_rfl)) rfl ⟨w6.heap.size, by rw [← HF.out.1]; rfl, by rw [← HF.out.2, ← HEQ.out.1]; exact kB2, by omega, by rw [← HF.out.2]; exact h1', by rw [← HEQ.out.1]; exact h2', hBF⟩

/-- A block of a table's rows. -/
def IsT (W : World) (b : Nat) : Prop := ∃ (cs : Array Value) (t : TypeId) (f : Nat × Nat), W.heap[b]? = some (Obj.cells cs t f) ∧ TyT t
theorem IsT.keep {W W' : World} {b : Nat} (h : IsT W b) (k : KTy W W') : IsT W' b := by
  obtain ⟨cs, t, f, e, ht⟩ := h
  exact ⟨cs, t, f, (k b cs t f e ht).trans e, ht⟩
theorem IsT.keepB {W W' : World} {b : Nat} (h : IsT W b) (k : KTy W W') : KeepB b W W' := by
  obtain ⟨cs, t, f, e, ht⟩ := h
  exact k b cs t f e ht
theorem IsT.lt {W : World} {b : Nat} (h : IsT W b) : b < W.heap.size := by
  obtain ⟨cs, t, f, e, ht⟩ := h
  exact (Array.getElem?_eq_some_iff.1 e).1
/-- A table whose rows lie at lo or behind. -/
structure TbT (lo : Nat) (W : World) (bA oA cA bB oB cB : Nat) (r : Int) (ls : List Int) (es : List Nat) : Prop where
  a : Rd W 1 (some ⟨bA, oA, none⟩) 8 (iw ls)
  b : Rd W 1 (some ⟨bB, oB, none⟩) 64 (uw es)
  n : ls.length = 8
  m : es.length = 64
  c : 8 ≤ cA
  la : lo ≤ bA
  lb : lo ≤ bB
  ta : IsT W bA
  tb : IsT W bB
theorem TbT.keep {lo : Nat} {W W' : World} {bA oA cA bB oB cB : Nat} {r : Int} {ls : List Int} {es : List Nat} (h : TbT lo W bA oA cA bB oB cB r ls es) (k : KTy W W') : TbT lo W' bA oA cA bB oB cB r ls es :=
  ⟨h.a.keepA (fun b o p e => by injection e with e; injection e with e; subst e; exact h.ta.keepB k), h.b.keepA (fun b o p e => by injection e with e; injection e with e; subst e; exact h.tb.keepB k), h.n, h.m, h.c, h.la, h.lb, h.ta.keep k, h.tb.keep k⟩
theorem TbT.tbv {lo : Nat} {W : World} {bA oA cA bB oB cB : Nat} {r : Int} {ls : List Int} {es : List Nat} (h : TbT lo W bA oA cA bB oB cB r ls es) : TbV W (.agg #[.int .i64 r, .slice (some ⟨bA, oA, none⟩) 8 cA, .slice (some ⟨bB, oB, none⟩) 64 cB]) (r, ls, es) := by
  have := tbv_of (r := r) (ls := ls) (es := es) (cl := cA) (d := cB) (L := some ⟨bA, oA, none⟩) (B := some ⟨bB, oB, none⟩) (w := W) (by rw [h.n]; exact h.a) (by rw [h.m]; exact h.b) (by rw [h.n]; exact h.c)
  rwa [h.n, h.m] at this
theorem TbT.own {w W : World} {gA cA gB cB : Nat} {r : Int} {ls : List Int} {es : List Nat} (h : Own2 W w.heap.size gA cA gB cB ls es) : TbT w.heap.size W gA 0 cA gB 0 cB r ls es := by
  have hl := h.lens
  have hlt := h.lt
  refine ⟨Rd.own h.a, Rd.own h.b, hl.1, hl.2, h.cap, hlt.1.1, hlt.2.1, ?_, ?_⟩
  · rcases h.a.2 with ⟨_, h0⟩ | ⟨g, cap, cur, hv, _, hgb, _⟩
    · omega
    · injection hv with hv
      injection hv with hv
      injection hv with hv
      subst hv
      exact ⟨_, _, _, hgb, .inl rfl⟩
  · rcases h.b.2 with ⟨_, h0⟩ | ⟨g, cap, cur, hv, _, hgb, _⟩
    · omega
    · injection hv with hv
      injection hv with hv
      injection hv with hv
      subst hv
      exact ⟨_, _, _, hgb, .inr (.inl rfl)⟩
theorem TbT.arr {lo g : Nat} {W : World} {r : Int} {ls : List Int} {es : List Nat} (k : Bk W g (arrL r ls es).toArray 108) (hn : ls.length = 8) (hm : es.length = 64) (hl : lo ≤ g) : TbT lo W g 1 8 g 9 64 r ls es := by
  obtain ⟨A, c, B, d, hv, hA, hB, _⟩ := arr_tbv hn hm k
  simp only [tabV, hn, hm] at hv hA hB
  injection hv with hv
  injection hv with hv
  injection hv with _ hv
  injection hv with hv1 hv
  injection hv with hv2 _
  injection hv1 with e1
  injection hv2 with e2
  subst e1 e2
  exact ⟨hA, hB, hn, hm, Nat.le_refl _, hl, hl, ⟨_, _, _, k, .inr (.inr rfl)⟩, ⟨_, _, _, k, .inr (.inr rfl)⟩⟩
end Go.Proofs.YtpkgfkhaiifooaaGreatDoor
/- Between two pages of space.lose. -/
namespace Go.Proofs.YtpkgfkhaiifooaaGreatDoor
open Go Go.Proofs Go.RowKit Go.Shelf
set_option linter.unusedSimpArgs false
set_option linter.unusedVariables false
set_option maxRecDepth 100000

theorem clear_rel {r : Int} {ls : List Int} {es : List Nat} (h : tabE r ls es = 0) (hs : wsmall es) (p : Nat) (hp : p < 64) (hk : unpK (es.getD p 0) ≠ 0) :
    clearR r ls es p = ((r, relL ls (es.set p 0) (p / 8), es.set p 0), relF ls (es.set p 0) (p / 8), 0) ∧ tabE r (relL ls (es.set p 0) (p / 8)) (es.set p 0) = 0 ∧ wsmall (es.set p 0) := by
  obtain ⟨ls', lf, g1, g2, g3⟩ := clear_ok h hs p hp hk
  have hz : clearE r ls es p = 0 := by
    unfold clearE askE
    rw [orE_r _ (by rw [orE_r _ h, if_neg (by omega)]), Int.toNat_natCast, if_neg hk]
  have hR : clearR r ls es p = ((r, relL ls (es.set p 0) (p / 8), es.set p 0), relF ls (es.set p 0) (p / 8), 0) := by
    unfold clearR relL relF
    rw [if_neg (by omega), Int.toNat_natCast]
    have hq : ((p : Int) / 8).toNat = p / 8 := by omega
    rcases emptyB (es.set p 0) (p / 8) with _ | _ <;> rfl
  rw [hR] at g1
  injection g1 with g1 g4
  injection g1 with g1 g5
  injection g5 with g5 g6
  rw [← g5] at g2
  exact ⟨hR, g2, g3⟩
theorem pgs_inv {pre : List Pg} {x : Pg} (h : pre ++ [x] = pgs 0 (pre ++ [x]).length) : pre = pgs 0 pre.length ∧ (pre.length < 64 → x.1 = pre.length) := by
  rw [List.length_append, List.length_singleton, pgs_succ] at h
  obtain ⟨h1, h2⟩ := List.append_inj' h rfl
  refine ⟨h1, fun h64 => ?_⟩
  injection h2 with h2 _
  have hl : x.1 = ((0 : Int) + (pre.length : Int)) % 64 := by rw [h2]; rfl
  omega

/-- What lies in memory between two pages of lose. -/
structure LosB (w w4 : World) (P9 PB : Nat) (r : Int) (ls : List Int) (es : List Nat) (los : List Lo) (u : Value) (bA oA cA bB oB cB : Nat) (W : World) : Prop where
  k9 : Bk W P9 #[.int .i64 r, .slice (some ⟨bA, oA, none⟩) 8 cA, .slice (some ⟨bB, oB, none⟩) 64 cB] 26
  tab : TbT w.heap.size W bA oA cA bB oB cB r ls es
  box : Boxed W PB 36 u
  row : W.ownsRow w4.heap.size 59 7 u los.length (loW los)
  same : ∀ b, b < w4.heap.size → b ≠ PB → b ≠ P9 → W.heap[b]? = w4.heap[b]?
  size : w4.heap.size ≤ W.heap.size
  below : Below PB w W
theorem OwnFrom.not {B q : Nat} {W : World} {row : Option Nat} {cs : Array Value} {t : TypeId} {f : Nat × Nat} (hr : ∀ r, row = some r → B ≤ r ∧ ∃ o : Obj, W.heap[r]? = some o ∧ o.isCells = false) (hq : W.heap[q]? = some (Obj.cells cs t f)) : some q ≠ row := fun e => by
  obtain ⟨_, o, ho, hc⟩ := hr q e.symm
  rw [hq] at ho
  cases ho
  cases hc
theorem LosB.own {w w4 : World} {P9 PB : Nat} {r : Int} {ls : List Int} {es : List Nat} {los : List Lo} {u : Value} {bA oA cA bB oB cB : Nat} (h9 : P9 < w4.heap.size) (hPB : PB < w.heap.size) (hw : w.heap.size ≤ w4.heap.size) : OwnFrom w4.heap.size (fun (_ : Unit) W => LosB w w4 P9 PB r ls es los u bA oA cA bB oB cB W) := by
  rintro _ W W' row h hg hr
  have hne : ∀ b, b < w4.heap.size → some b ≠ row := fun b hb e => by have := (hr b e.symm).1; omega
  have hty : KTy W W' := KTy.grown hg fun j cs t f e hc => absurd e.symm (OwnFrom.not hr hc)
  refine ⟨(hg.block P9 h.k9.lt (hne P9 h9)).trans h.k9, h.tab.keep hty, h.box.kept hg (hne PB (by omega)), h.row.kept hg ?_, fun b hb h1 h2 => (hg.block b (by have := h.size; omega) (hne b hb)).trans (h.same b hb h1 h2), Nat.le_trans h.size hg.size, h.below.grown hg (by have := h.size; omega) (fun k e => by have := (hr k e).1; omega)⟩
  rcases h.row.2 with ⟨rfl, _⟩ | ⟨g, cap, cur, rfl, _, hgb, _⟩
  · exact .inl rfl
  · exact .inr fun e => OwnFrom.not hr hgb (by rw [← e]; rfl)
theorem LosB.to {w w4 : World} {P9 PB : Nat} {r : Int} {ls : List Int} {es : List Nat} {los : List Lo} {u : Value} {bA oA cA bB oB cB : Nat} {W W' : World} (h : LosB w w4 P9 PB r ls es los u bA oA cA bB oB cB W) (hPB : PB < w.heap.size) (hw : w.heap.size ≤ w4.heap.size) (hb : Below W.heap.size W W') : LosB w w4 P9 PB r ls es los u bA oA cA bB oB cB W' :=
  ⟨h.k9.to hb, h.tab.keep (KTy.of_below hb), (hb.block PB h.box.lt).trans h.box, own_below h.row hb, fun b hb' h1 h2 => (hb.block b (by have := h.size; omega)).trans (h.same b hb' h1 h2), Nat.le_trans h.size hb.size, h.below.trans (hb.mono (by have := h.size; omega))⟩
/-- Another table in the box. -/
theorem LosB.put {w w4 : World} {P9 PB : Nat} {r : Int} {ls : List Int} {es : List Nat} {los : List Lo} {u : Value} {bA oA cA bB oB cB : Nat} {W : World} (h : LosB w w4 P9 PB r ls es los u bA oA cA bB oB cB W) (hPB : PB < w.heap.size) (hw : w.heap.size ≤ w4.heap.size) (h9 : w.heap.size ≤ P9) (h94 : P9 < w4.heap.size)
    {ls' : List Int} {es' : List Nat} {bA' oA' cA' bB' oB' cB' : Nat} (ht : TbT w.heap.size W bA' oA' cA' bB' oB' cB' r ls' es') :
    LosB w w4 P9 PB r ls' es' los u bA' oA' cA' bB' oB' cB' (((W.setCell ⟨P9, 0, none⟩ (.int .i64 r)).setCell ⟨P9, 1, none⟩ (.slice (some ⟨bA', oA', none⟩) 8 cA')).setCell ⟨P9, 2, none⟩ (.slice (some ⟨bB', oB', none⟩) 64 cB')) := by
  have k := h.k9.put3 (.int .i64 r) (.slice (some ⟨bA', oA', none⟩) 8 cA') (.slice (some ⟨bB', oB', none⟩) 64 cB')
  have e3 : ∀ b, b ≠ P9 → (((W.setCell ⟨P9, 0, none⟩ (.int .i64 r)).setCell ⟨P9, 1, none⟩ (.slice (some ⟨bA', oA', none⟩) 8 cA')).setCell ⟨P9, 2, none⟩ (.slice (some ⟨bB', oB', none⟩) 64 cB')).heap[b]? = W.heap[b]? := fun b hb => by
    rw [Below.heap_setCell _ ⟨P9, 2, none⟩ _ b hb, Below.heap_setCell _ ⟨P9, 1, none⟩ _ b hb, Below.heap_setCell _ ⟨P9, 0, none⟩ _ b hb]
  have hty : KTy W (((W.setCell ⟨P9, 0, none⟩ (.int .i64 r)).setCell ⟨P9, 1, none⟩ (.slice (some ⟨bA', oA', none⟩) 8 cA')).setCell ⟨P9, 2, none⟩ (.slice (some ⟨bB', oB', none⟩) 64 cB')) := fun b cs t f e hT => e3 b (fun hb => by
    subst hb
    rw [show W.heap[b]? = _ from h.k9] at e
    injection e with e
    injection e with _ e _
    subst e
    exact tyT_table hT)
  refine ⟨k, ht.keep hty, (e3 PB (by omega)).trans h.box, ?_, fun b hb h1 h2 => (e3 b h2).trans (h.same b hb h1 h2), by simpa using h.size, ((h.below.setCell (p := ⟨P9, 0, none⟩) (by show PB ≤ P9; omega) _).setCell (p := ⟨P9, 1, none⟩) (by show PB ≤ P9; omega) _).setCell (p := ⟨P9, 2, none⟩) (by show PB ≤ P9; omega) _⟩
  exact own_far (p := ⟨P9, 2, none⟩) (own_far (p := ⟨P9, 1, none⟩) (own_far (p := ⟨P9, 0, none⟩) h.row h94 _) h94 _) h94 _
/-- A loss more. -/
theorem LosB.lost {w w4 : World} {P9 PB : Nat} {r : Int} {ls : List Int} {es : List Nat} {los los' : List Lo} {u : Value} {bA oA cA bB oB cB : Nat} {W W' : World} (h : LosB w w4 P9 PB r ls es los u bA oA cA bB oB cB W) (hPB : PB < w.heap.size) (hw : w.heap.size ≤ w4.heap.size) (h9 : w.heap.size ≤ P9) (h94 : P9 < w4.heap.size) (hl : LostR W W' PB w4.heap.size los') :
    ∃ u', LosB w w4 P9 PB r ls es los' u' bA oA cA bB oB cB W' := by
  obtain ⟨u', h1, h2, h3, h4, h5, h6⟩ := hl
  exact ⟨u', (h5 P9 h94 (by omega)).trans h.k9, h.tab.keep h6, h1, h2, fun b hb q1 q2 => (h5 b hb q1).trans (h.same b hb q1 q2), Nat.le_trans h.size h3.size, h.below.trans h4⟩
def LosI (f : Lo → Lo) (w w4 : World) (P9 PB : Nat) (r : Int) (ls : List Int) (es : List Nat) (a b : Int) (pre : List Pg) (W : World) : Prop :=
  ∃ ls' es' los u bA oA cA bB oB cB, LosB w w4 P9 PB r ls' es' los u bA oA cA bB oB cB W ∧ tabE r ls' es' = 0 ∧ wsmall es' ∧ los.length ≤ pre.length ∧ (pre = pgs 0 pre.length → losP r ls es a b pre = (ls', es', (losP r ls es a b pre).2.2) ∧ los = (losP r ls es a b pre).2.2.map f)
def LosX (pre : List Pg) : Prop := ¬ pre = pgs 0 pre.length
theorem LosI.own {f : Lo → Lo} {w w4 : World} {P9 PB : Nat} {r : Int} {ls : List Int} {es : List Nat} {a b : Int} (h9 : P9 < w4.heap.size) (hPB : PB < w.heap.size) (hw : w.heap.size ≤ w4.heap.size) : OwnFrom w4.heap.size (LosI f w w4 P9 PB r ls es a b) := by
  rintro pre W W' row ⟨ls', es', los, u, bA, oA, cA, bB, oB, cB, h, h2⟩ hg hr
  exact ⟨ls', es', los, u, bA, oA, cA, bB, oB, cB, LosB.own h9 hPB hw () W W' row h hg hr, h2⟩
theorem losS_no {r : Int} {es : List Nat} {a b : Int} {st : List Int × List Nat × List Lo} {x : Pg} (h : x.1 < a ∨ b < x.1 ∨ (entP es x.1.toNat).1 = 0) : losS r es a b st x = st := by unfold losS; rw [if_pos h]
/-- A page that stays. -/
theorem LosI.skip {f : Lo → Lo} {w w4 : World} {P9 PB : Nat} {r : Int} {ls : List Int} {es : List Nat} {a b : Int} {pre : List Pg} {W : World} (x : Pg) (h : LosI f w w4 P9 PB r ls es a b pre W) (hx : x.1 < a ∨ b < x.1 ∨ (entP es x.1.toNat).1 = 0) : LosI f w w4 P9 PB r ls es a b (pre ++ [x]) W := by
  obtain ⟨ls', es', los, u, bA, oA, cA, bB, oB, cB, h1, h2, h3, h4, h5⟩ := h
  refine ⟨ls', es', los, u, bA, oA, cA, bB, oB, cB, h1, h2, h3, by simp; omega, fun hp => ?_⟩
  rw [losP_snoc, losS_no hx]
  exact h5 (pgs_inv hp).1
/-- A page that goes. -/
theorem los_go {f : Lo → Lo} {r : Int} {ls : List Int} {es : List Nat} {a b : Int} {pre : List Pg} {x : Pg} {ls' : List Int} {es' : List Nat} {los : List Lo} (hT : tabE r ls' es' = 0) (hs : wsmall es')
    (h5 : pre = pgs 0 pre.length → losP r ls es a b pre = (ls', es', (losP r ls es a b pre).2.2) ∧ los = (losP r ls es a b pre).2.2.map f)
    (ha : ¬ x.1 < a) (hb : ¬ b < x.1) (hk : (entP es x.1.toNat).1 ≠ 0) (p : Nat) (hp : x.1 = p) (hk' : unpK (es'.getD p 0) ≠ 0) (hg : pre ++ [x] = pgs 0 (pre ++ [x]).length) :
    losP r ls es a b (pre ++ [x]) = (relL ls' (es'.set p 0) (p / 8), es'.set p 0, (losP r ls es a b (pre ++ [x])).2.2) ∧ los ++ [f (x.1, entP es x.1.toNat, relF ls' (es'.set p 0) (p / 8))] = (losP r ls es a b (pre ++ [x])).2.2.map f := by
  have hx1 := x.2.2
  obtain ⟨q1, q2⟩ := h5 (pgs_inv hg).1
  obtain ⟨c1, _, _⟩ := clear_rel hT hs p (by omega) hk'
  rw [losP_snoc]
  unfold losS
  rw [if_neg (by intro hh; rcases hh with hh | hh | hh; exact ha hh; exact hb hh; exact hk hh), q1]
  simp only
  rw [hp, c1, Int.toNat_natCast]
  refine ⟨rfl, ?_⟩
  rw [List.map_append, ← q2]
  rfl
/-- A page that is not there any more. -/
theorem los_stop {r : Int} {ls : List Int} {es : List Nat} {a b : Int} (hT : tabE r ls es = 0) (hs : wsmall es) {pre : List Pg} {x : Pg} {ls' : List Int} {es' : List Nat}
    (h5 : pre = pgs 0 pre.length → losP r ls es a b pre = (ls', es', (losP r ls es a b pre).2.2)) (hk : (entP es x.1.toNat).1 ≠ 0) (p : Nat) (hp : x.1 = p) (hlen : pre.length < 64) (hk' : unpK (es'.getD p 0) = 0) : LosX (pre ++ [x]) := by
  intro hg
  have hx1 := x.2.2
  obtain ⟨i1, i2⟩ := pgs_inv hg
  have q1 := h5 i1
  have hpl : p = pre.length := by have := i2 hlen; omega
  have := (los_facts hT hs a b pre.length (by omega)).2.2.2 p (by omega)
  rw [← i1, q1] at this
  simp only at this
  rw [if_neg (by omega)] at this
  rw [this] at hk'
  rw [hp, Int.toNat_natCast] at hk
  exact hk hk'
end Go.Proofs.YtpkgfkhaiifooaaGreatDoor
/- What space.lose returns. -/
namespace Go.Proofs.YtpkgfkhaiifooaaGreatDoor
open Go Go.Proofs Go.RowKit Go.Shelf
set_option linter.unusedSimpArgs false
set_option linter.unusedVariables false
set_option maxRecDepth 100000
attribute [local go_sem] Oper.semAt_some

/-- What a closure does with a loss. -/
def LostC (g : Nat) (f : Lo → Lo) (PB : Nat) : Prop := ∀ (base : Nat) (v : Value) (los : List Lo) (x : Lo) (W : World), Boxed W PB 36 v → W.ownsRow base 59 7 v los.length (loW los) → PB < base → base ≤ W.heap.size → los.length ≤ 64 →
    Calls Tryz.prog g #[.agg #[.int .i64 x.1, .int .i64 x.2.1.1, .int .i64 x.2.1.2.1, .bool x.2.1.2.2.1, .bool x.2.1.2.2.2.1, .bool x.2.1.2.2.2.2, .int .i64 x.2.2], .pointer (some ⟨PB, 0, none⟩)] W fun e W' => (∃ r, e = .returned r) ∧ LostR W W' PB base (los ++ [f x])
/-- What lose leaves. -/
def LoseR (f : Lo → Lo) (PB : Nat) (w : World) (r : Int) (ls : List Int) (es : List Nat) (los : List Lo) (e : Ending) (W : World) : Prop :=
  ∃ bA oA cA bB oB cB u, e = .returned (.agg #[.int .i64 r, .slice (some ⟨bA, oA, none⟩) 8 cA, .slice (some ⟨bB, oB, none⟩) 64 cB]) ∧ TbT w.heap.size W bA oA cA bB oB cB r ls es ∧ Boxed W PB 36 u ∧ W.ownsRow w.heap.size 59 7 u los.length (loW (los.map f)) ∧ Below PB w W ∧ (∀ b, b < w.heap.size → b ≠ PB → KeepB b w W)

set_option maxHeartbeats 4000000 in
theorem lose_any (g : Nat) (f : Lo → Lo) (PB : Nat) (HE : ∀ args w, (callFunc g args).run Tryz.prog w = .ok (.enter g args) w) (HG : LostC g f PB) (r : Int) (ls : List Int) (es : List Nat) (v : Value) (a b : Int) (w0 w : World) (hv : TbV w0 v (r, ls, es)) (hs : wsmall es) (hL : LayOK w0) (hb0 : Below w0.heap.size w0 w) (hP0 : w0.heap.size ≤ PB) (hT : tabE r ls es = 0) (hPB : Boxed w PB 36 (.slice none 0 0)) :
    Calls Tryz.prog 29 #[v, .int .i64 a, .int .i64 b, .func (.func g) #[] #[.pointer (some ⟨PB, 0, none⟩)]] w fun e w' => LoseR f PB w r (losP r ls es a b (pgs 0 64)).1 (losP r ls es a b (pgs 0 64)).2.1 (losP r ls es a b (pgs 0 64)).2.2 e w' := by
  obtain ⟨h8, h64, _⟩ := tab_zero hT
  have hPw : PB < w.heap.size := hPB.lt
  have hlay : 0 < PB := Nat.lt_of_lt_of_le hL.lt hP0
  replace hL := hL.below hb0
  have hv0 := hv
  replace hv := hv.to hb0
  obtain ⟨L, cl, B, d, hve, hLs, hB, hcc⟩ := id hv
  subst hve
  unfold tabV at hv ⊢
  simp only at hv ⊢ hLs hB hcc
  rw [h8] at hv hLs hcc ⊢
  rw [h64] at hv hB ⊢
  have hbA : ∀ b o p, B = some ⟨b, o, p⟩ → b < PB := by
    obtain ⟨L', cl', B', d', hve', _, hB', _⟩ := hv0
    unfold tabV at hve'
    injection hve' with e1
    injection e1 with e1
    injection e1 with _ e1
    injection e1 with _ e1
    injection e1 with e1 _
    injection e1 with e1 _ _
    subst e1
    obtain ⟨b', off', rfl, hb', _⟩ := hB'.2 (by simp only; omega)
    intro b o p e
    injection e with e
    injection e with e
    subst e
    omega
  clear hv0
  have kT := ((((Bk.new w #[.int .i64 r, .slice L 8 cl, .slice B 64 d] 26).alloc (.cells #[.int .i64 a] 3)).alloc (.cells #[.int .i64 b] 3)).alloc (.cells #[.func (.func g) #[] #[.pointer (some ⟨PB, 0, none⟩)]] 60)).alloc (.cells #[.int .i64 0, .slice none 0 0, .slice none 0 0] 26)
  have kA := (((Bk.new (w.alloc (.cells #[.int .i64 r, .slice L 8 cl, .slice B 64 d] 26)) #[.int .i64 a] 3).alloc (.cells #[.int .i64 b] 3)).alloc (.cells #[.func (.func g) #[] #[.pointer (some ⟨PB, 0, none⟩)]] 60)).alloc (.cells #[.int .i64 0, .slice none 0 0, .slice none 0 0] 26)
  have kB := ((Bk.new ((w.alloc (.cells #[.int .i64 r, .slice L 8 cl, .slice B 64 d] 26)).alloc (.cells #[.int .i64 a] 3)) #[.int .i64 b] 3).alloc (.cells #[.func (.func g) #[] #[.pointer (some ⟨PB, 0, none⟩)]] 60)).alloc (.cells #[.int .i64 0, .slice none 0 0, .slice none 0 0] 26)
  have kC := (Bk.new (((w.alloc (.cells #[.int .i64 r, .slice L 8 cl, .slice B 64 d] 26)).alloc (.cells #[.int .i64 a] 3)).alloc (.cells #[.int .i64 b] 3)) #[.func (.func g) #[] #[.pointer (some ⟨PB, 0, none⟩)]] 60).alloc (.cells #[.int .i64 0, .slice none 0 0, .slice none 0 0] 26)
  have kR := Bk.new ((((w.alloc (.cells #[.int .i64 r, .slice L 8 cl, .slice B 64 d] 26)).alloc (.cells #[.int .i64 a] 3)).alloc (.cells #[.int .i64 b] 3)).alloc (.cells #[.func (.func g) #[] #[.pointer (some ⟨PB, 0, none⟩)]] 60)) #[.int .i64 0, .slice none 0 0, .slice none 0 0] 26
  simp only [World.size_alloc] at kA kB kC kR
  have hB1 := balloc (balloc (balloc (balloc (balloc (Below.refl _ w) (.cells #[.int .i64 r, .slice L 8 cl, .slice B 64 d] 26)) (.cells #[.int .i64 a] 3)) (.cells #[.int .i64 b] 3)) (.cells #[.func (.func g) #[] #[.pointer (some ⟨PB, 0, none⟩)]] 60)) (.cells #[.int .i64 0, .slice none 0 0, .slice none 0 0] 26)
  generalize hw1 : ((((w.alloc (.cells #[.int .i64 r, .slice L 8 cl, .slice B 64 d] 26)).alloc (.cells #[.int .i64 a] 3)).alloc (.cells #[.int .i64 b] 3)).alloc (.cells #[.func (.func g) #[] #[.pointer (some ⟨PB, 0, none⟩)]] 60)).alloc (.cells #[.int .i64 0, .slice none 0 0, .slice none 0 0] 26) = w1 at *
  have HTw := Lib.hid (twin_any r ls es _ _ (hv.to hB1) h8 h64)
  obtain ⟨cT, fT, lT⟩ := kT.facts
  have h8' := Lib.hid h8
  have h64' := Lib.hid h64
  clear h8 h64
  have hF : ∀ f, Fence.wide.fn f := fun _ => trivial
  refine (callsIn_wide (n := 4)).1 ?_
  refine callsIn_of_wp_marks Tryz.func29 rfl trivial ?_ rfl
  simp only [Tryz.ntmps29, List.size_toArray, List.length_cons, List.length_nil, Nat.reduceAdd, Nat.reduceSub, Array.replicate_succ, Array.replicate_zero, List.push_toArray, List.append_toArray, List.nil_append, List.cons_append]
  gi_wp2_with fail
  refine (callsIn_wide.2 HTw.out).mono ?_
  rintro e w2 ⟨gA, cA, gB, cB, rfl, hO, hb2⟩
  clear cT fT lT
  obtain ⟨cT, fT, lT⟩ := (kT.to hb2).facts
  gi_wp2_with fail
  refine (entries_in Fence.wide 3 trivial rfl r L B 8 cl 64 d _).mono ?_
  rintro e w'' ⟨rfl, rfl⟩
  -- RANGE
  clear cT fT lT
  have k9 := Bk.new w2 #[.int .i64 r, .slice (some ⟨gA, 0, none⟩) 8 cA, .slice (some ⟨gB, 0, none⟩) 64 cB] 26
  have hc9 := balloc (Below.refl _ w2) (.cells #[.int .i64 r, .slice (some ⟨gA, 0, none⟩) 8 cA, .slice (some ⟨gB, 0, none⟩) 64 cB] 26)
  generalize w2.alloc (.cells #[.int .i64 r, .slice (some ⟨gA, 0, none⟩) 8 cA, .slice (some ⟨gB, 0, none⟩) 64 cB] 26) = w3 at *
  have h93 : w2.heap.size < w3.heap.size := k9.lt
  have kBr := Bk.new w3 #[.int .i64 r, .slice L 8 cl, .slice B 64 d] 26
  have hc4 := balloc (Below.refl _ w3) (.cells #[.int .i64 r, .slice L 8 cl, .slice B 64 d] 26)
  generalize hw4 : w3.alloc (.cells #[.int .i64 r, .slice L 8 cl, .slice B 64 d] 26) = w4 at *
  have hs5 : w3.heap.size < w4.heap.size := kBr.lt
  have hs2 : w.heap.size + 1 + 1 + 1 + 1 < w2.heap.size := Nat.lt_of_lt_of_le kR.lt hb2.size
  have hb24 := bnext hc9 hc4
  have hb14 := bnext (bnext hB1 hb2) hb24
  have hL4 := hL.below hb14
  have hB4 := hB.below hb14 (Nat.le_refl _)
  have HIt : ItW w4 w3.heap.size B := ⟨by omega, by omega, fun b o p e => by have := hbA b o p e; omega⟩
  have kA4 := ((kA.to hb2).to hb24)
  have kB4 := ((kB.to hb2).to hb24)
  have kC4 := ((kC.to hb2).to hb24)
  have kR4 := ((kR.to hb2).to hb24)
  have h0 : LosB w w4 w2.heap.size PB r ls es [] (.slice none 0 0) gA 0 cA gB 0 cB w4 := ⟨k9.to hc4, (TbT.own ((hO.less hB1.size).to hb24) : TbT w.heap.size w4 gA 0 cA gB 0 cB r ls es), (hb14.block PB hPw).trans hPB, World.ownsRow_nil _ _ _ _, fun _ _ _ _ => rfl, Nat.le_refl _, hb14.mono (by omega)⟩
  clear hw4 hw1 kT kA kB kC kR HTw k9 hb2 hc9 hc4 hO hB1 hB
  have hOwn : OwnFrom w4.heap.size (LosI f w w4 w2.heap.size PB r ls es a b) := LosI.own (by omega) hPw (by omega)
  gi_wp2_with fail
  refine wpIn_rangeFunc_ownH rfl (by omega) (gf := 82) (lb := #[.pointer (some ⟨w3.heap.size, 0, none⟩)]) rfl trivial (enters_of Tryz.func82 (by kernel_rfl) rfl)
    (entries_stopsAt w3.heap.size B d r ls es hT hs w4 hL4 hB4 (kBr.cell 2)) keepE_t (keepE_b HIt.l HIt.r HIt.b) (Below.refl _ _) (fun _ => rfl)
    (LosI f w w4 w2.heap.size PB r ls es a b) (fun _ pre _ => LosX pre) ?hI ?hIx ?h0
    (fun x a' W => ∃ q, Bk W q (entA (entP es x.1.toNat)) 57 ∧ w4.heap.size ≤ q ∧ a' = { tmps := #[.agg #[.int .i64 r, .slice L 8 cl, .slice B 64 d], .int .i64 a, .int .i64 b, .func (.func g) #[] #[.pointer (some ⟨PB, 0, none⟩)], .pointer (some ⟨w.heap.size, 0, none⟩), .pointer (some ⟨w.heap.size + 1, 0, none⟩), .pointer (some ⟨w.heap.size + 1 + 1, 0, none⟩), .pointer (some ⟨w.heap.size + 1 + 1 + 1, 0, none⟩), .pointer (some ⟨w.heap.size + 1 + 1 + 1 + 1, 0, none⟩), .pointer (some ⟨w2.heap.size, 0, none⟩), .int .i64 x.1, .pointer (some ⟨q, 0, none⟩), undef, undef, undef, .agg #[.int .i64 r, .slice L 8 cl, .slice B 64 d], .agg #[.int .i64 r, .slice (some ⟨gA, 0, none⟩) 8 cA, .slice (some ⟨gB, 0, none⟩) 64 cB], .agg #[.int .i64 r, .slice L 8 cl, .slice B 64 d], .func (.func 82) #[] #[.pointer (some ⟨w3.heap.size, 0, none⟩)], .int .i64 x.1, entV (entP es x.1.toNat), undef, undef, undef, undef, undef, undef, undef, undef, undef, undef, undef, undef, undef, undef, undef, undef, undef, undef, undef, undef, undef, undef, undef, undef, undef, undef, undef, undef, undef, undef], defers := [] }) ?hAx ?assign ?body ?done ?stop
  case hI => exact hOwn
  case hIx => exact fun _ _ _ _ _ hs _ _ => hs
  case h0 => exact ⟨ls, es, [], _, gA, 0, cA, gB, 0, cB, h0, hT, hs, Nat.le_refl _, fun _ => ⟨rfl, rfl⟩⟩
  case hAx => exact fun x a' _ W W' row ⟨q, h1, h2⟩ hg hr => ⟨q, bk_own () W W' row h1 hg hr, h2⟩
  case assign =>
    rintro l pre x W K hi hK
    have hsz : w4.heap.size ≤ W.heap.size := by obtain ⟨_, _, _, _, _, _, _, _, _, _, h, _⟩ := hi; exact h.size
    unfold entV at hK ⊢
    dsimp only at hK ⊢
    gi_wp2
    exact hK _ _ (keepsFrom_below (balloc (Below.refl _ _) _)) ((HIt.le hsz).keep (balloc (Below.refl _ _) _)) (hOwn.alloc _ hi) ⟨_, Bk.new _ _ _, hsz, rfl⟩
  case body =>
    rintro l pre ⟨y, hx0, hx1⟩ a' W hl _ hi ⟨q, kq, hq, rfl⟩ hlen
    obtain ⟨p, rfl⟩ : ∃ p : Nat, y = p := ⟨y.toNat, by omega⟩
    simp only [Int.toNat_natCast] at kq
    dsimp only
    simp only [Int.toNat_natCast]
    have HSK := Lib.hid (LosI.skip ⟨(p : Int), hx0, hx1⟩ hi)
    simp only [Int.toNat_natCast] at HSK
    obtain ⟨ls1, es1, los, u, bA, oA, cA1, bB, oB, cB1, hS, hT1, hs1, hll, hgood⟩ := hi
    have HKE := Lib.hid ((HIt.le hS.size).keep (Below.refl W.heap.size W))
    have hp64 : p < 64 := by omega
    rcases hee : entP es p with ⟨k1, n1, a1, b1, c1⟩
    rw [hee] at kq HSK
    have hee2 := Lib.hid hee
    clear hee
    unfold entV
    unfold entA at kq
    simp only at kq HSK ⊢
    have kAW : Bk W (w.heap.size + 1) #[.int .i64 a] 3 := (hS.same _ (by omega) (by omega) (by omega)).trans kA4
    have kBW : Bk W (w.heap.size + 1 + 1) #[.int .i64 b] 3 := (hS.same _ (by omega) (by omega) (by omega)).trans kB4
    have kCW : Bk W (w.heap.size + 1 + 1 + 1) #[.func (.func g) #[] #[.pointer (some ⟨PB, 0, none⟩)]] 60 := (hS.same _ (by omega) (by omega) (by omega)).trans kC4
    obtain ⟨cAf, fA, lA⟩ := kAW.facts
    obtain ⟨cBf, fB, lB⟩ := kBW.facts
    obtain ⟨cQ, fQ, lQ⟩ := kq.facts
    obtain ⟨c9, f9, l9⟩ := hS.k9.facts
    by_cases ha : (p : Int) < a
    · have hd : decide ((p : Int) < a) = true := decide_eq_true ha
      have hI := Lib.hid (HSK.out (.inl ha))
      clear HSK hgood
      gi_wp2
      exact ⟨KeepsFrom.refl _ _, HKE.out, hI.out⟩
    have hd : decide ((p : Int) < a) = false := decide_eq_false ha
    by_cases hb : b < (p : Int)
    · have hdb : decide (b < (p : Int)) = true := decide_eq_true hb
      have hI := Lib.hid (HSK.out (.inr (.inl hb)))
      clear HSK hgood
      gi_wp2
      exact ⟨KeepsFrom.refl _ _, HKE.out, hI.out⟩
    have hdb : decide (b < (p : Int)) = false := decide_eq_false hb
    by_cases hk : k1 = 0
    · have hI := Lib.hid (HSK.out (.inr (.inr hk)))
      subst hk
      clear HSK hgood
      gi_wp2
      exact ⟨KeepsFrom.refl _ _, HKE.out, hI.out⟩
    have hdk : (k1 == 0) = false := by simpa using hk
    clear HSK
    have hL1 := hL4.keep (show KeepB _ w4 W from hS.same _ (by omega) (by omega) (by omega))
    by_cases hk1 : unpK (es1.getD p 0) = 0
    · have hX : LosX (pre ++ [⟨(p : Int), hx0, hx1⟩]) := los_stop (x := ⟨(p : Int), hx0, hx1⟩) hT hs (fun h => (hgood h).1) (by simp only [Int.toNat_natCast]; rw [hee2.out]; exact hk) p rfl hlen hk1
      have HX := Lib.hid hX
      have HCl := Lib.hid (TClear_bad2 r ls1 es1 _ p W hS.tab.tbv hs1 hL1 hT1 hp64 hk1)
      clear hX hgood hk hk1 hT1 hs1
      gi_wp2_with (gi_at_call 65; refine (CallsIn.inRound l (callsIn_wide.2 HCl.out)).mono ?_; rintro e w5 ⟨v5, rfl, ⟨A5, c5, B5, d5, hv5, _⟩, _, hb5⟩; unfold tabV at hv5; subst hv5)
      exact ⟨keepsFrom_below (balloc hb5 _), HX.out⟩
    · have hgo := Lib.hid (fun h => los_go (x := ⟨(p : Int), hx0, hx1⟩) hT1 hs1 hgood ha hb (by simp only [Int.toNat_natCast]; rw [hee2.out]; exact hk) p rfl hk1 h)
      have hrel := Lib.hid (clear_rel hT1 hs1 p hp64 hk1)
      have HCl := Lib.hid (TClear_row r ls1 es1 _ p W hS.tab.tbv hs1 hL1 hT1 hp64 hk1)
      clear hgood hk hk1 hT1 hs1
      simp only [Int.toNat_natCast] at hgo
      gi_wp2_with (gi_at_call 65; refine (CallsIn.inRound l (callsIn_wide.2 HCl.out)).mono ?_; rintro e w5 ⟨g5, rfl, k5, hg5, hn5, hm5, hb5⟩; clear c9 f9 l9 cQ fQ lQ; obtain ⟨c9, f9, l9⟩ := (hS.k9.to hb5).facts; obtain ⟨cQ, fQ, lQ⟩ := (kq.to hb5).facts; obtain ⟨cC, fC, lC⟩ := (kCW.to hb5).facts)
      have hS5 := hS.to hPw (by omega) hb5
      have hS6 := (hS5.put hPw (by omega) (by omega) (by omega) (TbT.arr k5 hn5 hm5 (by have := hS.size; omega))).to hPw (by omega) (balloc (Below.refl _ _) (.cells #[.int .i64 r, .slice (some ⟨g5, 1, none⟩) 8 8, .slice (some ⟨g5, 9, none⟩) 64 64] 26))
      have hkf : KeepsFrom w4.heap.size W ((((w5.setCell ⟨w2.heap.size, 0, none⟩ (.int .i64 r)).setCell ⟨w2.heap.size, 1, none⟩ (.slice (some ⟨g5, 1, none⟩) 8 8)).setCell ⟨w2.heap.size, 2, none⟩ (.slice (some ⟨g5, 9, none⟩) 64 64)).alloc (.cells #[.int .i64 r, .slice (some ⟨g5, 1, none⟩) 8 8, .slice (some ⟨g5, 9, none⟩) 64 64] 26)) :=
        KeepsFrom.trans (keepsFrom_below hb5) (KeepsOthers.from ((((KeepsOthers.setCell _ _ _).trans (KeepsOthers.setCell _ _ _)).trans (KeepsOthers.setCell _ _ _)).trans (KeepsOthers.alloc _ _)) _)
      generalize (((w5.setCell ⟨w2.heap.size, 0, none⟩ (.int .i64 r)).setCell ⟨w2.heap.size, 1, none⟩ (.slice (some ⟨g5, 1, none⟩) 8 8)).setCell ⟨w2.heap.size, 2, none⟩ (.slice (some ⟨g5, 9, none⟩) 64 64)).alloc (.cells #[.int .i64 r, .slice (some ⟨g5, 1, none⟩) 8 8, .slice (some ⟨g5, 9, none⟩) 64 64] 26) = w6 at *
      refine (CallsIn.inRound l (callsIn_wide.2 (HG w4.heap.size u los ((p : Int), (k1, n1, a1, b1, c1), relF ls1 (es1.set p 0) (p / 8)) w6 hS6.box hS6.row (by omega) hS6.size (by omega)))).mono ?_
      rintro e w7 ⟨⟨rv, rfl⟩, hLR⟩
      obtain ⟨u7, hS7⟩ := hS6.lost hPw (by omega) (by omega) (by omega) hLR
      have hKE7 := HKE.out
      have hsm7 := hS7.same
      have hsm := hS.same
      obtain ⟨u8, hL1', hL2', hL3', hL4', hL5', hL6'⟩ := hLR
      have hres : KeepsFrom w4.heap.size W w7 ∧ KeepE w3.heap.size B W w7 ∧ LosI f w w4 w2.heap.size PB r ls es a b (pre ++ [⟨(p : Int), hx0, hx1⟩]) w7 := by
        have hk1 : ∀ b, b < w4.heap.size → b ≠ PB → b ≠ w2.heap.size → KeepB b W w7 := fun b h1 h2 h3 => (hsm7 b h1 h2 h3).trans (hsm b h1 h2 h3).symm
        refine ⟨hkf.trans (hL3'.from _), ⟨hk1 _ (by omega) (by omega) (by omega), hk1 _ (by omega) (by omega) (by omega), fun b o p e => hk1 _ (by have := hbA b o p e; omega) (by have := hbA b o p e; omega) (by have := hbA b o p e; omega)⟩, ?_⟩
        refine ⟨_, _, _, u7, g5, 1, 8, g5, 9, 64, hS7, hrel.out.2.1, hrel.out.2.2, by simp only [List.length_append, List.length_singleton]; omega, fun hg => ?_⟩
        have := hgo.out hg
        rw [hee2.out] at this
        exact this
      have HRES := Lib.hid hres
      clear hres hS7 hS6 hS5 hS hkf hL1' hL2' hL3' hL4' hL5' hL6' hsm7 hsm hKE7
      gi_wp2
      exact HRES.out
  case done =>
    rintro D ys W hD rfl ⟨ls1, es1, los, u, bA, oA, cA1, bB, oB, cB1, hS, hT1, hs1, hll, hgood⟩ hK
    obtain ⟨g1, g2⟩ := hgood (by rw [pgs_len])
    have kRW : Bk W (w.heap.size + 1 + 1 + 1 + 1) #[.int .i64 0, .slice none 0 0, .slice none 0 0] 26 := (hS.same _ (by omega) (by omega) (by omega)).trans kR4
    obtain ⟨c9, f9, l9⟩ := hS.k9.facts
    obtain ⟨cR, fR, lR⟩ := kRW.facts
    gi_wp2_with fail
    have kF := kRW.put3 (.int .i64 r) (.slice (some ⟨bA, oA, none⟩) 8 cA1) (.slice (some ⟨bB, oB, none⟩) 64 cB1)
    have e3 : ∀ b, b ≠ w.heap.size + 1 + 1 + 1 + 1 → (((W.setCell ⟨w.heap.size + 1 + 1 + 1 + 1, 0, none⟩ (.int .i64 r)).setCell ⟨w.heap.size + 1 + 1 + 1 + 1, 1, none⟩ (.slice (some ⟨bA, oA, none⟩) 8 cA1)).setCell ⟨w.heap.size + 1 + 1 + 1 + 1, 2, none⟩ (.slice (some ⟨bB, oB, none⟩) 64 cB1)).heap[b]? = W.heap[b]? := fun b hb => by
      rw [Below.heap_setCell _ ⟨w.heap.size + 1 + 1 + 1 + 1, 2, none⟩ _ b hb, Below.heap_setCell _ ⟨w.heap.size + 1 + 1 + 1 + 1, 1, none⟩ _ b hb, Below.heap_setCell _ ⟨w.heap.size + 1 + 1 + 1 + 1, 0, none⟩ _ b hb]
    have hty : KTy W (((W.setCell ⟨w.heap.size + 1 + 1 + 1 + 1, 0, none⟩ (.int .i64 r)).setCell ⟨w.heap.size + 1 + 1 + 1 + 1, 1, none⟩ (.slice (some ⟨bA, oA, none⟩) 8 cA1)).setCell ⟨w.heap.size + 1 + 1 + 1 + 1, 2, none⟩ (.slice (some ⟨bB, oB, none⟩) 64 cB1)) := fun b cs t f e hT => e3 b (fun hb => by
      subst hb
      rw [show W.heap[w.heap.size + 1 + 1 + 1 + 1]? = _ from kRW] at e
      injection e with e
      injection e with _ e _
      subst e
      exact tyT_table hT)
    have hrow6 := own_far (p := ⟨w.heap.size + 1 + 1 + 1 + 1, 2, none⟩) (own_far (p := ⟨w.heap.size + 1 + 1 + 1 + 1, 1, none⟩) (own_far (p := ⟨w.heap.size + 1 + 1 + 1 + 1, 0, none⟩) hS.row (by show _ < _; simp only; omega) (.int .i64 r)) (by show _ < _; simp only; omega) (.slice (some ⟨bA, oA, none⟩) 8 cA1)) (by show _ < _; simp only; omega) (.slice (some ⟨bB, oB, none⟩) 64 cB1)
    have hbel6 := ((hS.below.setCell (p := ⟨w.heap.size + 1 + 1 + 1 + 1, 0, none⟩) (by show PB ≤ _; simp only; omega) (.int .i64 r)).setCell (p := ⟨w.heap.size + 1 + 1 + 1 + 1, 1, none⟩) (by show PB ≤ _; simp only; omega) (.slice (some ⟨bA, oA, none⟩) 8 cA1)).setCell (p := ⟨w.heap.size + 1 + 1 + 1 + 1, 2, none⟩) (by show PB ≤ _; simp only; omega) (.slice (some ⟨bB, oB, none⟩) 64 cB1)
    have hty6 := hS.tab.keep hty
    have hbox6 := (e3 PB (by omega)).trans hS.box
    have hsm6 : ∀ b, b < w.heap.size → b ≠ PB → (((W.setCell ⟨w.heap.size + 1 + 1 + 1 + 1, 0, none⟩ (.int .i64 r)).setCell ⟨w.heap.size + 1 + 1 + 1 + 1, 1, none⟩ (.slice (some ⟨bA, oA, none⟩) 8 cA1)).setCell ⟨w.heap.size + 1 + 1 + 1 + 1, 2, none⟩ (.slice (some ⟨bB, oB, none⟩) 64 cB1)).heap[b]? = w.heap[b]? := fun b h1 h2 => (e3 b (by omega)).trans ((hS.same b (by omega) h2 (by omega)).trans (hb14.block b h1))
    have hK6 := (e3 D (by omega)).trans hK
    generalize ((W.setCell ⟨w.heap.size + 1 + 1 + 1 + 1, 0, none⟩ (.int .i64 r)).setCell ⟨w.heap.size + 1 + 1 + 1 + 1, 1, none⟩ (.slice (some ⟨bA, oA, none⟩) 8 cA1)).setCell ⟨w.heap.size + 1 + 1 + 1 + 1, 2, none⟩ (.slice (some ⟨bB, oB, none⟩) 64 cB1) = W6 at *
    have hg6 := grownBy_putObj' W6 D (.deferred none)
    have hnD : ∀ r, some D = some r → 0 ≤ r ∧ ∃ o : Obj, W6.heap[r]? = some o ∧ o.isCells = false := fun q e => by cases e; exact ⟨Nat.zero_le _, _, hK6, rfl⟩
    have kF2 := bk_own (B := 0) () _ _ (some D) kF hg6 hnD
    have hty7 : KTy W6 (W6.putObj D (.deferred none)) := KTy.grown hg6 fun j cs t f e hc => absurd e.symm (OwnFrom.not hnD hc)
    refine ⟨by simp, .inl ⟨_, _, rfl, run_takeDeferred hK6, ?_⟩⟩
    refine ⟨_, kF2.res1 (P := Tryz.prog) rfl _ rfl (by kernel_rfl) (by kernel_rfl), bA, oA, cA1, bB, oB, cB1, u, rfl, ?_, ?_, ?_, ?_, ?_⟩
    · rw [g1]
      exact hty6.keep hty7
    · exact (hg6.block PB (by have := Boxed.lt hbox6; omega) (fun e => by injection e with e; omega)).trans hbox6
    · have := own_less (ownsRow_putObj hrow6 (.deferred none) hK6 rfl) (show w.heap.size ≤ w4.heap.size by omega)
      rw [g2, List.length_map] at this
      exact this
    · exact hbel6.trans (belowK_b (w := w) (Nat.le_of_lt hPw) _ D _ _ (by omega) hK6 rfl rfl)
    · exact fun b h1 h2 => (hg6.block b (by have := hS.size; have := Boxed.lt hbox6; have := kF.lt; omega) (fun e => by injection e with e; omega)).trans (hsm6 b h1 h2)
  case stop => exact fun D c pre W _ h1 h2 _ => absurd h1 h2
end Go.Proofs.YtpkgfkhaiifooaaGreatDoor
/- What space.Unmap returns. -/
namespace Go.Proofs.YtpkgfkhaiifooaaGreatDoor
open Go Go.Proofs Go.RowKit Go.Shelf
set_option linter.unusedSimpArgs false
set_option linter.unusedVariables false
set_option maxRecDepth 100000

/-- Losses that a call returned. -/
def IsLo (w : World) (v : Value) (los : List Lo) : Prop := ∃ A c, v = .slice A los.length c ∧ Rd w 7 A los.length (loW los)
theorem IsLo.nil (w : World) : IsLo w (.slice none 0 0) [] := ⟨none, 0, rfl, Rd.zero none⟩
theorem IsLo.own {w : World} {base : Nat} {v : Value} {los : List Lo} (h : w.ownsRow base 59 7 v los.length (loW los)) : IsLo w v los := by
  obtain ⟨A, c, rfl, hr⟩ := own_slice h
  exact ⟨A, c, rfl, hr⟩
def unmS (s : Sp) (a b : Int) : Sp × List Lo × Int :=
  if spcE s ≠ 0 then (sp0, [], spcE s)
  else if (unmR s.1 a b).2 ≠ 0 then (sp0, [], (unmR s.1 a b).2)
  else (((unmR s.1 a b).1, s.2.1, (losP s.2.1 s.2.2.1 s.2.2.2 a b (pgs 0 64)).1, (losP s.2.1 s.2.2.1 s.2.2.2 a b (pgs 0 64)).2.1), (losP s.2.1 s.2.2.1 s.2.2.2 a b (pgs 0 64)).2.2, 0)
/-- An address space, losses and an error as results. -/
def SpResU (w w' : World) (s : Sp) (los : List Lo) (er : Int) (e : Ending) : Prop := ∃ v u, e = .returned (.tuple #[v, u, .int .i64 er]) ∧ SpV w' v s ∧ SLoc w.heap.size v ∧ IsLo w' u los ∧ ILoc w.heap.size u ∧ Below w.heap.size w w'

theorem lost1_c (PB : Nat) : LostC 30 (fun x => x) PB := fun base v los x W h1 h2 h3 h4 h5 => lost1_any PB base v los x W h1 h2 h3 h4 h5
theorem lost2_c (PB : Nat) : LostC 36 (fun x => (x.1, x.2.1, -1)) PB := fun base v los x W h1 h2 h3 h4 h5 => lost2_any PB base v los x W h1 h2 h3 h4 h5

set_option maxHeartbeats 4000000 in
theorem UnmapSp_any (rs : List (Int × Int)) (r : Int) (ls : List Int) (es : List Nat) (v : Value) (a b : Int) (w : World) (hv : SpV w v (rs, r, ls, es)) (hn : rs.length ≤ 1000) (hs : wsmall es) (hL : LayOK w) :
    Calls Tryz.prog 10 #[v, .int .i64 a, .int .i64 b] w fun e w' => SpResU w w' (unmS (rs, r, ls, es) a b).1 (unmS (rs, r, ls, es) a b).2.1 (unmS (rs, r, ls, es) a b).2.2 e := by
  obtain ⟨A, c, L, cl, B, d, hve, hA, hLs, hB, hcc⟩ := id hv
  subst hve
  unfold spcV at hv ⊢
  simp only at hv ⊢ hA hLs hB hcc
  have kS := (Bk.new w #[.slice A rs.length c, .int .i64 r, .slice L ls.length cl, .slice B es.length d] 28).alloc (.cells #[.slice none 0 0, .int .i64 0, .slice none 0 0, .slice none 0 0] 28)
  have kR := Bk.new (w.alloc (.cells #[.slice A rs.length c, .int .i64 r, .slice L ls.length cl, .slice B es.length d] 28)) #[.slice none 0 0, .int .i64 0, .slice none 0 0, .slice none 0 0] 28
  simp only [World.size_alloc] at kR
  have hB1 := balloc (balloc (Below.refl _ w) (.cells #[.slice A rs.length c, .int .i64 r, .slice L ls.length cl, .slice B es.length d] 28)) (.cells #[.slice none 0 0, .int .i64 0, .slice none 0 0, .slice none 0 0] 28)
  generalize hw1 : (w.alloc (.cells #[.slice A rs.length c, .int .i64 r, .slice L ls.length cl, .slice B es.length d] 28)).alloc (.cells #[.slice none 0 0, .int .i64 0, .slice none 0 0, .slice none 0 0] 28) = w1 at *
  have HC := Lib.hid (spCheck_any rs r ls es _ _ (hv.to hB1) (by omega) hs (hL.below hB1))
  obtain ⟨cS, fS, lS⟩ := kS.facts
  obtain ⟨cR, fR, lR⟩ := kR.facts
  by_cases hE : spcE (rs, r, ls, es) = 0
  case neg =>
    have hR : unmS (rs, r, ls, es) a b = (sp0, [], spcE (rs, r, ls, es)) := by unfold unmS; rw [if_pos hE]
    rw [hR]
    have hd : (spcE (rs, r, ls, es) != 0) = true := by simpa using hE
    generalize spcE (rs, r, ls, es) = z at *
    clear hR hE
    go_enter Tryz.func10, Tryz.ntmps10
    go_wp2_with (go_at_call 20; refine HC.out.mono ?_; rintro e w2 ⟨rfl, hb2⟩; clear cS fS lS cR fR lR; obtain ⟨cR, fR, lR⟩ := (kR.to hb2).facts)
    have kF := (kR.to hb2).put4 (.slice none 0 0) (.int .i64 0) (.slice none 0 0) (.slice none 0 0)
    have hBF := below_put4 (bnext hB1 hb2) (g := w.heap.size + 1) (by omega) (.slice none 0 0) (.int .i64 0) (.slice none 0 0) (.slice none 0 0)
    exact bodyPost_ret (kF.res3 (P := Tryz.prog) rfl _ rfl (by kernel_rfl) (by kernel_rfl)) rfl ⟨_, _, rfl, SpV.zero _, SLoc.zero _, IsLo.nil _, ILoc.nil _, hBF⟩
  obtain ⟨hg, hT, _⟩ := spc_zero hE
  simp only at hg hT
  rw [hE] at HC
  have HU := Lib.hid (fun W h => Unmap_any A rs.length c rs a b W h (by omega))
  by_cases hz : (unmR rs a b).2 = 0
  case neg =>
    have hR : unmS (rs, r, ls, es) a b = (sp0, [], (unmR rs a b).2) := by unfold unmS; rw [if_neg (by simpa using hE), if_pos hz]
    rw [hR]
    have hd : ((unmR rs a b).2 != 0) = true := by simpa using hz
    generalize unmR rs a b = u at *
    clear hR hE hz
    go_enter Tryz.func10, Tryz.ntmps10
    go_wp2_with (first
      | (go_at_call 20; refine HC.out.mono ?_; rintro e w2 ⟨rfl, hb2⟩; clear cS fS lS cR fR lR; obtain ⟨cR, fR, lR⟩ := (kR.to hb2).facts; obtain ⟨cS, fS, lS⟩ := (kS.to hb2).facts)
      | (go_at_call 28; refine (HU.out _ (hA.below (bnext hB1 hb2) (Nat.le_refl _))).mono ?_; rintro e w3 ⟨v3, rfl, hr3, hb3⟩; clear cS fS lS cR fR lR; obtain ⟨cR, fR, lR⟩ := ((kR.to hb2).to hb3).facts))
    have kF := ((kR.to hb2).to hb3).put4 (.slice none 0 0) (.int .i64 0) (.slice none 0 0) (.slice none 0 0)
    have hBF := below_put4 (bnext (bnext hB1 hb2) hb3) (g := w.heap.size + 1) (by omega) (.slice none 0 0) (.int .i64 0) (.slice none 0 0) (.slice none 0 0)
    exact bodyPost_ret (kF.res3 (P := Tryz.prog) rfl _ rfl (by kernel_rfl) (by kernel_rfl)) rfl ⟨_, _, rfl, SpV.zero _, SLoc.zero _, IsLo.nil _, ILoc.nil _, hBF⟩
  have hR : unmS (rs, r, ls, es) a b = (((unmR rs a b).1, r, (losP r ls es a b (pgs 0 64)).1, (losP r ls es a b (pgs 0 64)).2.1), (losP r ls es a b (pgs 0 64)).2.2, 0) := by unfold unmS; rw [if_neg (by simpa using hE), if_neg (by simpa using hz)]
  rw [hR]
  rw [hz] at HU
  clear hR hE hz
  generalize (unmR rs a b).1 = rs' at *
  have HLo := Lib.hid (fun PB v w0 w h1 h2 h3 h4 h5 => lose_any 30 (fun x => x) PB (enters_of Tryz.func30 (by kernel_rfl) rfl) (lost1_c PB) r ls es v a b w0 w h1 hs h2 h3 h4 hT h5)
  generalize (losP r ls es a b (pgs 0 64)) = st at *
  go_enter Tryz.func10, Tryz.ntmps10
  go_wp2_with (first
    | (go_at_call 20; refine HC.out.mono ?_; rintro e w2 ⟨rfl, hb2⟩; clear cS fS lS cR fR lR; obtain ⟨cR, fR, lR⟩ := (kR.to hb2).facts; obtain ⟨cS, fS, lS⟩ := (kS.to hb2).facts)
    | (go_at_call 28; refine (HU.out _ (hA.below (bnext hB1 hb2) (Nat.le_refl _))).mono ?_; rintro e w3 ⟨v3, rfl, hr3, hb3⟩; clear cS fS lS cR fR lR; obtain ⟨cR, fR, lR⟩ := ((kR.to hb2).to hb3).facts; obtain ⟨cS, fS, lS⟩ := ((kS.to hb2).to hb3).facts))
  have hB3 := bnext (bnext hB1 hb2) hb3
  have hT3 : TbV w3 (.agg #[.int .i64 r, .slice L ls.length cl, .slice B es.length d]) (r, ls, es) := tbv_of (hLs.below hB3 (Nat.le_refl _)) (hB.below hB3 (Nat.le_refl _)) hcc
  have hbP := balloc (Below.refl _ w3) (.cells #[.slice none 0 0] 36)
  have hsP : (w3.alloc (.cells #[.slice none 0 0] 36)).heap.size = w3.heap.size + 1 := by simp
  refine (HLo.out w3.heap.size _ w3 (w3.alloc (.cells #[.slice none 0 0] 36)) hT3 (hL.below hB3) hbP (Nat.le_refl _) (Boxed.new _ _ _)).mono ?_
  rintro e w7 ⟨bA, oA, cA, bB, oB, cB, u, rfl, hT7, hX7, hr7, hb7, hk7⟩
  generalize w3.alloc (.cells #[.slice none 0 0] 36) = w4 at *
  obtain ⟨A3, c3, rfl, hrd3⟩ := own_slice hr3
  have hlo3 := own_loc2 hr3
  have hs23 := hb3.size
  have hs12 := hb2.size
  have hkR := kR.lt
  have kR7 : Bk w7 (w.heap.size + 1) #[.slice none 0 0, .int .i64 0, .slice none 0 0, .slice none 0 0] 28 := (hk7 _ (by omega) (by omega)).trans (((kR.to hb2).to hb3).to hbP)
  have hr37 : w7.ownsRow w2.heap.size 72 2 (.slice A3 rs'.length c3) rs'.length (flat2 .i64 rs') := own_same (own_below hr3 hbP) (fun b off q e => by have := hlo3 b off q e; exact hk7 b (by omega) (by omega))
  have hB7 : Below w.heap.size w w7 := (bnext hB3 hbP).trans (hb7.mono (by omega))
  have hxl := Boxed.lt hX7
  clear cR fR lR cS fS lS hr3 hrd3 hb7 hk7 hbP HLo HU HC kS hw1 hT3
  go_upto_region 9 with fail
  have kN := Bk.new w7 #[.int .i64 r, .slice (some ⟨bA, oA, none⟩) 8 cA, .slice (some ⟨bB, oB, none⟩) 64 cB] 26
  have hb8 := balloc (Below.refl _ w7) (.cells #[.int .i64 r, .slice (some ⟨bA, oA, none⟩) 8 cA, .slice (some ⟨bB, oB, none⟩) 64 cB] 26)
  generalize w7.alloc (.cells #[.int .i64 r, .slice (some ⟨bA, oA, none⟩) 8 cA, .slice (some ⟨bB, oB, none⟩) 64 cB] 26) = w8 at *
  have kX8 : Boxed w8 w3.heap.size 36 u := (hb8.block w3.heap.size hxl).trans hX7
  replace kR7 := kR7.to hb8
  replace hr37 := own_below hr37 hb8
  replace hr7 := own_below hr7 hb8
  replace hT7 := hT7.keep (KTy.of_below hb8)
  replace hB7 := bnext hB7 hb8
  obtain ⟨cN, fN, lN⟩ := kN.facts
  obtain ⟨cR, fR, lR⟩ := kR7.facts
  have cX := kX8.cell
  have fX := kX8.frozen
  go_region
  simp only [Exit.then]
  go_at_K
  go_wp2
  have hlA := hT7.la
  have hlB := hT7.lb
  have kF := (kR7.put4 (.slice A3 rs'.length c3) (.int .i64 r) (.slice (some ⟨bA, oA, none⟩) 8 cA) (.slice (some ⟨bB, oB, none⟩) 64 cB)).drew
  have hBF := below_drew (below_put4 hB7 (g := w.heap.size + 1) (by omega) (.slice A3 rs'.length c3) (.int .i64 r) (.slice (some ⟨bA, oA, none⟩) 8 cA) (.slice (some ⟨bB, oB, none⟩) 64 cB))
  have hR2 := own_ne4 hr37 (g := w.heap.size + 1) (fun b off q e => by have := hlo3 b off q e; omega) (.slice A3 rs'.length c3) (.int .i64 r) (.slice (some ⟨bA, oA, none⟩) 8 cA) (.slice (some ⟨bB, oB, none⟩) 64 cB)
  have hA2 := hT7.a.far4 (g := w.heap.size + 1) (fun b off h0 e => by injection e with e; injection e with e; omega) (.slice A3 rs'.length c3) (.int .i64 r) (.slice (some ⟨bA, oA, none⟩) 8 cA) (.slice (some ⟨bB, oB, none⟩) 64 cB)
  have hB2 := hT7.b.far4 (g := w.heap.size + 1) (fun b off h0 e => by injection e with e; injection e with e; omega) (.slice A3 rs'.length c3) (.int .i64 r) (.slice (some ⟨bA, oA, none⟩) 8 cA) (.slice (some ⟨bB, oB, none⟩) 64 cB)
  obtain ⟨Au, cu, rfl, _⟩ := own_slice hr7
  have hlou := own_loc2 hr7
  have hU2 := own_ne4 hr7 (g := w.heap.size + 1) (fun b off q e => by have := hlou b off q e; omega) (.slice A3 rs'.length c3) (.int .i64 r) (.slice (some ⟨bA, oA, none⟩) 8 cA) (.slice (some ⟨bB, oB, none⟩) 64 cB)
  have hn8 := hT7.n
  have hm64 := hT7.m
  have hc8 := hT7.c
  generalize (((w8.setCell ⟨w.heap.size + 1, 0, none⟩ (.slice A3 rs'.length c3)).setCell ⟨w.heap.size + 1, 1, none⟩ (.int .i64 r)).setCell ⟨w.heap.size + 1, 2, none⟩ (.slice (some ⟨bA, oA, none⟩) 8 cA)).setCell ⟨w.heap.size + 1, 3, none⟩ (.slice (some ⟨bB, oB, none⟩) 64 cB) = W6 at *
  rw [List.map_id'] at hU2
  refine bodyPost_ret (kF.res3 (P := Tryz.prog) rfl _ rfl (by kernel_rfl) (by kernel_rfl)) rfl ⟨_, _, rfl, ⟨A3, c3, some ⟨bA, oA, none⟩, cA, some ⟨bB, oB, none⟩, cB, by simp only [spcV, hn8, hm64], Rd.own (own_below hR2 (below_drew (Below.refl _ _))), by simp only [hn8]; exact hA2.drew1, by simp only [hm64]; exact hB2.drew1, by simp only [hn8]; exact hc8⟩,
    SLoc.mk (fun b off h0 e => by have := hlo3 b off _ e; omega) (fun b off h0 e => by injection e with e; injection e with e; omega) (fun b off h0 e => by injection e with e; injection e with e; omega), ⟨Au, cu, rfl, Rd.own (own_below hU2 (below_drew (Below.refl _ _)))⟩, ?_, hBF⟩
  intro A' n' c' e b off h0 h1
  injection e with e1
  subst e1 h1
  have := hlou b off _ rfl
  omega
end Go.Proofs.YtpkgfkhaiifooaaGreatDoor
/- What space.Empty returns. -/
namespace Go.Proofs.YtpkgfkhaiifooaaGreatDoor
open Go Go.Proofs Go.RowKit Go.Shelf
set_option linter.unusedSimpArgs false
set_option linter.unusedVariables false
set_option maxRecDepth 100000

theorem Bk.res4 {P : Program} {w : World} {b : Nat} {cs : Array Value} {t : TypeId} {fn : Func} {p u v z : Tmp} {ty : TypeId} (h : Bk w b cs t) (hf : fn.results = #[.cell p ty, .tmp u, .tmp v, .tmp z]) (tmps : Array Value) (hp : tmps.getD p undef = .pointer (some ⟨b, 0, none⟩))
    (hu : (P.underlying ty).map (·.isRow) = some true) (hi : (P.info? ty).map (·.size) = some cs.size) : (results fn tmps).run P w = .ok (.tuple #[.agg cs, tmps.getD u undef, tmps.getD v undef, tmps.getD z undef]) w := by
  have hp' : tmps[p]?.getD undef = .pointer (some ⟨b, 0, none⟩) := by simpa using hp
  simp [results, hf, hp', asAddr, h.loadVar (P := P) ty hu hi]
set_option maxHeartbeats 1000000 in
theorem TFrames_row (r : Int) (ls : List Int) (es : List Nat) (v : Value) (w : World) (hv : TbV w v (r, ls, es)) (hs : wsmall es) (hL : LayOK w) (hE : tabE r ls es = 0) :
    Calls Tryz.prog 34 #[v] w fun e w' => ∃ v, e = .returned (.tuple #[v, .int .i64 0]) ∧ w'.ownsRow w.heap.size 3 1 v (frmA r ls).length (iw (frmA r ls)) ∧ Below w.heap.size w w' := by
  obtain ⟨h1, h2, hR, hLs, hDu, hSt, hUn, hMi⟩ := tab_zero hE
  obtain ⟨A, c, B, d, rfl, hA, hB, hcc⟩ := id hv
  simp only at hA hB hcc
  unfold tabV at hv ⊢
  simp only at hv ⊢
  rw [h1, h2] at hv ⊢
  rw [h1] at hA hcc
  rw [h2] at hB
  have kT := (Bk.new (w) #[.int .i64 r, .slice A 8 c, .slice B 64 d] 26)
  have hB1 := balloc (Below.refl _ w) (.cells #[.int .i64 r, .slice A 8 c, .slice B 64 d] 26)
  generalize hw_w1 : w.alloc (.cells #[.int .i64 r, .slice A 8 c, .slice B 64 d] 26) = w1 at *
  obtain ⟨i0, hi, hz0, hz1, hz2⟩ := info_parts infoInt
  obtain ⟨cT, fT, lT⟩ := kT.facts
  go_enter Tryz.func34, Tryz.ntmps34
  go_wp2_with fail
  refine (TCheck_any r ls es _ _ (hv.to hB1) hs (hL.below hB1)).mono ?_
  rw [hE]
  rintro e w2 ⟨rfl, hb2⟩
  clear cT fT lT
  replace kT := kT.to hb2
  replace hB1 := bnext hB1 hb2
  replace hA := hA.below hB1 (Nat.le_refl _)
  clear hb2 hw_w1 hv hB
  obtain ⟨cT, fT, lT⟩ := kT.facts
  go_wp2_with fail
  clear cT fT lT
  go_loopw [5, 16] (fun v i wr => ∃ k : Nat, k ≤ 8 ∧ i = .int .i64 k ∧ wr.ownsRow w2.heap.size 3 1 v (frmL ls k).length (iw (frmL ls k)) ∧ Below w2.heap.size w2 wr) (fun _ i _ => 8 - (intOf i).toNat)
  case atStart => exact ⟨0, by omega, rfl, World.ownsRow_nil _ _ _ _, Below.refl _ _⟩
  case round =>
    obtain ⟨k, hk, rfl, hown, hBx⟩ := hrel
    obtain ⟨cT, fT, lT⟩ := (kT.to hBx).facts
    have hfl := frmL_len ls k
    by_cases hlt : k < 8
    · obtain ⟨g, off, z, rfl, hg, hz, hc⟩ := (hA.below hBx (Nat.le_refl _)).numb hlt
      have HS := Lib.hid (frmL_succ ls k (by omega))
      rw [hz] at HS
      by_cases hz1 : z = -1
      · have hz2' : (z != -1) = false := by simp [hz1]
        have HS2 : Hid (frmL ls (k + 1) = frmL ls k) := Lib.hid (by rw [HS.out, if_pos hz1, List.append_nil])
        clear hz1 hz HS
        go_wp2_with fail
        go_roundw
        case rel => exact ⟨k + 1, by omega, by go_num, by rw [HS2.out]; exact hown, hBx⟩
        case measure => simp [intOf]; omega
      · have hz2' : (z != -1) = true := by simp [hz1]
        have HS2 : Hid (frmL ls (k + 1) = frmL ls k ++ [z]) := Lib.hid (by rw [HS.out, if_neg hz1])
        clear hz1 hz HS
        go_wp2_with (first
          | (at_builtin; refine wpList_append_own _ rfl _ _ 23 rfl w2.heap.size 3 i0 (.int .i64 0) 1 8 Tryz.underlying23 hi hz0 hz1 hz2 rfl (by decide) _ _ _ rfl (hown.alloc _) ⟨wr.heap.size, 0, none⟩ 1 1 [.int .i64 z] rfl rfl (cell_one_new _ _ _) (by simp [Value.oneCell']) (by simp only [maxLen]; omega) (by omega) (by have := hBx.size; simp; omega) ?_; intro v' w9 hown' hgrow _))
        have hown2 : w9.ownsRow w2.heap.size 3 1 v' (frmL ls (k + 1)).length (iw (frmL ls (k + 1))) := by
          rw [HS2.out]; simpa [iw] using hown'
        have hBx2 : Below w2.heap.size w2 w9 := (hBx.alloc hBx.size _).grown hgrow (by have := hBx.size; simp; omega) (fun q e => (hown.lt q e).1)
        clear hown' hgrow hown hBx
        go_wp2_with fail
        go_roundw
        case rel => exact ⟨k + 1, by omega, by go_num, hown2, hBx2⟩
        case measure => simp [intOf]; omega
    · obtain rfl : k = 8 := by omega
      by_cases hr1 : r = -1
      · have Hv : Hid (frmA r ls = frmL ls 8) := Lib.hid (by unfold frmA; rw [if_pos hr1, List.append_nil])
        have hr2 : (r != -1) = false := by simp [hr1]
        clear hr1
        go_wp2_with fail
        go_ret2
        exact ⟨_, rfl, by rw [Hv.out]; exact own_less hown (by have := hB1.size; omega), bnext hB1 hBx⟩
      · have Hv : Hid (frmA r ls = frmL ls 8 ++ [r]) := Lib.hid (by unfold frmA; rw [if_neg hr1])
        have hr2 : (r != -1) = true := by simp [hr1]
        clear hr1
        go_wp2_with (first
          | (at_builtin; refine wpList_append_own _ rfl _ _ 23 rfl w2.heap.size 3 i0 (.int .i64 0) 1 8 Tryz.underlying23 hi hz0 hz1 hz2 rfl (by decide) _ _ _ rfl (hown.alloc _) ⟨wr.heap.size, 0, none⟩ 1 1 [.int .i64 r] rfl rfl (cell_one_new _ _ _) (by simp [Value.oneCell']) (by simp only [maxLen]; omega) (by omega) (by have := hBx.size; simp; omega) ?_; intro v' w9 hown' hgrow _))
        have hown2 : w9.ownsRow w2.heap.size 3 1 v' (frmL ls 8 ++ [r]).length (iw (frmL ls 8 ++ [r])) := by
          simpa [iw] using hown'
        have hBx2 : Below w2.heap.size w2 w9 := (hBx.alloc hBx.size _).grown hgrow (by have := hBx.size; simp; omega) (fun q e => (hown.lt q e).1)
        clear hown' hgrow hown hBx
        go_wp2_with fail
        go_ret2
        exact ⟨_, rfl, by rw [Hv.out]; exact own_less hown2 (by have := hB1.size; omega), bnext hB1 hBx2⟩
theorem Rd.olds {w W : World} {sz n : Nat} {A : Option Addr} {xs : List Value} (h : Rd w sz A n xs) (k : ∀ b, b < w.heap.size → W.heap[b]? = w.heap[b]?) : Rd W sz A n xs := by
  refine ⟨h.1, fun h0 => ?_⟩
  obtain ⟨b, off, rfl, hb, hc⟩ := h.2 h0
  have hk : KeepB b w W := k b hb
  refine ⟨b, off, rfl, ?_, fun j u hu => (hk.cell _).trans (hc j u hu)⟩
  have : W.heap[b]? = some w.heap[b] := hk.trans (by simp [hb])
  exact (Array.getElem?_eq_some_iff.1 this).1
def t0N : Tb := (-1, List.replicate 8 (-1), List.replicate 64 0)
def lo1 (x : Lo) : Lo := (x.1, x.2.1, -1)
def empS (s : Sp) : Sp × List Lo × List Int × Int :=
  if spcE s ≠ 0 then (sp0, [], [], spcE s)
  else (([], t0N), (losP s.2.1 s.2.2.1 s.2.2.2 0 63 (pgs 0 64)).2.2.map lo1, (frmR s.2.1 s.2.2.1 s.2.2.2).1, 0)
/-- An address space, losses, frames and an error as results. -/
def SpResE (w w' : World) (s : Sp) (los : List Lo) (zs : List Int) (er : Int) (e : Ending) : Prop := ∃ v u z, e = .returned (.tuple #[v, u, z, .int .i64 er]) ∧ SpV w' v s ∧ SLoc w.heap.size v ∧ IsLo w' u los ∧ ILoc w.heap.size u ∧ IsV w' z zs ∧ ILoc w.heap.size z ∧ Below w.heap.size w w'

set_option maxHeartbeats 4000000 in
theorem EmptySp_any (rs : List (Int × Int)) (r : Int) (ls : List Int) (es : List Nat) (v : Value) (w : World) (hv : SpV w v (rs, r, ls, es)) (hn : rs.length ≤ 1000) (hs : wsmall es) (hL : LayOK w) :
    Calls Tryz.prog 13 #[v] w fun e w' => SpResE w w' (empS (rs, r, ls, es)).1 (empS (rs, r, ls, es)).2.1 (empS (rs, r, ls, es)).2.2.1 (empS (rs, r, ls, es)).2.2.2 e := by
  obtain ⟨A, c, L, cl, B, d, hve, hA, hLs, hB, hcc⟩ := id hv
  subst hve
  unfold spcV at hv ⊢
  simp only at hv ⊢ hA hLs hB hcc
  have kS := (Bk.new w #[.slice A rs.length c, .int .i64 r, .slice L ls.length cl, .slice B es.length d] 28).alloc (.cells #[.slice none 0 0, .int .i64 0, .slice none 0 0, .slice none 0 0] 28)
  have kR := Bk.new (w.alloc (.cells #[.slice A rs.length c, .int .i64 r, .slice L ls.length cl, .slice B es.length d] 28)) #[.slice none 0 0, .int .i64 0, .slice none 0 0, .slice none 0 0] 28
  simp only [World.size_alloc] at kR
  have hB1 := balloc (balloc (Below.refl _ w) (.cells #[.slice A rs.length c, .int .i64 r, .slice L ls.length cl, .slice B es.length d] 28)) (.cells #[.slice none 0 0, .int .i64 0, .slice none 0 0, .slice none 0 0] 28)
  generalize hw1 : (w.alloc (.cells #[.slice A rs.length c, .int .i64 r, .slice L ls.length cl, .slice B es.length d] 28)).alloc (.cells #[.slice none 0 0, .int .i64 0, .slice none 0 0, .slice none 0 0] 28) = w1 at *
  have HC := Lib.hid (spCheck_any rs r ls es _ _ (hv.to hB1) (by omega) hs (hL.below hB1))
  obtain ⟨cS, fS, lS⟩ := kS.facts
  obtain ⟨cR, fR, lR⟩ := kR.facts
  by_cases hE : spcE (rs, r, ls, es) = 0
  case neg =>
    have hR : empS (rs, r, ls, es) = (sp0, [], [], spcE (rs, r, ls, es)) := by unfold empS; rw [if_pos hE]
    rw [hR]
    have hd : (spcE (rs, r, ls, es) != 0) = true := by simpa using hE
    generalize spcE (rs, r, ls, es) = z at *
    clear hR hE
    go_enter Tryz.func13, Tryz.ntmps13
    go_wp2_with (go_at_call 20; refine HC.out.mono ?_; rintro e w2 ⟨rfl, hb2⟩; clear cS fS lS cR fR lR; obtain ⟨cR, fR, lR⟩ := (kR.to hb2).facts)
    have kF := (kR.to hb2).put4 (.slice none 0 0) (.int .i64 0) (.slice none 0 0) (.slice none 0 0)
    have hBF := below_put4 (bnext hB1 hb2) (g := w.heap.size + 1) (by omega) (.slice none 0 0) (.int .i64 0) (.slice none 0 0) (.slice none 0 0)
    exact bodyPost_ret (kF.res4 (P := Tryz.prog) rfl _ rfl (by kernel_rfl) (by kernel_rfl)) rfl ⟨_, _, _, rfl, SpV.zero _, SLoc.zero _, IsLo.nil _, ILoc.nil _, IsV.nil _, ILoc.nil _, hBF⟩
  obtain ⟨hg, hT, _⟩ := spc_zero hE
  simp only at hg hT
  rw [hE] at HC
  have hT1 : TbV w1 (.agg #[.int .i64 r, .slice L ls.length cl, .slice B es.length d]) (r, ls, es) := tbv_of (hLs.below hB1 (Nat.le_refl _)) (hB.below hB1 (Nat.le_refl _)) hcc
  have HF := Lib.hid (fun W h1 h2 => TFrames_row r ls es _ W (h1 : TbV W (.agg #[.int .i64 r, .slice L ls.length cl, .slice B es.length d]) (r, ls, es)) hs h2 hT)
  have HN := Lib.hid (fun W => TNew_any (-1) W)
  have hnew : newR (-1) = (t0N, 0) := by unfold newR badF; rw [if_neg (by decide)]; rfl
  rw [hnew] at HN
  have hfr : (frmR r ls es).1 = frmA r ls := by unfold frmR; rw [if_neg (by simp [hT])]; rfl
  have hR : empS (rs, r, ls, es) = (([], t0N), (losP r ls es 0 63 (pgs 0 64)).2.2.map lo1, (frmR r ls es).1, 0) := by unfold empS; rw [if_neg (by simpa using hE)]
  rw [hR]
  rw [hfr]
  have HLo := Lib.hid (fun PB v w0 w h1 h2 h3 h4 h5 => lose_any 36 lo1 PB (enters_of Tryz.func36 (by kernel_rfl) rfl) (lost2_c PB) r ls es v 0 63 w0 w h1 hs h2 h3 h4 hT h5)
  clear hR hE hfr hnew
  generalize frmA r ls = fs at *
  generalize (losP r ls es 0 63 (pgs 0 64)) = st at *
  go_enter Tryz.func13, Tryz.ntmps13
  go_wp2_with (first
    | (go_at_call 20; refine HC.out.mono ?_; rintro e w2 ⟨rfl, hb2⟩; clear cS fS lS cR fR lR; obtain ⟨cR, fR, lR⟩ := (kR.to hb2).facts; obtain ⟨cS, fS, lS⟩ := (kS.to hb2).facts)
    | (go_at_call 34; refine (HF.out _ (hT1.to hb2) (hL.below (bnext hB1 hb2))).mono ?_; rintro e w3 ⟨v3, rfl, hr3, hb3⟩; clear cS fS lS cR fR lR; obtain ⟨cR, fR, lR⟩ := ((kR.to hb2).to hb3).facts; obtain ⟨cS, fS, lS⟩ := ((kS.to hb2).to hb3).facts)
    | (go_at_call 35; refine (HN.out _).mono ?_; rintro e w4 ⟨v4, rfl, ⟨A4, c4, B4, d4, hv4, hA4, hB4, hc4⟩, hl4, hb4⟩; unfold tabV at hv4; subst hv4; clear cS fS lS cR fR lR; obtain ⟨cR, fR, lR⟩ := (((kR.to hb2).to hb3).to hb4).facts; obtain ⟨cS, fS, lS⟩ := (((kS.to hb2).to hb3).to hb4).facts))
  have e8 : t0N.2.1.length = 8 := rfl
  have e64 : t0N.2.2.length = 64 := rfl
  have em : t0N.1 = -1 := rfl
  rw [e8] at hA4 hc4 hl4
  rw [e64] at hB4 hl4
  rw [e8, e64, em]
  rw [em] at hl4
  obtain ⟨hlA, hlB⟩ := hl4 _ _ _ _ _ _ _ rfl
  have hB4' := bnext (bnext (bnext hB1 hb2) hb3) hb4
  have hs12 := hb2.size
  have hs23 := hb3.size
  have hs34 := hb4.size
  have hkR := kR.lt
  have kN := Bk.new w4 #[.int .i64 (-1), .slice A4 8 c4, .slice B4 64 d4] 26
  have hb5 := balloc (Below.refl _ w4) (.cells #[.int .i64 (-1), .slice A4 8 c4, .slice B4 64 d4] 26)
  have hs5 : (w4.alloc (.cells #[.int .i64 (-1), .slice A4 8 c4, .slice B4 64 d4] 26)).heap.size = w4.heap.size + 1 := by simp
  rw [← hs5]
  generalize w4.alloc (.cells #[.int .i64 (-1), .slice A4 8 c4, .slice B4 64 d4] 26) = w5 at *
  have hB5 := bnext hB4' hb5
  have hT5 : TbV w5 (.agg #[.int .i64 r, .slice L ls.length cl, .slice B es.length d]) (r, ls, es) := tbv_of (hLs.below hB5 (Nat.le_refl _)) (hB.below hB5 (Nat.le_refl _)) hcc
  have hbP := balloc (Below.refl _ w5) (.cells #[.slice none 0 0] 36)
  refine (HLo.out w5.heap.size _ w5 (w5.alloc (.cells #[.slice none 0 0] 36)) hT5 (hL.below hB5) hbP (Nat.le_refl _) (Boxed.new _ _ _)).mono ?_
  rintro e w7 ⟨bA, oA, cA, bB, oB, cB, u, rfl, hT7, hX7, hr7, hb7, hk7⟩
  have hsP : (w5.alloc (.cells #[.slice none 0 0] 36)).heap.size = w5.heap.size + 1 := by simp
  generalize w5.alloc (.cells #[.slice none 0 0] 36) = w6 at *
  have hk57 : ∀ b, b < w5.heap.size → w7.heap[b]? = w5.heap[b]? := fun b hb => (hk7 b (by omega) (by omega)).trans (hbP.block b hb)
  have kR7 : Bk w7 (w.heap.size + 1) #[.slice none 0 0, .int .i64 0, .slice none 0 0, .slice none 0 0] 28 := (hk57 _ (by omega)).trans ((((kR.to hb2).to hb3).to hb4).to hb5)
  have kN7 : Bk w7 w4.heap.size #[.int .i64 (-1), .slice A4 8 c4, .slice B4 64 d4] 26 := (hk57 _ (by omega)).trans kN
  have hA7 := (hA4.below hb5 (Nat.le_refl _)).olds hk57
  have hB7' := (hB4.below hb5 (Nat.le_refl _)).olds hk57
  obtain ⟨A3, c3, rfl, _⟩ := own_slice hr3
  have hlo3 := own_loc2 hr3
  have hr37 : w7.ownsRow w2.heap.size 3 1 (.slice A3 fs.length c3) fs.length (iw fs) := own_same (own_below (own_below hr3 hb4) hb5) (fun b off q e => by have := hlo3 b off q e; exact hk57 b (by omega))
  have hB7 : Below w.heap.size w w7 := (bnext hB5 hbP).trans (hb7.mono (by omega))
  have hxl := Boxed.lt hX7
  clear cR fR lR cS fS lS hr3 hA4 hB4 hb7 hk7 hbP HLo HF HN HC kS hw1 hT5 hk57 kN kR
  have cX := hX7.cell
  have fX := hX7.frozen
  rw [hs5] at cX fX
  obtain ⟨cN, fN, lN⟩ := kN7.facts
  obtain ⟨cR, fR, lR⟩ := kR7.facts
  go_upto_region 12 with fail
  go_region
  simp only [Exit.then]
  go_at_K
  go_wp2
  have kF := (kR7.put4 (.slice none 0 0) (.int .i64 (-1)) (.slice A4 8 c4) (.slice B4 64 d4)).drew
  have hBF := below_drew (below_put4 hB7 (g := w.heap.size + 1) (by omega) (.slice none 0 0) (.int .i64 (-1)) (.slice A4 8 c4) (.slice B4 64 d4))
  have hR2 := own_ne4 hr37 (g := w.heap.size + 1) (fun b off q e => by have := hlo3 b off q e; omega) (.slice none 0 0) (.int .i64 (-1)) (.slice A4 8 c4) (.slice B4 64 d4)
  have hA2 := hA7.far4 (g := w.heap.size + 1) (fun b off h0 e => by have := hlA b off h0 e; omega) (.slice none 0 0) (.int .i64 (-1)) (.slice A4 8 c4) (.slice B4 64 d4)
  have hB2 := hB7'.far4 (g := w.heap.size + 1) (fun b off h0 e => by have := hlB b off h0 e; omega) (.slice none 0 0) (.int .i64 (-1)) (.slice A4 8 c4) (.slice B4 64 d4)
  obtain ⟨Au, cu, rfl, _⟩ := own_slice hr7
  have hlou := own_loc2 hr7
  have hU2 := own_ne4 hr7 (g := w.heap.size + 1) (fun b off q e => by have := hlou b off q e; omega) (.slice none 0 0) (.int .i64 (-1)) (.slice A4 8 c4) (.slice B4 64 d4)
  generalize (((w7.setCell ⟨w.heap.size + 1, 0, none⟩ (.slice none 0 0)).setCell ⟨w.heap.size + 1, 1, none⟩ (.int .i64 (-1))).setCell ⟨w.heap.size + 1, 2, none⟩ (.slice A4 8 c4)).setCell ⟨w.heap.size + 1, 3, none⟩ (.slice B4 64 d4) = W6 at *
  have hml : (st.2.2.map lo1).length = st.2.2.length := List.length_map _
  refine bodyPost_ret (kF.res4 (P := Tryz.prog) rfl _ rfl (by kernel_rfl) (by kernel_rfl)) rfl ⟨_, _, _, rfl, ⟨none, 0, A4, c4, B4, d4, rfl, Rd.zero none, hA2.drew1, hB2.drew1, hc4⟩,
    SLoc.mk (fun b off h0 e => by cases e) (fun b off h0 e => by have := hlA b off h0 e; omega) (fun b off h0 e => by have := hlB b off h0 e; omega), ⟨Au, cu, by rw [hml]; rfl, by rw [hml]; exact Rd.own (own_below hU2 (below_drew (Below.refl _ _)))⟩, ?_, ⟨A3, c3, rfl, Rd.own (own_below hR2 (below_drew (Below.refl _ _)))⟩, (fun A n c e b off h0 ha => by injection e with e1 e2 e3; subst e1; have := hlo3 b off _ ha; omega), hBF⟩
  intro A' n' c' e b off h0 h1
  injection e with e1
  subst e1 h1
  have := hlou b off _ rfl
  omega
end Go.Proofs.YtpkgfkhaiifooaaGreatDoor
/- What Unmap and Empty lose: plain facts. -/
namespace Go.Proofs.YtpkgfkhaiifooaaGreatDoor
open Go Go.Proofs Go.RowKit
set_option linter.unusedSimpArgs false
set_option linter.unusedVariables false

theorem pgN {n : Nat} (hn : n < 64) : (pg (0 + (n : Int))).1 = (n : Int) := by rw [pg_val _ (by omega) (by omega)]; omega
/-- The losses below a page. -/
def lpN (r : Int) (ls : List Int) (es : List Nat) (a b : Int) (n : Nat) : List Lo := (losP r ls es a b (pgs 0 n)).2.2
def lpB (es : List Nat) (a b : Int) (n : Nat) : Bool := decide (a ≤ (n : Int)) && decide ((n : Int) ≤ b) && decide ((entP es n).1 ≠ 0)
theorem lp_no {r : Int} {ls : List Int} {es : List Nat} {a b : Int} {n : Nat} (hn : n < 64) (h : lpB es a b n = false) : lpN r ls es a b (n + 1) = lpN r ls es a b n := by
  unfold lpN
  rw [pgs_succ, losP_snoc]
  unfold losS
  rw [pgN hn, Int.toNat_natCast, if_pos]
  simp only [lpB, Bool.and_eq_false_iff, decide_eq_false_iff_not] at h
  rcases h with (h | h) | h
  · exact .inl (by omega)
  · exact .inr (.inl (by omega))
  · exact .inr (.inr (by simpa using h))
theorem lp_yes {r : Int} {ls : List Int} {es : List Nat} {a b : Int} {n : Nat} (hn : n < 64) (h : lpB es a b n = true) : ∃ lf, lpN r ls es a b (n + 1) = lpN r ls es a b n ++ [((n : Int), entP es n, lf)] := by
  unfold lpN
  rw [pgs_succ, losP_snoc]
  unfold losS
  rw [pgN hn, Int.toNat_natCast, if_neg]
  · exact ⟨_, rfl⟩
  · simp only [lpB, Bool.and_eq_true, decide_eq_true_eq] at h
    obtain ⟨⟨h1, h2⟩, h3⟩ := h
    rintro (q | q | q)
    · omega
    · omega
    · exact h3 q
theorem lp_pre {r : Int} {ls : List Int} {es : List Nat} {a b : Int} (n : Nat) : ∀ k : Nat, n + k ≤ 64 → ∃ t, lpN r ls es a b (n + k) = lpN r ls es a b n ++ t
  | 0, _ => ⟨[], by simp⟩
  | k + 1, hk => by
    obtain ⟨t, ht⟩ := lp_pre n k (by omega)
    by_cases h : lpB es a b (n + k) = true
    · obtain ⟨lf, hl⟩ := lp_yes (r := r) (ls := ls) (by omega) h
      exact ⟨t ++ [(((n + k : Nat) : Int), entP es (n + k), lf)], by rw [← Nat.add_assoc, hl, ht, List.append_assoc]⟩
    · exact ⟨t, by rw [← Nat.add_assoc, lp_no (by omega) (by simpa using h), ht]⟩
/-- Where a page that goes lies in the losses. -/
theorem lp_at {r : Int} {ls : List Int} {es : List Nat} {a b : Int} {n : Nat} (hn : n < 64) (h : lpB es a b n = true) :
    (lpN r ls es a b (n + 1)).length = (lpN r ls es a b n).length + 1 ∧ ∃ lf, (lpN r ls es a b 64)[(lpN r ls es a b n).length]? = some ((n : Int), entP es n, lf) := by
  obtain ⟨lf, hl⟩ := lp_yes (r := r) (ls := ls) hn h
  refine ⟨by rw [hl]; simp, lf, ?_⟩
  obtain ⟨t, ht⟩ := lp_pre (r := r) (ls := ls) (es := es) (a := a) (b := b) (n + 1) (63 - n) (by omega)
  rw [show n + 1 + (63 - n) = 64 by omega] at ht
  rw [ht, hl, List.append_assoc, List.getElem?_append_right (Nat.le_refl _), Nat.sub_self]
  rfl
theorem lp_len {r : Int} {ls : List Int} {es : List Nat} {a b : Int} : ∀ n : Nat, n ≤ 64 → (lpN r ls es a b n).length = ((List.range n).filter fun p => lpB es a b p).length
  | 0, _ => rfl
  | n + 1, hn => by
    have ih := lp_len (r := r) (ls := ls) (es := es) (a := a) (b := b) n (by omega)
    rw [List.range_succ, List.filter_append, List.length_append, ← ih]
    by_cases h : lpB es a b n = true
    · rw [(lp_at (r := r) (ls := ls) (by omega) h).1]
      simp [List.filter, h]
    · rw [lp_no (by omega) (by simpa using h)]
      simp [List.filter, show lpB es a b n = false by simpa using h]
theorem fil_succ (f : Nat → Bool) (n : Nat) : ((List.range (n + 1)).filter f).length = ((List.range n).filter f).length + if f n = true then 1 else 0 := by
  rw [List.range_succ, List.filter_append, List.length_append]
  cases h : f n <;> simp [List.filter, h]
theorem kin_len (es : List Nat) (hU : ∀ p, p < 64 → unpE (es.getD p 0) = 0) : ∀ n : Nat, n ≤ 64 → ((kinL es 1 n).length : Int) + (kinL es 2 n).length = ((List.range n).filter fun p => lpB es 0 63 p).length
  | 0, _ => rfl
  | n + 1, hn => by
    have ih := kin_len es hU n (by omega)
    rw [kin_succ, kin_succ, fil_succ]
    have hk : unpK (es.getD n 0) = 0 ∨ unpK (es.getD n 0) = 1 ∨ unpK (es.getD n 0) = 2 := by
      have h1 := unpK_eq _ (hU n (by omega))
      have h2 := unpE_lt4 _ (hU n (by omega))
      omega
    have hb : lpB es 0 63 n = decide (unpK (es.getD n 0) ≠ 0) := by
      unfold lpB
      rw [decide_eq_true (show (0 : Int) ≤ (n : Int) by omega), decide_eq_true (show (n : Int) ≤ 63 by omega)]
      rfl
    rw [hb]
    rcases hk with hk | hk | hk <;> simp only [hk] <;> simp <;> omega

/-- The address space behind Unmap. -/
theorem unm_ok {rs : List (Int × Int)} {r : Int} {ls : List Int} {es : List Nat} {a b : Int} (hE : spcE (rs, r, ls, es) = 0) (hs : wsmall es) (hu : (unmR rs a b).2 = 0) :
    spcE ((unmR rs a b).1, r, (losP r ls es a b (pgs 0 64)).1, (losP r ls es a b (pgs 0 64)).2.1) = 0 := by
  obtain ⟨hg, hT, hO⟩ := spc_zero hE
  simp only at hg hT hO
  obtain ⟨f1, f2, f3, f4⟩ := los_facts hT hs a b 64 (Nat.le_refl _)
  have hr : (unmR rs a b).1 = regs (subF rs a b) := by
    unfold unmR at hu ⊢
    split at hu
    · rename_i h; exact absurd hu h
    · rename_i h
      rw [if_neg h]
      split at hu
      · cases hu
      · rename_i h2; rw [if_neg h2]
  rw [hr]
  refine spc_ok (regs_v _) f1 (fun p hp => outE_no ?_)
  simp only
  rw [f4 p hp]
  by_cases hc : p < 64 ∧ a ≤ (p : Int) ∧ (p : Int) ≤ b ∧ (entP es p).1 ≠ 0
  · rw [if_pos hc]
    exact .inl (by decide)
  · rw [if_neg hc]
    by_cases hk : unpK (es.getD p 0) = 0
    · exact .inl hk
    · right
      rw [regs_has _ p hp]
      have hh : hasP rs p = true := by
        cases h : hasP rs p
        · have := hO p hp
          rw [outE_yes hk h] at this
          cases this
        · rfl
      unfold subF inR
      rw [hh, Bool.true_and]
      have : ¬ (a ≤ (p : Int) ∧ (p : Int) ≤ b) := fun ⟨h1, h2⟩ => hc ⟨hp, h1, h2, hk⟩
      simp only [Bool.not_eq_true', Bool.and_eq_false_iff, decide_eq_false_iff_not]
      omega
theorem emp_ok : spcE ([], t0N) = 0 := by decide +kernel
end Go.Proofs.YtpkgfkhaiifooaaGreatDoor
