/- What addr.Cover returns. -/
import Derived.Test.YtmaebbbaooodaaaDoorPieces
set_option linter.unusedSimpArgs false
set_option linter.unusedVariables false
namespace Go.Proofs.YtmaebbbaooodaaaDoor
open Go Go.Proofs Go.RowKit Go.Shelf
attribute [local go_sem] Oper.semAt_some

/-- A mark that a range over a function has left for the end of the call. -/
def mark (D : Nat) : Deferred := { target := .collected D, args := #[] }

theorem leaves_marks {F : Fence} {n : Nat} {P : Program} {fn : Func} {tmps : Array Value} {R : Ending → World → Prop} {u : FrameMode} (hu : u ≠ .run) : ∀ (ds : List Nat) (W : World), ds.Nodup →
    (∀ D ∈ ds, W.heap[D]? = some (.deferred (some []))) →
    (∀ W', W'.heap.size = W.heap.size → W'.os = W.os → W'.tape = W.tape → W'.output = W.output → (∀ b, b ∉ ds → W'.heap[b]? = W.heap[b]?) → LeavesInM F n P fn tmps R [] u W') →
    LeavesInM F n P fn tmps R (ds.map mark) u W := by
  intro ds
  induction ds with
  | nil => intro W _ _ h; exact h W rfl rfl rfl rfl (fun _ _ => rfl)
  | cons D ds ih =>
    intro W hnd hD h
    have hn := List.nodup_cons.1 hnd
    refine ⟨hu, .inl ⟨D, _, rfl, run_takeDeferred (hD D (by simp)), ?_⟩⟩
    refine ih _ hn.2 (fun E hE => ?_) (fun W' hs h1 h2 h3 hb => ?_)
    · have hne : E ≠ D := fun e => hn.1 (e ▸ hE)
      rw [World.putObj_heap_other hne]
      exact hD E (by simp [hE])
    · refine h W' (by rw [hs]; simp) h1 h2 h3 (fun b hb' => ?_)
      simp at hb'
      rw [hb b hb'.2, World.putObj_heap_other hb'.1]

/-- Which leaves the ranges have. -/
def marked (l : List (Int × Int)) (j : Nat) : Bool := l.any fun r => decide (r.1 / 8 ≤ (j : Int)) && decide ((j : Int) ≤ r.2 / 8)
def cover (l : List (Int × Int)) : List Int := ((List.range 8).filter (marked l)).map fun j : Nat => (j : Int)
def okR (r : Int × Int) : Bool := decide (0 ≤ r.1) && decide (r.1 ≤ r.2) && decide (r.2 < 64)
def marksOf (f : Nat → Bool) : Array Value := #[.bool (f 0), .bool (f 1), .bool (f 2), .bool (f 3), .bool (f 4), .bool (f 5), .bool (f 6), .bool (f 7)]
/-- The pages that have come so far, and the ranges before, have marked their leaves. -/
def markF (l : List (Int × Int)) (pre : List Pg) (j : Nat) : Bool := marked l j || pre.any fun p => decide (p.1 / 8 = (j : Int))
theorem markF_all (l : List (Int × Int)) (a b : Int) (h0 : 0 ≤ a) (h1 : a ≤ b) (h2 : b < 64) (j : Nat) : markF l (pgs a (b - a + 1).toNat) j = marked (l ++ [(a, b)]) j := by
  unfold markF marked
  rw [List.any_append]
  congr 1
  rw [Bool.eq_iff_iff]
  simp only [List.any_eq_true, pgs, List.mem_map, List.mem_range, decide_eq_true_eq, List.any_cons, List.any_nil, Bool.or_false, Bool.and_eq_true]
  constructor
  · rintro ⟨p, ⟨i, hi, rfl⟩, hp⟩
    rw [pg_val _ (by omega) (by omega)] at hp
    omega
  · rintro ⟨h3, h4⟩
    have : ∃ x : Int, a ≤ x ∧ x ≤ b ∧ x / 8 = j := by
      by_cases hx : a ≤ 8 * j
      · exact ⟨8 * j, by omega, by omega, by omega⟩
      · exact ⟨a, by omega, by omega, by omega⟩
    obtain ⟨x, hx1, hx2, hx3⟩ := this
    exact ⟨pg x, ⟨(x - a).toNat, by omega, by congr 1; omega⟩, by rw [pg_val _ (by omega) (by omega)]; exact hx3⟩
theorem marksOf_at (f : Nat → Bool) (j : Nat) (hj : j < 8) : (marksOf f)[j]? = some (.bool (f j)) := by
  unfold marksOf
  match j, hj with
  | 0, _ | 1, _ | 2, _ | 3, _ | 4, _ | 5, _ | 6, _ | 7, _ => simp
theorem marksOf_set (f : Nat → Bool) (j : Nat) (hj : j < 8) : (marksOf f).setIfInBounds j (.bool true) = marksOf fun i => f i || decide (i = j) := by
  unfold marksOf
  match j, hj with
  | 0, _ | 1, _ | 2, _ | 3, _ | 4, _ | 5, _ | 6, _ | 7, _ => simp
theorem markF_snoc (l : List (Int × Int)) (pre : List Pg) (x : Pg) : (fun i => markF l pre i || decide (i = (x.1 / 8).toNat)) = markF l (pre ++ [x]) := by
  funext i
  have := x.2
  unfold markF
  rw [List.any_append, Bool.or_assoc]
  congr 2
  simp
  omega
theorem markF_nil (l : List (Int × Int)) : markF l [] = marked l := by funext j; simp [markF]

def coverE (rs : List (Int × Int)) : Int := if 64 < rs.length then 5 else if rs.all okR then 0 else 2
def coverL (rs : List (Int × Int)) : List Int := if 64 < rs.length then [] else if rs.all okR then cover rs else []

set_option maxHeartbeats 400000 in
theorem Cover_full (A : Option Addr) (n c : Nat) (w : World) (hn : 64 < n) (hn' : n ≤ 1000000) :
    Calls Tryd.prog 17 #[.slice A n c] w fun e w' => e = .returned (.tuple #[.slice none 0 0, .int .i64 5]) ∧ w = w' := by
  go_enter Tryd.func17, Tryd.ntmps17
  go_wp2_with fail
  go_ret2
  exact ⟨rfl, rfl⟩

theorem infoInt : (Tryd.prog.info? 3).map (fun i => (i.zero, i.size, i.bytes)) = some (some (.int .i64 0), 1, 8) := by kernel_rfl
theorem eq8 (b0 b1 b2 b3 b4 b5 b6 b7 : Bool) (w : World) : (Op.equalIn 10000 62 (.agg #[.bool b0, .bool b1, .bool b2, .bool b3, .bool b4, .bool b5, .bool b6, .bool b7]) (.agg #[.bool false, .bool false, .bool false, .bool false, .bool false, .bool false, .bool false, .bool false])).run Tryd.prog w = .ok (!(b0 || b1 || b2 || b3 || b4 || b5 || b6 || b7)) w := by
  cases b0
  case true => kernel_rfl
  cases b1
  case true => kernel_rfl
  cases b2
  case true => kernel_rfl
  cases b3
  case true => kernel_rfl
  cases b4
  case true => kernel_rfl
  cases b5
  case true => kernel_rfl
  cases b6
  case true => kernel_rfl
  cases b7
  case true => kernel_rfl
  kernel_rfl
theorem idx8 (f : Nat → Bool) (k : Nat) (hk : k < 8) (w : World) : (Instr.index 62 (.agg (marksOf f)) (.int .i64 k)).run Tryd.prog w = .ok (.bool (f k)) w := by
  have h : k = 0 ∨ k = 1 ∨ k = 2 ∨ k = 3 ∨ k = 4 ∨ k = 5 ∨ k = 6 ∨ k = 7 := by omega
  rcases h with rfl | rfl | rfl | rfl | rfl | rfl | rfl | rfl
  all_goals
    show (Instr.index _ _ _).run _ _ = _
    kernel_rfl
def coverK (f : Nat → Bool) (k : Nat) : List Int := ((List.range k).filter f).map fun j : Nat => (j : Int)
theorem coverK_yes (f : Nat → Bool) (k : Nat) (h : f k = true) : coverK f (k + 1) = coverK f k ++ [(k : Int)] := by simp [coverK, List.range_succ, h]
theorem coverK_no (f : Nat → Bool) (k : Nat) (h : f k = false) : coverK f (k + 1) = coverK f k := by simp [coverK, List.range_succ, h]
theorem coverK_len (f : Nat → Bool) (k : Nat) : (coverK f k).length ≤ k := by
  have := List.length_filter_le f (List.range k)
  simpa [coverK] using this

/-- Between two pages of one range. -/
def CoverJ (w : World) (B : Nat) (ds : List Nat) (l : List (Int × Int)) (pre : List Pg) (W : World) : Prop :=
  Bk W w.heap.size (marksOf (markF l pre)) 62 ∧ (∀ D ∈ ds, W.heap[D]? = some (.deferred (some [])) ∧ D < B) ∧ Below w.heap.size w W
theorem coverJ_own (w : World) (B : Nat) (ds : List Nat) (l : List (Int × Int)) (hB : w.heap.size < B) : OwnFrom B (CoverJ w B ds l) := by
  rintro pre W W' row ⟨hM, hds, hb⟩ hg hr
  have hne : ∀ j, j < B → some j ≠ row := fun j hj e => by have := (hr j e.symm).1; omega
  refine ⟨(hg.block _ hM.lt (hne _ hB)).trans hM, fun D hD => ⟨(hg.block D (Array.getElem?_eq_some_iff.1 (hds D hD).1).1 (hne D (hds D hD).2)).trans (hds D hD).1, (hds D hD).2⟩, hb.grown hg hb.size (fun j e => by have := (hr j e).1; omega)⟩

/-- At the head of the loop over the ranges. -/
def CoverI (w : World) (A : Option Addr) (n c : Nat) (rs : List (Int × Int)) (a : Act) (wr : World) : Prop :=
  ∃ (k : Nat) (ds : List Nat) (u6 u7 u8 u18 u19 u20 u21 u22 u23 u24 u25 u26 u27 u28 u29 u30 u31 u32 : Value), (k ≤ n ∧ (rs.take k).all okR = true ∧ Bk wr w.heap.size (marksOf (marked (rs.take k))) 62 ∧ ds.Nodup ∧ (∀ D ∈ ds, wr.heap[D]? = some (.deferred (some [])) ∧ w.heap.size < D) ∧ Below w.heap.size w wr) ∧
    a = { tmps := #[.slice A n c, undef, .slice none 0 0, .int .i64 0, .pointer (some ⟨w.heap.size, 0, none⟩), undef, u6, u7, u8, undef, undef, undef, .slice A n c, .int .i64 n, .bool false, .slice A n c, .int .i64 n, .int .i64 k, u18, u19, u20, u21, u22, u23, u24, u25, u26, u27, u28, u29, u30, u31, u32, undef, undef, undef, undef, undef, undef, undef, undef, undef, undef, undef, undef, undef, undef, undef], defers := ds.map mark }

set_option maxRecDepth 100000 in
set_option maxHeartbeats 2000000 in
theorem Cover_some (A : Option Addr) (n c : Nat) (rs : List (Int × Int)) (w : World) (hn : n ≤ 64) (hr : Rd w 2 A n (flat2 .i64 rs)) :
    Calls Tryd.prog 17 #[.slice A n c] w fun e w' => ∃ v, e = .returned (.tuple #[v, .int .i64 (coverE rs)]) ∧
      w'.ownsRow w.heap.size 3 1 v (coverL rs).length ((coverL rs).map (Value.int .i64)) ∧ Below w.heap.size w w' := by
  have hF : ∀ f, Fence.wide.fn f := fun _ => trivial
  refine (callsIn_wide (n := 4)).1 ?_
  refine callsIn_of_wp_marks Tryd.func17 rfl trivial ?_ rfl
  simp only [Tryd.ntmps17, List.size_toArray, List.length_cons, List.length_nil, Nat.reduceAdd, Nat.reduceSub, Array.replicate_succ, Array.replicate_zero, List.push_toArray, List.append_toArray, List.nil_append, List.cons_append]
  have hd64 : decide ((64 : Int) < (n : Int)) = false := by simp; omega
  have hlen : rs.length = n := by have := hr.1; rw [flat2_len] at this; omega
  have Hlen := Lib.hid hlen
  clear hlen
  gi_wp2_with fail
  refine wpIn_loop (CoverI w A n c rs) (fun a _ => n - (intOf (a.tmps.getD 17 undef)).toNat) ?start ?round
  case start =>
    refine ⟨0, [], _, _, _, _, _, _, _, _, _, _, _, _, _, _, _, _, _, _, ⟨by omega, by simp, ?_, by simp, by simp, (Below.refl _ _).alloc (Nat.le_refl _) _⟩, rfl⟩
    have := Bk.new w (marksOf (marked [])) 62
    simpa [marksOf, marked] using this
  case round =>
    rintro _ wr ⟨k, ds, u6, u7, u8, u18, u19, u20, u21, u22, u23, u24, u25, u26, u27, u28, u29, u30, u31, u32, ⟨hk, hok, hM, hnd, hds, hB⟩, rfl⟩
    by_cases hlt : k < n
    · obtain ⟨b, off, r, rfl, hbl, hrr, hc1, hc2⟩ := (hr.below hB (Nat.le_refl _)).pair hlt
      have htk : rs.take (k + 1) = rs.take k ++ [r] := by rw [List.take_add_one, hrr]; rfl
      have Htk := Lib.hid htk
      have Hrr := Lib.hid hrr
      clear htk hrr hr
      obtain ⟨r1, r2⟩ := r
      simp only at hc1 hc2
      by_cases hv : 0 ≤ r1 ∧ r1 ≤ r2 ∧ r2 < 64
      · obtain ⟨v0, v1, v2⟩ := hv
        gi_wp2_with (first
          | (gi_at_call 22; refine (callsIn_wide.2 (Check_ok _ _ _ v0 v1 v2)).mono ?_; rintro e w1 ⟨rfl, rfl⟩)
          | (gi_at_call 31; refine (pages_in Fence.wide 3 trivial rfl _ _ _).mono ?_; rintro e w' ⟨rfl, rfl⟩))
        have hw1 : w.heap.size < wr.heap.size := hM.lt
        have hMl : Bk (((wr.alloc (.cells #[.int .i64 r1, .int .i64 r2] 23)).alloc (.cells #[.int .i64 r1, .int .i64 r2] 23)).alloc (.cells #[.int .i64 r1, .int .i64 r2] 23)) w.heap.size (marksOf (markF (rs.take k) [])) 62 := by
          rw [markF_nil]; exact ((hM.alloc _).alloc _).alloc _
        have hBr := Bk.new ((wr.alloc (.cells #[.int .i64 r1, .int .i64 r2] 23)).alloc (.cells #[.int .i64 r1, .int .i64 r2] 23)) #[.int .i64 r1, .int .i64 r2] 23
        simp only [World.size_alloc] at hBr
        refine wpIn_rangeFunc_ownG rfl (by omega) (gf := 34) (lb := #[.pointer (some ⟨wr.heap.size + 1 + 1, 0, none⟩)]) rfl trivial (enters_of Tryd.func34 (by kernel_rfl) rfl)
          (pages_stops Fence.wide 3 trivial rfl (by omega) (wr.heap.size + 1 + 1) r1 r2 v0 v1 v2 _ (by simp) (hBr.cell 0) (hBr.cell 1)) keepB_t (keepB_b (by simp)) (Below.refl _ _) (fun _ => rfl)
          (CoverJ w (wr.heap.size + 3) ds (rs.take k)) (fun _ _ _ => False)
          ?hI (fun _ _ _ _ _ hs _ _ => hs) ?h0
          (fun x => { tmps := #[.slice (some ⟨b, off, none⟩) n c, undef, .slice none 0 0, .int .i64 0, .pointer (some ⟨w.heap.size, 0, none⟩), undef, .pointer (some ⟨wr.heap.size, 0, none⟩), .int .i64 0, .int .i64 x.1, undef, undef, undef, .slice (some ⟨b, off, none⟩) n c, .int .i64 n, .bool false, .slice (some ⟨b, off, none⟩) n c, .int .i64 n, .int .i64 k, .bool true, .pointer (some ⟨b, off + k * 2, none⟩), .agg #[.int .i64 r1, .int .i64 r2], .agg #[.int .i64 r1, .int .i64 r2], .int .i64 0, .int .i64 0, .bool false, u25, .agg #[.int .i64 r1, .int .i64 r2], .func (.func 34) #[] #[.pointer (some ⟨wr.heap.size + 1 + 1, 0, none⟩)], .int .i64 x.1, u29, u30, u31, u32, undef, undef, undef, undef, undef, undef, undef, undef, undef, undef, undef, undef, undef, undef, undef], defers := [] }) ?assign ?body ?done ?stop
        case hI =>
          have := coverJ_own w (wr.heap.size + 3) ds (rs.take k) (by omega)
          simpa using this
        case h0 =>
          refine ⟨hMl, fun D hD => ?_, by (repeat' (first | exact Below.refl _ _ | assumption | refine balloc ?_ _ | refine below_drawn ?_ _ | refine below_drew ?_ | refine bnext ?_ hb24 | refine bnext ?_ hb23 | refine bnext ?_ hb22 | refine bnext ?_ hb21 | refine bnext ?_ hb20 | refine bnext ?_ hb19 | refine bnext ?_ hb18 | refine bnext ?_ hb17 | refine bnext ?_ hb16 | refine bnext ?_ hb15 | refine bnext ?_ hb14 | refine bnext ?_ hb13 | refine bnext ?_ hb12 | refine bnext ?_ hb11 | refine bnext ?_ hb10 | refine bnext ?_ hb9 | refine bnext ?_ hb8 | refine bnext ?_ hb7 | refine bnext ?_ hb6 | refine bnext ?_ hb5 | refine bnext ?_ hb4 | refine bnext ?_ hb3 | refine bnext ?_ hb2 | refine bnext ?_ hb1))⟩
          have hDl := (Array.getElem?_eq_some_iff.1 (hds D hD).1).1
          exact ⟨by rw [Below.heap_alloc _ _ D (by simp; omega), Below.heap_alloc _ _ D (by simp; omega), Below.heap_alloc _ _ D hDl]; exact (hds D hD).1, by omega⟩
        case assign =>
          intro l x W K hK
          gi_wp2
          exact hK
        case body =>
          rintro l pre x W ⟨hMW, hdW, hBW⟩ _
          have hx0 := x.2.1
          have hx1 := x.2.2
          have hset := (hMW.put (x.1 / 8).toNat (.bool true))
          rw [marksOf_set _ _ (by omega), markF_snoc] at hset
          have cM := (hMW.cell (x.1 / 8).toNat).trans (marksOf_at _ _ (by omega))
          have fM := hMW.frozen (x.1 / 8).toNat
          clear hMl hM hc1 hc2 hBr
          gi_wp2_with (gi_at_call 30; refine (CallsIn.inRound l (callsIn_wide.2 (leafOf_any _ _ (by omega) (by omega)))).mono ?_; rintro e w' ⟨rfl, rfl⟩)
          exact ⟨(KeepsOthers.setCell _ _ _).from _, Below.heap_setCell W ⟨w.heap.size, (x.1 / 8).toNat, none⟩ _ _ (by show wr.heap.size + 1 + 1 ≠ w.heap.size; omega), hset,
            fun D hD => ⟨(Below.heap_setCell W ⟨w.heap.size, (x.1 / 8).toNat, none⟩ _ D (by have := (hds D hD).2; show D ≠ w.heap.size; omega)).trans (hdW D hD).1, (hdW D hD).2⟩, hBW.setCell (p := ⟨w.heap.size, (x.1 / 8).toNat, none⟩) (Nat.le_refl _) _⟩
        case done =>
          rintro D ys W hD rfl ⟨hMW, hdW, hBW⟩ hK
          simp at hD
          have hE : (rs.take (k + 1)).all okR = true := by rw [Htk.out, List.all_append, hok]; simp [okR, v0, v1, v2]
          have hM2 : Bk W w.heap.size (marksOf (marked (rs.take (k + 1)))) 62 := by
            rw [Htk.out]
            have : markF (rs.take k) (pgs r1 (r2 - r1 + 1).toNat) = marked (rs.take k ++ [(r1, r2)]) := funext fun j => markF_all _ _ _ v0 v1 v2 j
            rw [← this]; exact hMW
          have hnd2 : (D :: ds).Nodup := List.nodup_cons.2 ⟨fun h => by have := (hdW D h).2; omega, hnd⟩
          have hds2 : ∀ E ∈ D :: ds, W.heap[E]? = some (.deferred (some [])) ∧ w.heap.size < E := by
            intro E hE
            rcases List.mem_cons.1 hE with rfl | hE
            · exact ⟨hK, by omega⟩
            · exact ⟨(hdW E hE).1, (hds E hE).2⟩
          clear hok hM hnd hc1 hc2 hMl hBr
          gi_wp2
          exact ⟨⟨k + 1, D :: ds, _, _, _, _, _, _, _, _, _, _, _, _, _, _, _, _, _, _, ⟨by omega, hE, hM2, hnd2, hds2, hBW⟩, rfl⟩, by simp [intOf]; omega⟩
        case stop =>
          rintro D c pre W _ _ h _
          exact h.elim
      · have hv' : r1 < 0 ∨ r2 < r1 ∨ 64 ≤ r2 := by omega
        have Hv := Lib.hid hv'
        clear hv hv'
        gi_wp2_with (gi_at_call 22; refine (callsIn_wide.2 (Check_bad _ _ _ Hv.out)).mono ?_; rintro e w1 ⟨rfl, rfl⟩)
        have hne : rs.all okR = false := by
          rw [Bool.eq_false_iff]
          intro h
          have := List.all_eq_true.1 h (r1, r2) (List.mem_of_getElem? Hrr.out)
          simp [okR] at this
          have := Hv.out
          omega
        have hl64 : ¬ 64 < rs.length := by rw [Hlen.out]; omega
        refine leaves_marks (u := .returning) (by simp) ds _ hnd (fun D hD => ?_) (fun W' hs h1 h2 h3 hb => ?_)
        · have hDl := (Array.getElem?_eq_some_iff.1 (hds D hD).1).1
          rw [Below.heap_alloc _ _ D (by simp; omega), Below.heap_alloc _ _ D hDl]
          exact (hds D hD).1
        · refine ⟨_, results_tmp2 rfl _ _ _, .slice none 0 0, ?_, ?_, ?_⟩
          · simp [coverE, hl64, hne]
          · have : coverL rs = [] := by simp [coverL, hne]
            rw [this]; exact World.ownsRow_nil _ _ _ _
          · have hB2 : Below w.heap.size w ((wr.alloc (.cells #[.int .i64 r1, .int .i64 r2] 23)).alloc (.cells #[.int .i64 r1, .int .i64 r2] 23)) := by (repeat' (first | exact Below.refl _ _ | assumption | refine balloc ?_ _ | refine below_drawn ?_ _ | refine below_drew ?_ | refine bnext ?_ hb24 | refine bnext ?_ hb23 | refine bnext ?_ hb22 | refine bnext ?_ hb21 | refine bnext ?_ hb20 | refine bnext ?_ hb19 | refine bnext ?_ hb18 | refine bnext ?_ hb17 | refine bnext ?_ hb16 | refine bnext ?_ hb15 | refine bnext ?_ hb14 | refine bnext ?_ hb13 | refine bnext ?_ hb12 | refine bnext ?_ hb11 | refine bnext ?_ hb10 | refine bnext ?_ hb9 | refine bnext ?_ hb8 | refine bnext ?_ hb7 | refine bnext ?_ hb6 | refine bnext ?_ hb5 | refine bnext ?_ hb4 | refine bnext ?_ hb3 | refine bnext ?_ hb2 | refine bnext ?_ hb1))
            exact ⟨h1.trans hB2.os, h2.trans hB2.tape, h3.trans hB2.output, by rw [hs]; exact hB2.size, fun j hj => (hb j (fun hin => by have := (hds j hin).2; omega)).trans (hB2.block j hj)⟩
    · obtain rfl : k = n := by omega
      have htake : rs.take k = rs := List.take_of_length_le (by rw [Hlen.out]; omega)
      rw [htake] at hok hM
      clear htake
      obtain ⟨cM, fM, lM⟩ := hM.facts
      unfold marksOf at cM
      generalize hf : marked rs = f at *
      have Hf := Lib.hid hf
      clear hf
      have he8 := eq8 (f 0) (f 1) (f 2) (f 3) (f 4) (f 5) (f 6) (f 7)
      have hl64 : ¬ 64 < rs.length := by rw [Hlen.out]; omega
      by_cases hany : (f 0 || f 1 || f 2 || f 3 || f 4 || f 5 || f 6 || f 7) = true
      · rw [hany] at he8
        gi_wp2_with fail
        obtain ⟨i0, hi, hz0, hz1, hz2⟩ := info_parts infoInt
        clear cM fM he8
        obtain ⟨wo, rfl⟩ : ∃ wo : World, wo = wr := ⟨_, rfl⟩
        gi_loopw [9, 37] (fun v i wx => ∃ j : Nat, j ≤ 8 ∧ i = .int .i64 j ∧ wx.ownsRow wo.heap.size 3 1 v (coverK f j).length ((coverK f j).map (Value.int .i64)) ∧ Below wo.heap.size wo wx)
          (fun _ i _ => 8 - (intOf i).toNat)
        case atStart => exact ⟨0, by omega, rfl, World.ownsRow_nil _ _ _ _, Below.refl _ _⟩
        case round =>
          obtain ⟨j, hj, rfl, hown, hBx⟩ := hrel
          have hcl := coverK_len f j
          by_cases hlt8 : j < 8
          · have hidx := idx8 f j hlt8
            unfold marksOf at hidx
            by_cases hfj : f j = true
            · have hyes := coverK_yes f j hfj
              have Hyes := Lib.hid hyes
              clear hyes
              gi_wp2_with (gi_at_builtin; refine wpListIn_append_own _ rfl _ _ 40 rfl wo.heap.size 3 i0 (.int .i64 0) 1 8 Tryd.underlying40 hi hz0 hz1 hz2 rfl (by decide) _ _ _ rfl (hown.alloc _) ⟨wr.heap.size, 0, none⟩ 1 1 [.int .i64 j] rfl rfl (cell_one_new _ _ _) (by simp [Value.oneCell']) (by simp only [maxLen]; omega) (by omega) (by have := hBx.size; simp; omega) ?_; intro v' w2 hown' hgrow _)
              have hown2 : w2.ownsRow wo.heap.size 3 1 v' (coverK f (j + 1)).length ((coverK f (j + 1)).map (Value.int .i64)) := by
                rw [Hyes.out]; simpa using hown'
              have hBx2 : Below wo.heap.size wo w2 := (hBx.alloc hBx.size _).grown hgrow (by have := hBx.size; simp; omega) (fun q e => (hown.lt q e).1)
              clear hown' hgrow hown hBx
              gi_wp2
              go_roundw
              case rel => exact ⟨j + 1, by omega, by go_num, hown2, hBx2⟩
              case measure => simp [intOf]; omega
            · replace hfj : f j = false := by simpa using hfj
              have hown2 : wr.ownsRow wo.heap.size 3 1 u9 (coverK f (j + 1)).length ((coverK f (j + 1)).map (Value.int .i64)) := by
                rw [coverK_no f j hfj]; exact hown
              gi_wp2
              go_roundw
              case rel => exact ⟨j + 1, by omega, by go_num, hown2, hBx⟩
              case measure => simp [intOf]; omega
          · obtain rfl : j = 8 := by omega
            gi_wp2
            refine leaves_marks (u := .returning) (by simp) ds _ hnd (fun D hD => (hBx.block D (Array.getElem?_eq_some_iff.1 (hds D hD).1).1).trans (hds D hD).1) (fun W' hs h1 h2 h3 hb => ?_)
            refine ⟨_, results_tmp2 rfl _ _ _, u9, ?_, ?_, ?_⟩
            · simp [coverE, hl64, hok]
            · have hcv : coverL rs = coverK f 8 := by simp [coverL, hl64, hok, cover, coverK, Hf.out]
              rw [hcv]
              refine ⟨hown.1, ?_⟩
              rcases hown.2 with h | ⟨g, cap, cur, hv, hbg, hgb, hrest⟩
              · exact .inl h
              · refine .inr ⟨g, cap, cur, hv, Nat.le_trans hB.size hbg, (hb g (fun hin => ?_)).trans hgb, hrest⟩
                have := (hBx.block g (Array.getElem?_eq_some_iff.1 (hds g hin).1).1).trans (hds g hin).1
                rw [hgb] at this
                cases this
            · have hB2 : Below w.heap.size w wr := bnext hB hBx
              exact ⟨h1.trans hB2.os, h2.trans hB2.tape, h3.trans hB2.output, by rw [hs]; exact hB2.size, fun q hq => (hb q (fun hin => by have := (hds q hin).2; omega)).trans (hB2.block q hq)⟩
      · replace hany : (f 0 || f 1 || f 2 || f 3 || f 4 || f 5 || f 6 || f 7) = false := by simpa using hany
        rw [hany] at he8
        gi_wp2_with fail
        refine leaves_marks (u := .returning) (by simp) ds _ hnd (fun D hD => (hds D hD).1) (fun W' hs h1 h2 h3 hb => ?_)
        refine ⟨_, results_tmp2 rfl _ _ _, .slice none 0 0, ?_, ?_, ?_⟩
        · simp [coverE, hl64, hok]
        · have : coverL rs = [] := by
            simp only [Bool.or_eq_false_iff] at hany
            simp [coverL, hl64, hok, cover, Hf.out, List.range, List.range.loop, hany]
          rw [this]; exact World.ownsRow_nil _ _ _ _
        · exact ⟨h1.trans hB.os, h2.trans hB.tape, h3.trans hB.output, by rw [hs]; exact hB.size, fun j hj => (hb j (fun hin => by have := (hds j hin).2; omega)).trans (hB.block j hj)⟩

/-- Cover, whatever the list. -/
theorem Cover_any (A : Option Addr) (n c : Nat) (rs : List (Int × Int)) (w : World) (hn : n ≤ 1000000) (hr : Rd w 2 A n (flat2 .i64 rs)) :
    Calls Tryd.prog 17 #[.slice A n c] w fun e w' => ∃ A' c', e = .returned (.tuple #[.slice A' (coverL rs).length c', .int .i64 (coverE rs)]) ∧
      Rd w' 1 A' (coverL rs).length ((coverL rs).map (Value.int .i64)) ∧ Below w.heap.size w w' := by
  have hlen : rs.length = n := by have := hr.1; rw [flat2_len] at this; omega
  by_cases h : 64 < n
  · refine (Cover_full A n c w h hn).mono ?_
    rintro e w' ⟨rfl, rfl⟩
    have h1 : coverL rs = [] := by simp [coverL, hlen, h]
    have h2 : coverE rs = 5 := by simp [coverE, hlen, h]
    rw [h1, h2]
    exact ⟨none, 0, rfl, Rd.zero _, Below.refl _ _⟩
  · refine (Cover_some A n c rs w (by omega) hr).mono ?_
    rintro e w' ⟨v, rfl, ho, hb⟩
    obtain ⟨A', c', rfl, hrd⟩ := own_slice ho
    exact ⟨A', c', rfl, hrd, hb⟩

end Go.Proofs.YtmaebbbaooodaaaDoor
