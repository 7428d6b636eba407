/- cow.read: the entries of all tables, or the first error. -/
import Derived.Test.YtomndlnfidkdcaaDoorCow8
import Derived.Test.YtomndlnfidkdcaaDoorSl1
namespace Go.Proofs.YtomndlnfidkdcaaDoor
open Go Go.Proofs Go.RowKit Go.Maps
set_option linter.unusedSimpArgs false
set_option linter.unusedVariables false
set_option maxRecDepth 100000

def dec (t : Sh) : List (List En5) := t.map fun l => l.map entW
theorem dec_len (t : Sh) : (dec t).length = t.length := by simp [dec]
theorem infoSE : (Tryd.prog.info? 69).map (fun i => (i.zero, i.size, i.bytes)) = some (some (.slice none 0 0), 1, 24) := by kernel_rfl
theorem run_make_se (n : Nat) (hn : n ≤ 1000) (w : World) :
    (Instr.makeSlice 66 (.int .i64 0) (.int .i64 n)).run Tryd.prog w = .ok (.slice (some ⟨w.heap.size, 0, none⟩) 0 n) (w.alloc (.cells (madeCells #[.slice none 0 0] n) 69)) := by
  obtain ⟨i, hi, hz0, hz1, hz2⟩ := info_parts infoSE
  have hr := run_make (P := Tryd.prog) w 66 69 i _ Tryd.underlying66 hi hz0 .i64 .i64 0 n (by omega) (by omega) (by rw [hz2]; omega) (by omega)
  simp only [Int.toNat_natCast, hz1, Nat.mul_one, Int.toNat_zero] at hr
  exact hr
/-- A table as an array: its words, then 0. -/
def padW (l : List Nat) : List Nat := l ++ List.replicate (64 - l.length) 0
theorem padW_len (l : List Nat) (h : l.length ≤ 64) : (padW l).length = 64 := by simp [padW]; omega
theorem padW_small (l : List Nat) (h : wsmall l) : wsmall (padW l) := by
  intro x hx
  rcases List.mem_append.1 hx with hx | hx
  · exact h x hx
  · rw [List.eq_of_mem_replicate hx]; omega
theorem padW_at (l : List Nat) (j : Nat) : (padW l).getD j 0 = l.getD j 0 := by
  unfold padW
  rw [List.getD_eq_getElem?_getD, List.getD_eq_getElem?_getD]
  rcases Nat.lt_or_ge j l.length with h | h
  · rw [List.getElem?_append_left h]
  · rw [List.getElem?_append_right h, List.getElem?_replicate, List.getElem?_eq_none h]
    split <;> rfl
theorem decE_pad (l : List Nat) (h : l.length ≤ 64) : decE (padW l) = rowE l := by
  have hr : rowE l = fst0 (fun k => unpE (l.getD k 0)) l.length := by unfold rowE; rw [if_neg (by omega)]
  rw [hr]
  unfold decE
  rw [fst0_congr _ (fun k => unpE (l.getD k 0)) 64 (fun k _ => by rw [padW_at])]
  by_cases h0 : fst0 (fun k => unpE (l.getD k 0)) l.length = 0
  · rw [h0, fst0_zero]
    intro k hk
    rcases Nat.lt_or_ge k l.length with h1 | h1
    · exact (fst0_zero _ _).1 h0 k h1
    · simp only [List.getD_eq_getElem?_getD, List.getElem?_eq_none h1]
      exact unpE_nil
  · have hex : ∃ k, k < l.length ∧ unpE (l.getD k 0) ≠ 0 := Classical.byContradiction fun hn => h0 ((fst0_zero _ _).2 fun k hk => Classical.byContradiction fun hc => hn ⟨k, hk, hc⟩)
    clear h0
    have hmin : ∃ k, k < l.length ∧ unpE (l.getD k 0) ≠ 0 ∧ ∀ j, j < k → unpE (l.getD j 0) = 0 := by
      obtain ⟨k, hk, hu⟩ := hex
      induction k using Nat.strongRecOn with
      | _ k ih =>
        by_cases hall : ∀ j, j < k → unpE (l.getD j 0) = 0
        · exact ⟨k, hk, hu, hall⟩
        · obtain ⟨j, hj⟩ := Classical.not_forall.1 hall
          obtain ⟨hj1, hj2⟩ := Classical.not_imp.1 hj
          exact ih j hj1 (by omega) hj2
    obtain ⟨k, hk, hu, hall⟩ := hmin
    have hz : fst0 (fun k => unpE (l.getD k 0)) k = 0 := (fst0_zero _ _).2 hall
    rw [fst0_hit _ k 64 hz hu (by omega), fst0_hit _ k l.length hz hu hk]
theorem splice_pad (l : List Nat) (h : l.length ≤ 64) : splice (uw z64) 0 (uw l) = uw (padW l) := by
  have hz : uw z64 = List.replicate 64 (.int .u64 ((0 : Nat) : Int)) := by unfold uw z64; rw [List.map_replicate]
  unfold splice padW
  rw [List.take_zero, List.nil_append, uw_len, Nat.zero_add, hz, List.drop_replicate]
  unfold uw
  rw [List.map_append, List.map_replicate]
/-- The map of the tables that are decoded already: each leads to a row of its own, which is not that of vu. -/
def Known (w : World) (B base : Nat) (vu : Value) : Prop :=
  ∃ S, MapG Tryd.prog 99 w B S ∧ ∀ y v, S y v → ∃ (ws : List Nat) (g : Nat), ws.length = 64 ∧ wsmall ws ∧ decE ws = 0 ∧ y = kt ws ∧ v = .slice (some ⟨g, 0, none⟩) 64 64 ∧ base ≤ g ∧ EnRow w g 64 (fun j => entW (ws.getD j 0)) ∧ vu.ownBlock ≠ some g
section
variable {w w' : World} {B base : Nat} {vu : Value}
theorem Known.start (w : World) (o : Obj) (base : Nat) (vu : Value) : Known ((w.alloc (.map #[] 0)).alloc o) w.heap.size base vu := ⟨_, (MapG.new w).alloc o, fun _ _ h => h.elim⟩
theorem Known.kept (h : Known w B base vu) {row : Option Nat} (hg : w.grownBy w' row) (h1 : row ≠ some B) (h2 : row = vu.ownBlock ∨ ∀ g, row = some g → w.heap.size ≤ g) : Known w' B base vu := by
  obtain ⟨S, hS, hall⟩ := h
  have hB := hS.lt
  refine ⟨S, hS.block (hg.block B hB (fun e => h1 e.symm)), fun y v hy => ?_⟩
  obtain ⟨ws, g, a1, a2, a3, a4, a5, a6, a7, a8⟩ := hall y v hy
  refine ⟨ws, g, a1, a2, a3, a4, a5, a6, a7.block (hg.block g a7.lt (fun e => ?_)), a8⟩
  rcases h2 with h2 | h2
  · exact a8 (by rw [← h2, ← e])
  · have := h2 g e.symm
    have := a7.lt
    omega
theorem Known.to (h : Known w B base vu) (hb : Below w.heap.size w w') : Known w' B base vu := h.kept (grown_of hb) (by simp) (.inr fun g e => by cases e)
theorem Known.other (h : Known w B base vu) {vu' : Value} (hv : vu'.ownBlock = vu.ownBlock ∨ ∃ g, vu'.ownBlock = some g ∧ w.heap.size ≤ g) : Known w B base vu' := by
  obtain ⟨S, hS, hall⟩ := h
  refine ⟨S, hS, fun y v hy => ?_⟩
  obtain ⟨ws, g, a1, a2, a3, a4, a5, a6, a7, a8⟩ := hall y v hy
  refine ⟨ws, g, a1, a2, a3, a4, a5, a6, a7, ?_⟩
  rcases hv with hv | ⟨g', hv, hl⟩
  · rw [hv]; exact a8
  · rw [hv]
    intro e
    injection e with e
    have := a7.lt
    omega
end
theorem Known.push {w w' : World} {B base : Nat} {vu vu' : Value} (h : Known w B base vu) (hg : w.grownBy w' vu.ownBlock) (h1 : vu.ownBlock ≠ some B) (hv : vu'.ownBlock = vu.ownBlock ∨ vu'.ownBlock = some w.heap.size) : Known w' B base vu' := by
  obtain ⟨S, hS, hall⟩ := h
  have hB := hS.lt
  refine ⟨S, hS.block (hg.block B hB (fun e => h1 e.symm)), fun y v hy => ?_⟩
  obtain ⟨ws, g, a1, a2, a3, a4, a5, a6, a7, a8⟩ := hall y v hy
  refine ⟨ws, g, a1, a2, a3, a4, a5, a6, a7.block (hg.block g a7.lt (fun e => a8 e.symm)), ?_⟩
  rcases hv with hv | hv
  · rw [hv]; exact a8
  · rw [hv]
    intro e
    injection e with e
    have := a7.lt
    omega
theorem Known.put {w w5 : World} {B base g : Nat} {vu : Value} {S : Value → Value → Prop} {ws : List Nat}
    (hall : ∀ y v, S y v → ∃ (ws : List Nat) (g : Nat), ws.length = 64 ∧ wsmall ws ∧ decE ws = 0 ∧ y = kt ws ∧ v = .slice (some ⟨g, 0, none⟩) 64 64 ∧ base ≤ g ∧ EnRow w g 64 (fun j => entW (ws.getD j 0)) ∧ vu.ownBlock ≠ some g)
    (hS5 : MapG Tryd.prog 99 w5 B (fun y u => (y = kt ws ∧ u = .slice (some ⟨g, 0, none⟩) 64 64) ∨ (y ≠ kt ws ∧ S y u))) (hg : w.grownBy w5 (some B)) (hB : B < base)
    (h1 : ws.length = 64) (h2 : wsmall ws) (h3 : decE ws = 0) (h4 : base ≤ g) (hE : EnRow w g 64 (fun j => entW (ws.getD j 0))) (hv : vu.ownBlock ≠ some g) : Known w5 B base vu := by
  refine ⟨_, hS5, fun y v hy => ?_⟩
  rcases hy with ⟨rfl, rfl⟩ | ⟨_, hy⟩
  · exact ⟨ws, g, h1, h2, h3, rfl, rfl, h4, hE.block (hg.block g hE.lt (fun e => by injection e with e; omega)), hv⟩
  · obtain ⟨ws', g', a1, a2, a3, a4, a5, a6, a7, a8⟩ := hall y v hy
    exact ⟨ws', g', a1, a2, a3, a4, a5, a6, a7.block (hg.block g' a7.lt (fun e => by injection e with e; omega)), a8⟩
theorem own_one {w : World} {base : Nat} {e : TypeId} {sz n : Nat} {v : Value} {xs : List Value} (h : w.ownsRow base e sz v n xs) : v.oneCell' = true := by
  rcases h.2 with ⟨rfl, _⟩ | ⟨g, cap, cur, rfl, _⟩ <;> rfl
theorem zeroSE (w : World) : (zeroValue 69).run Tryd.prog w = .ok (.slice none 0 0) w := by kernel_rfl
theorem szW : (Tryd.prog.info? 52).map (·.size) = some 1 := by kernel_rfl
theorem rd_add {w : World} {B : Option Addr} {n : Nat} {xs : List Value} (h : Rd w 1 B n xs) (hp : 0 < xs.length) : ∃ ad, B = some ad ∧ ∀ j v, xs[j]? = some v → w.cell? (ad.add j) = some v := by
  obtain ⟨b, off, e, _, hc⟩ := h.2 (by have := h.1; omega)
  refine ⟨_, e, fun j v hv => ?_⟩
  rw [Addr.add_mid]
  exact hc j v hv
theorem UO.less {w : World} {base base' : Nat} {vu : Value} {U : List (List En5)} (h : UO w base vu U) (hb : base' ≤ base) : UO w base' vu U := by
  obtain ⟨vs, h⟩ := h
  exact ⟨vs, own_less h.outer hb, fun i l hl => by
    obtain ⟨r, h1, h2⟩ := h.rows i l hl
    exact ⟨r, h1, own_less h2 hb⟩, h.off, h.apart⟩
theorem cnt_dec (t : Sh) (a : Int × Int) : cntU (dec t) a = cntS t a := by
  unfold cntU cntS dec cntL
  rw [List.map_map]
  congr 1
  apply List.map_congr_left
  intro l _
  simp only [Function.comp, List.countP_map]
  rfl
theorem tly_dec (t : Sh) (a : Int × Int) (h : a.1 ≠ 0) : tlyU (dec t) a = (cntS t a : Int) := by unfold tlyU; rw [if_neg h, cnt_dec]
theorem ent_i64 (x : Nat) (h : unpE x = 0) : i64ok (entW x).1 ∧ i64ok (entW x).2.1 := by
  unfold i64ok
  rcases ent_cases x h with ⟨e, _⟩ | ⟨n, b, c, e, h0, h1⟩ | ⟨n, e, h0, h1⟩ <;> rw [e] <;> simp only <;> omega
theorem dec_uok {t : Sh} (h : ∀ l ∈ t, ∀ x ∈ l, unpE x = 0) : uok (dec t) := by
  intro l hl e he
  obtain ⟨m, hm, rfl⟩ := List.mem_map.1 hl
  obtain ⟨x, hx, rfl⟩ := List.mem_map.1 he
  exact ent_i64 x (h m hm x hx)
theorem dec_rows {t : Sh} {N : Nat} (h : ∀ l ∈ t, l.length ≤ N) : ∀ l ∈ dec t, l.length ≤ N := by
  intro l hl
  obtain ⟨m, hm, rfl⟩ := List.mem_map.1 hl
  rw [List.length_map]
  exact h m hm
/-- What read returns. -/
def ReadR (n : Nat) (t : Sh) (w w' : World) (e : Ending) : Prop :=
  Below w.heap.size w w' ∧ (((shE t).1 = 0 ∧ ∃ A' c', e = .returned (.tuple #[.slice A' n c', .int .i64 0, .int .i64 0]) ∧ UO w' w.heap.size (.slice A' n c') (dec t)) ∨
    ((shE t).1 ≠ 0 ∧ e = .returned (.tuple #[.slice none 0 0, .int .i64 (shE t).1, .int .i64 (shE t).2])))

/-- At the head of the loop over the tables. -/
def ReadI (n : Nat) (t : Sh) (w : World) (u i : Value) (wr : World) : Prop :=
  ∃ k : Nat, k ≤ n ∧ i = .int .i64 k ∧ (fsti (fun i => rowE (rowAt t i)) k).1 = 0 ∧ UO wr (w.heap.size + 1) u (dec (t.take k)) ∧ Known wr w.heap.size (w.heap.size + 1) u ∧ Below w.heap.size w wr
theorem ReadI.start (n : Nat) (t : Sh) (w : World) (hn : n ≤ 11) : ReadI n t w (.slice (some ⟨w.heap.size + 1, 0, none⟩) 0 n) (.int .i64 ((0 : Nat) : Int)) ((w.alloc (.map #[] 0)).alloc (.cells (madeCells #[.slice none 0 0] n) 69)) := by
  refine ⟨0, by omega, rfl, rfl, ⟨[], ?_, fun i l h => by simp [dec] at h, fun i r g h => by simp at h, fun i j ri rj g _ h => by simp at h⟩, Known.start w _ _ _, balloc (balloc (Below.refl _ _) _) _⟩
  have h := World.ownsRow_made (base := w.heap.size + 1) (e := 69) (size := 1) (w.alloc (.map #[] 0)) (madeCells #[.slice none 0 0] n) n (by simp) (by unfold maxLen; omega) (by rw [size_madeCells]; omega)
  simpa [dec] using h

set_option maxHeartbeats 8000000 in
theorem read_any (A : Option Addr) (n c : Nat) (t : Sh) (w : World) (hn : n ≤ 11) (hR : RR uw 1 w A n t) (hs : shsmall t) (hl : ∀ l ∈ t, l.length ≤ 70) (hL : LayOK w) :
    Calls Tryd.prog 41 #[.slice A n c] w fun e w' => ReadR n t w w' e := by
  have Hlen := Lib.hid hR.len
  have HS := Lib.hid hs
  have HL := Lib.hid hl
  clear hs hl
  by_cases h8 : 8 < n
  · have hE : shE t = (5, 0) := by unfold shE; rw [if_pos (by rw [Hlen.out]; exact h8)]
    have HE := Lib.hid hE
    clear hE
    go_enter Tryd.func41, Tryd.ntmps41
    go_wp2
    go_ret3
    refine ⟨Below.refl _ _, .inr ⟨by rw [HE.out]; decide, by rw [HE.out]; rfl⟩⟩
  have hmm := @run_makeMap Tryd.prog
  have hms := run_make_se n (by omega)
  have hd8 : decide ((8 : Int) < (n : Int)) = false := by simp; omega
  go_enter Tryd.func41, Tryd.ntmps41
  go_wp2
  clear hmm hms
  obtain ⟨i0, hi, hz0, hz1, hz2⟩ := info_parts infoSE
  go_loopw [6, 27] (ReadI n t w) (fun _ i _ => n - (intOf i).toNat)
  case atStart => exact ReadI.start n t w hn
  case round =>
    obtain ⟨k, hkn, rfl, hf, hU, hK, hB⟩ := hrel
    by_cases hlt : k < n
    · obtain ⟨l, hrow⟩ : ∃ l, t[k]? = some l := ⟨_, List.getElem?_eq_getElem (by rw [Hlen.out]; exact hlt)⟩
      have hmem : l ∈ t := List.mem_of_getElem? hrow
      obtain ⟨bA, off, B, cB, rfl, hbl, hcell0, hRl⟩ := hR.row hrow
      have hcell := (hB.cell (p := ⟨bA, off + k, none⟩) hbl).trans hcell0
      have hrl : rowAt t k = l := by unfold rowAt; rw [List.getD_eq_getElem?_getD, hrow]; rfl
      have hl70 := HL.out _ hmem
      have hls := HS.out _ hmem
      have HRL := Lib.hid hrl
      have HF := Lib.hid hf
      have HR1 := Lib.hid hRl
      have Htk := Lib.hid (take_one t k _ hrow)
      clear hrow hmem hcell0 hRl hrl hf
      by_cases h64 : 64 < l.length
      · have hre : rowE l = 4 := by unfold rowE; rw [if_pos h64]
        have hsh : shE t = (4, (k : Int)) := by
          have hh := fsti_hit (fun i => rowE (rowAt t i)) k t.length HF.out (by rw [HRL.out, hre]; decide) (by rw [Hlen.out]; exact hlt)
          rw [HRL.out, hre] at hh
          unfold shE
          rw [if_neg (by rw [Hlen.out]; exact h8), hh]
          rfl
        have HSH := Lib.hid hsh
        clear hre hsh
        go_wp2
        go_ret3
        exact ⟨hB, .inr ⟨by rw [HSH.out]; simp, by rw [HSH.out]; rfl⟩⟩
      · have hd64 : decide ((64 : Int) < (l.length : Int)) = false := by simp; omega
        go_upto_region 11 with fail
        change Code.wp _ _ _ _ (wr.alloc (.cells (uw z64).toArray 99))
        have kZ := Bk.new wr (uw z64).toArray 99
        have hA := balloc (Below.refl wr.heap.size wr) (.cells (uw z64).toArray 99)
        have hgz : wr.heap.size < (wr.alloc (.cells (uw z64).toArray 99)).heap.size := by simp
        have hRl := (HR1.out.below hB (Nat.le_refl _)).below hA (Nat.le_refl _)
        clear hcell
        generalize wr.alloc (.cells (uw z64).toArray 99) = w2 at *
        obtain ⟨w3, hrun, hG3, hB3, _⟩ := copy_any (P := Tryd.prog) w2 54 54 3 52 1 Tryd.underlying54 szW (by decide) (some ⟨wr.heap.size, 0, none⟩) B 64 64 l.length cB wr.heap.size 0 (uw z64) 99 kZ (uw l) (by rw [uw_len, Nat.mul_one]; exact (Nat.min_eq_left (by omega)).symm) (fun hp => ⟨rfl, rd_add hRl hp⟩) (by rw [uw_len, uw_len, z64_len]; omega) (oneCells_uw l) wr.heap.size wr hA (Nat.le_refl _)
        rw [splice_pad l (by omega)] at hG3
        have kW : Bk w3 wr.heap.size (uw (padW l)).toArray 99 := hG3
        have HKW := Lib.hid kW
        clear hG3 hRl kZ
        go_upto_region 12 with fail
        have hU3 := hU.to hB3
        have hK3 := hK.to hB3
        have hB4 := bnext hB hB3
        have hwl : w.heap.size + 1 ≤ wr.heap.size := by
          obtain ⟨S, hS, _⟩ := hK
          exact hS.lt
        have HR3 := Lib.hid (HR1.out.below hB4 (Nat.le_refl _))
        clear hrun hA hgz hU hK hB hB3
        obtain ⟨lit, hkey⟩ := keyT (padW l) (padW_len l (by omega)) (padW_small l hls)
        have HKEY := Lib.hid hkey
        have hwlen := padW_len l (by omega)
        have HW := Lib.hid hwlen
        clear hkey hwlen
        have hK30 := hK3
        obtain ⟨S, hS, hall⟩ := hK30
        have HX : Hid ((∃ v, S (kt (padW l)) v ∧ (Instr.lookup 97 (.map (some w.heap.size)) (.agg (uw (padW l)).toArray) true).run Tryd.prog w3 = .ok (.tuple #[v, .bool true]) w3) ∨
            ((∀ v, ¬ S (kt (padW l)) v) ∧ (Instr.lookup 97 (.map (some w.heap.size)) (.agg (uw (padW l)).toArray) true).run Tryd.prog w3 = .ok (.tuple #[.slice none 0 0, .bool false]) w3)) := Lib.hid (hS.look true lawT Tryd.underlying97 (zeroSE w3) HKEY.out)
        have HDE := Lib.hid (decE_pad l (by omega))
        have hz4 : w.heap.size < w3.heap.size := hS.lt
        rcases HX.out with ⟨v, hv, hlk⟩ | ⟨hnone, hlk⟩
        · obtain ⟨ws, g, a1, a2, a3, a4, rfl, a6, hE5, a8⟩ := hall _ v hv
          obtain rfl := kt_inj _ _ a4
          have HRE := Lib.hid (show rowE l = 0 by rw [← HDE.out]; exact a3)
          clear a1 a2 a3 a4 a6 a8 hall hS hv HX HKEY
          go_wp2_with ((with_reducible refine wpList_load_words HW.out kW rfl (.tmp 9) rfl rfl ?_))
          clear hlk kW
          have hB6 := hB4
          have hU5 := hU3
          have hK5 := hK3
          have hz7 : w.heap.size + 1 ≤ w3.heap.size := hz4
          clear hB4 hU3 hK3 hz4
          generalize w3 = w5 at *
          -- TAIL1 begin
          have hrd := hE5.rd (l.map entW) (by rw [List.length_map]; omega) (fun j hj => by
            rw [List.length_map] at hj
            rw [padW_at, List.getElem?_map, List.getD_eq_getElem?_getD, List.getElem?_eq_getElem hj]
            rfl)
          rw [List.length_map] at hrd
          refine (CloneE_any ⟨g, 0, none⟩ l.length 64 (l.map entW) _ hrd (by omega)).mono ?_
          rintro e w7 ⟨r, rfl, hor, hb7⟩
          obtain ⟨Ar, cr, rfl, _⟩ := own_slice hor
          obtain ⟨vs, hUv⟩ := hU5
          have hbase : w.heap.size + 1 ≤ w5.heap.size := hz7
          have hA7 := (hUv.to hb7).to (balloc (Below.refl w7.heap.size w7) (.cells #[.slice Ar l.length cr] 69))
          have hlk7 : (dec (t.take k)).length = k := by rw [dec_len, List.length_take, Hlen.out]; omega
          have HLK := Lib.hid hlk7
          have hvs := hUv.len
          have HVS := Lib.hid hvs
          clear hrd hlk7 hvs
          have hwn := hA7.outer
          have HWN := Lib.hid hwn
          clear hwn
          go_wp2_with (at_builtin; refine wpList_append_own_at _ rfl _ _ 66 rfl (w.heap.size + 1) 69 i0 (.slice none 0 0) 1 24 Tryd.underlying66 hi hz0 hz1 hz2 rfl (by decide) _ _ _ rfl HWN.out ⟨w7.heap.size, 0, none⟩ 1 1 [.slice Ar l.length cr] rfl rfl (cell_one_new _ _ _) (by intro u hu; rw [List.mem_singleton.1 hu]; exact own_one hor) (by rw [HLK.out]; unfold maxLen; omega) (by rw [HLK.out]; omega) (by have := hb7.size; simp; omega) ?_; intro v' w8 hown' hgrow hnil hloc)
          have hlen1 : (l.map entW).length = l.length := by simp
          have hpush := hUv.push hb7 hbase (.cells #[.slice Ar l.length cr] 69) (l := l.map entW) (by rw [hlen1]; exact hor) hown' hgrow hloc
          have hur : ∀ g, u6.ownBlock = some g → w.heap.size + 1 ≤ g := fun g hg => (hUv.outer.lt g hg).1
          have hKA := (hK5.to hb7).to (balloc (Below.refl w7.heap.size w7) (.cells #[.slice Ar l.length cr] 69))
          have hK8 := hKA.push (vu' := v') hgrow (fun e => by have := hur _ e; omega) hloc
          have hB8 : Below w.heap.size w w8 := (balloc (bnext hB6 hb7) _).grown hgrow (by have := (balloc (bnext hB6 hb7) (.cells #[.slice Ar l.length cr] 69)).size; exact this) (fun g hg => by have := hur g hg; omega)
          have hf1 := fsti_step (fun i => rowE (rowAt t i)) k HF.out (by rw [HRL.out]; exact HRE.out)
          have hdk : dec (t.take (k + 1)) = dec (t.take k) ++ [l.map entW] := by rw [Htk.out]; simp [dec]
          have hR8 : ReadI n t w v' (.int .i64 ((k + 1 : Nat) : Int)) w8 := ⟨k + 1, by omega, rfl, hf1, ⟨_, by rw [hdk]; exact hpush⟩, hK8, hB8⟩
          have HR8 := Lib.hid hR8
          clear hR8 hf1 hdk hB8 hK8 hKA hur hpush hown' hgrow hloc hnil
          go_wp2
          go_roundw
          case rel => exact HR8.out
          case measure => simp [intOf]; omega
          -- TAIL1 end
        · clear hall hS
          go_wp2_with ((with_reducible refine wpList_load_words HW.out kW rfl (.tmp 9) rfl rfl ?_))
          refine (decode_any (padW l) _ HW.out (padW_small l hls) (hL.below hB4)).mono ?_
          rw [HDE.out]
          rintro e w4 ⟨hb4, ⟨hre, rfl, hE4⟩ | ⟨hre, rfl⟩⟩
          · have HRE := Lib.hid hre
            have hK4 := hK3.to hb4
            have hU4 := hU3.to hb4
            have hUo := hU3
            have kW4 := kW.to hb4
            have hB5 := bnext hB4 hb4
            have hz5 : w3.heap.size ≤ w4.heap.size := hb4.size
            clear hre hlk kW hK3 hU3 HX hnone hb4
            obtain ⟨S4, hS4, hall4⟩ := hK4
            obtain ⟨w5, hup, hS5, hg5⟩ := hS4.store lawT Tryd.underlying97 (v := .slice (some ⟨w3.heap.size + 1, 0, none⟩) 64 64) HKEY.out
            unfold kt at hup
            go_wp2_with ((with_reducible refine wpList_load_words HW.out kW4 rfl (.tmp 9) rfl rfl ?_))
            have hB6 : Below w.heap.size w w5 := hB5.grown hg5 (Nat.le_trans (Nat.le_of_lt hz4) hz5) (fun j e => by cases e; exact Nat.le_refl _)
            have hU5 := hU4.kept hg5 (fun g e => by cases e; exact .inl (Nat.lt_succ_self _))
            have hz6 := hE4.lt
            have hz7 : w.heap.size + 1 ≤ w5.heap.size := by have := hg5.size; omega
            have hne6 : u6.ownBlock ≠ some (w3.heap.size + 1) := by
              obtain ⟨vs, hv⟩ := hUo
              intro e
              have := (hv.outer.lt _ e).2
              omega
            have hK5 := Known.put hall4 hS5 hg5 (Nat.lt_succ_self _) HW.out (padW_small l hls) (by rw [HDE.out]; exact HRE.out) (by omega) hE4 hne6
            have hE5 := hE4.block (hg5.block _ hz6 (by intro e; injection e with e; omega))
            clear hup kW4 hS5 hg5 hall4 hS4 hU4 hE4 hz6 hne6
            -- TAIL2 begin
            have hrd := hE5.rd (l.map entW) (by rw [List.length_map]; omega) (fun j hj => by
              rw [List.length_map] at hj
              rw [padW_at, List.getElem?_map, List.getD_eq_getElem?_getD, List.getElem?_eq_getElem hj]
              rfl)
            rw [List.length_map] at hrd
            refine (CloneE_any ⟨w3.heap.size + 1, 0, none⟩ l.length 64 (l.map entW) _ hrd (by omega)).mono ?_
            rintro e w7 ⟨r, rfl, hor, hb7⟩
            obtain ⟨Ar, cr, rfl, _⟩ := own_slice hor
            obtain ⟨vs, hUv⟩ := hU5
            have hbase : w.heap.size + 1 ≤ w5.heap.size := hz7
            have hA7 := (hUv.to hb7).to (balloc (Below.refl w7.heap.size w7) (.cells #[.slice Ar l.length cr] 69))
            have hlk7 : (dec (t.take k)).length = k := by rw [dec_len, List.length_take, Hlen.out]; omega
            have HLK := Lib.hid hlk7
            have hvs := hUv.len
            have HVS := Lib.hid hvs
            clear hrd hlk7 hvs
            have hwn := hA7.outer
            have HWN := Lib.hid hwn
            clear hwn
            go_wp2_with (at_builtin; refine wpList_append_own_at _ rfl _ _ 66 rfl (w.heap.size + 1) 69 i0 (.slice none 0 0) 1 24 Tryd.underlying66 hi hz0 hz1 hz2 rfl (by decide) _ _ _ rfl HWN.out ⟨w7.heap.size, 0, none⟩ 1 1 [.slice Ar l.length cr] rfl rfl (cell_one_new _ _ _) (by intro u hu; rw [List.mem_singleton.1 hu]; exact own_one hor) (by rw [HLK.out]; unfold maxLen; omega) (by rw [HLK.out]; omega) (by have := hb7.size; simp; omega) ?_; intro v' w8 hown' hgrow hnil hloc)
            have hlen1 : (l.map entW).length = l.length := by simp
            have hpush := hUv.push hb7 hbase (.cells #[.slice Ar l.length cr] 69) (l := l.map entW) (by rw [hlen1]; exact hor) hown' hgrow hloc
            have hur : ∀ g, u6.ownBlock = some g → w.heap.size + 1 ≤ g := fun g hg => (hUv.outer.lt g hg).1
            have hKA := (hK5.to hb7).to (balloc (Below.refl w7.heap.size w7) (.cells #[.slice Ar l.length cr] 69))
            have hK8 := hKA.push (vu' := v') hgrow (fun e => by have := hur _ e; omega) hloc
            have hB8 : Below w.heap.size w w8 := (balloc (bnext hB6 hb7) _).grown hgrow (by have := (balloc (bnext hB6 hb7) (.cells #[.slice Ar l.length cr] 69)).size; exact this) (fun g hg => by have := hur g hg; omega)
            have hf1 := fsti_step (fun i => rowE (rowAt t i)) k HF.out (by rw [HRL.out]; exact HRE.out)
            have hdk : dec (t.take (k + 1)) = dec (t.take k) ++ [l.map entW] := by rw [Htk.out]; simp [dec]
            have hR8 : ReadI n t w v' (.int .i64 ((k + 1 : Nat) : Int)) w8 := ⟨k + 1, by omega, rfl, hf1, ⟨_, by rw [hdk]; exact hpush⟩, hK8, hB8⟩
            have HR8 := Lib.hid hR8
            clear hR8 hf1 hdk hB8 hK8 hKA hur hpush hown' hgrow hloc hnil
            go_wp2
            go_roundw
            case rel => exact HR8.out
            case measure => simp [intOf]; omega
            -- TAIL2 end
          · have hne : (rowE l != 0) = true := by simpa using hre
            have hsh : shE t = (rowE l, (k : Int)) := by
              have hh := fsti_hit (fun i => rowE (rowAt t i)) k t.length HF.out (by rw [HRL.out]; exact hre) (by rw [Hlen.out]; exact hlt)
              rw [HRL.out] at hh
              unfold shE
              rw [if_neg (by rw [Hlen.out]; exact h8), hh]
              exact if_pos hre
            have HSH := Lib.hid hsh
            have HRE := Lib.hid hre
            clear hsh hre
            go_wp2
            go_ret3
            exact ⟨bnext hB4 hb4, .inr ⟨by rw [HSH.out]; exact HRE.out, by rw [HSH.out]; rfl⟩⟩
    · obtain rfl : k = n := by omega
      have htn : t.take k = t := List.take_of_length_le (by rw [Hlen.out]; omega)
      rw [htn] at hU
      have hrows := (fsti_zero _ _).1 hf
      have HF := Lib.hid hf
      clear htn hK hi hz0 hz1 hz2
      have hdl : (dec t).length = k := by rw [dec_len]; exact Hlen.out
      obtain ⟨Au, cu, hu6⟩ := hU.shape
      rw [hdl] at hu6
      subst hu6
      have hRU := hU.rr hdl
      have hok : ∀ l ∈ t, ∀ x ∈ l, unpE x = 0 := fun l hl x hx => by
        obtain ⟨i, hi, rfl⟩ := mem_rowAt hl
        exact ((rowE_zero _).1 (hrows i (by rw [← Hlen.out]; exact hi))).2 x hx
      have HOK := Lib.hid hok
      have hd70 : ∀ l ∈ dec t, l.length ≤ 70 := dec_rows HL.out
      have HD70 := Lib.hid hd70
      clear hrows hok hd70 hf hdl
      go_wp2_with fail
      refine (tally_any Au k cu (dec t) wr hn hRU HD70.out (dec_uok HOK.out)).mono ?_
      rintro e w1 ⟨rfl, hT, hb1⟩
      have hU1 := hU.to hb1
      have hR1 := hRU.to hb1
      have hB1 := bnext hB hb1
      generalize wr.heap.size = Bt at *
      clear hU hRU hB hb1
      go_wp2
      go_loopw [72] (fun i wr => ∃ q : Nat, q ≤ k ∧ i = .int .i64 q ∧ (fsti (wrE t) q).1 = 0 ∧ Below w1.heap.size w1 wr) (fun i _ => k - (intOf i).toNat)
      case atStart => exact ⟨0, by omega, rfl, rfl, Below.refl _ _⟩
      case round =>
        obtain ⟨q, hqn, rfl, hw0, hB2⟩ := hrel
        have HW0 := Lib.hid hw0
        clear hw0
        by_cases hqt : q < k
        · obtain ⟨l, hrow⟩ : ∃ l, t[q]? = some l := ⟨_, List.getElem?_eq_getElem (by rw [Hlen.out]; exact hqt)⟩
          have hmem : l ∈ t := List.mem_of_getElem? hrow
          obtain ⟨bU, ofU, BU, cBU, hAu, hblU, hcellU, hRl⟩ := (hR1.to hB2).row (i := q) (l := l.map entW) (by unfold dec; rw [List.getElem?_map, hrow]; rfl)
          subst hAu
          rw [List.length_map] at hcellU hRl
          have hrl : rowAt t q = l := by unfold rowAt; rw [List.getD_eq_getElem?_getD, hrow]; rfl
          have HRL := Lib.hid hrl
          have HOKl := Lib.hid (HOK.out l hmem)
          have hl70 := HL.out _ hmem
          clear hrow hmem hrl
          go_wp2
          obtain ⟨wo, rfl⟩ : ∃ wo : World, wo = wr := ⟨_, rfl⟩
          go_loopw [79] (fun i wr => ∃ p : Nat, p ≤ l.length ∧ i = .int .i64 p ∧ (∀ j, j < p → wrB t (l.getD j 0) = false) ∧ Below wo.heap.size wo wr) (fun i _ => l.length - (intOf i).toNat)
          case atStart => exact ⟨0, by omega, rfl, fun j hj => by omega, Below.refl _ _⟩
          case round =>
            obtain ⟨p, hpn, rfl, hno, hB3⟩ := hrel
            have HNO := Lib.hid hno
            clear hno
            by_cases hpt : p < l.length
            · obtain ⟨x, hx⟩ : ∃ x, l[p]? = some x := ⟨_, List.getElem?_eq_getElem hpt⟩
              have hux := HOKl.out x (List.mem_of_getElem? hx)
              have hxd : l.getD p 0 = x := by rw [List.getD_eq_getElem?_getD, hx]; rfl
              obtain ⟨bR, ofR, rfl, hblR, e0, e1, e2, e3, e4⟩ := (hRl.below hB3 (Nat.le_refl _)).ent (j := p) (e := entW x) (by rw [List.getElem?_map, hx]; rfl)
              have HXD := Lib.hid hxd
              have hi64 := ent_i64 x hux
              have hkd := fun h => wr_kind x hux h
              have HKD := Lib.hid hkd
              have hwx : wrW x = (entW x).2.2.1 := rfl
              have hus : useW x = ((entW x).1, (entW x).2.1) := rfl
              have HWX := Lib.hid hwx
              have HUS := Lib.hid hus
              rcases hent : entW x with ⟨k0, n0, a0, b0, c0⟩
              rw [hent] at e0 e1 e2 e3 e4 hi64
              have HENT := Lib.hid hent
              simp only at e0 e1 e2 e3 e4 hi64
              obtain ⟨lit, hkey⟩ := keyE (k0, n0) hi64.1 hi64.2
              have HKEY := Lib.hid hkey
              clear hkey hent hkd hwx hus hx hxd hux hi64
              cases a0
              · have hno1 : ∀ j, j < p + 1 → wrB t (l.getD j 0) = false := fun j hj => by
                  by_cases h1 : j < p
                  · exact HNO.out j h1
                  · rw [show j = p by omega, HXD.out]
                    unfold wrB
                    rw [HWX.out, HENT.out]
                    rfl
                have HN1 := Lib.hid hno1
                clear hno1
                go_wp2
                exact ⟨⟨p + 1, by omega, by go_num, HN1.out, balloc hB3 _⟩, by simp [intOf]; omega⟩
              · have hk1 : k0 = 1 := by
                  have h1 := HKD.out (by rw [HWX.out, HENT.out])
                  rw [HENT.out] at h1
                  exact h1
                subst hk1
                obtain ⟨cN, hcN⟩ : ∃ cN : Nat, cN = cntS t (1, n0) := ⟨_, rfl⟩
                have hval : tlyU (dec t) (1, n0) = (cN : Int) := by rw [tly_dec t (1, n0) (by simp), hcN]
                have HVAL := Lib.hid hval
                have HCN := Lib.hid hcN
                clear hval hcN
                have hT2 := (hT.to hB2).to (hB3.trans (Below.refl _ _))
                have hTA : TallyG Tryd.prog 61 kf (wr.alloc (.cells #[.int .i64 1, .int .i64 n0, .bool true, .bool b0, .bool c0] 61)) Bt (tlyU (dec t)) := hT2.alloc _
                by_cases hgt : 1 < cN
                · have hgd : decide ((1 : Int) < (cN : Int)) = true := by simp; omega
                  have hsh : shE t = (9, (q : Int)) := by
                    have hwq : wrE t q = 9 := by
                      unfold wrE
                      rw [if_pos]
                      rw [HRL.out]
                      refine List.any_eq_true.2 ⟨x, ?_, ?_⟩
                      · rw [← HXD.out, List.getD_eq_getElem?_getD, List.getElem?_eq_getElem hpt]
                        exact List.getElem_mem hpt
                      · unfold wrB
                        rw [HWX.out, HUS.out, HENT.out]
                        simp only [Bool.true_and, decide_eq_true_eq]
                        rw [← HCN.out]
                        exact hgt
                    have hh := fsti_hit (wrE t) q t.length HW0.out (by rw [hwq]; decide) (by rw [Hlen.out]; exact hqt)
                    rw [hwq] at hh
                    unfold shE
                    rw [if_neg (by rw [Hlen.out]; exact h8), if_neg (by rw [Hlen.out]; simp [HF.out]), hh]
                  have HSH := Lib.hid hsh
                  have HB := Lib.hid (bnext hB1 (bnext hB2 hB3))
                  clear hsh hgt
                  go_wp2_with (go_at_call 60; refine (use_any _ _ _ _ _ _).mono ?_; rintro e w3 ⟨rfl, hb3⟩; have hlk := TallyG.look lawE kf_inj Tryd.underlying81 (zeroI _) (hTA.to hb3) (1, n0) HKEY.out; rw [HVAL.out] at hlk; simp only [kf] at hlk)
                  go_ret3
                  exact ⟨bnext (balloc HB.out _) hb3, .inr ⟨by rw [HSH.out]; simp, by rw [HSH.out]; rfl⟩⟩
                · have hgd : decide ((1 : Int) < (cN : Int)) = false := by simp; omega
                  have hno1 : ∀ j, j < p + 1 → wrB t (l.getD j 0) = false := fun j hj => by
                    by_cases h1 : j < p
                    · exact HNO.out j h1
                    · rw [show j = p by omega, HXD.out]
                      unfold wrB
                      rw [HWX.out, HUS.out, HENT.out, ← HCN.out]
                      simp only [Bool.true_and, decide_eq_false_iff_not]
                      exact hgt
                  have HN1 := Lib.hid hno1
                  clear hno1 hgt
                  go_wp2_with (go_at_call 60; refine (use_any _ _ _ _ _ _).mono ?_; rintro e w3 ⟨rfl, hb3⟩; have hlk := TallyG.look lawE kf_inj Tryd.underlying81 (zeroI _) (hTA.to hb3) (1, n0) HKEY.out; rw [HVAL.out] at hlk; simp only [kf] at hlk)
                  exact ⟨⟨p + 1, by omega, by go_num, HN1.out, bnext (balloc hB3 _) hb3⟩, by simp [intOf]; omega⟩
            · obtain rfl : p = l.length := by omega
              have hwq : wrE t q = 0 := by
                unfold wrE
                rw [if_neg]
                rw [HRL.out]
                intro hany
                obtain ⟨x, hx, hb⟩ := List.any_eq_true.1 hany
                obtain ⟨j, hj, rfl⟩ := List.getElem_of_mem hx
                have := HNO.out j hj
                rw [List.getD_eq_getElem?_getD, List.getElem?_eq_getElem hj] at this
                simp only [Option.getD_some] at this
                rw [hb] at this
                cases this
              have hs1 := fsti_step (wrE t) q HW0.out hwq
              have HS1 := Lib.hid hs1
              clear hs1 hwq
              go_wp2
              exact ⟨⟨q + 1, by omega, by go_num, HS1.out, bnext hB2 hB3⟩, by simp [intOf]; omega⟩
        · obtain rfl : q = k := by omega
          have hsh : (shE t).1 = 0 := by
            unfold shE
            rw [if_neg (by rw [Hlen.out]; exact h8), if_neg (by rw [Hlen.out]; simp [HF.out]), Hlen.out]
            exact HW0.out
          have HSH := Lib.hid hsh
          clear hsh
          go_wp2
          go_ret3
          exact ⟨bnext hB1 hB2, .inl ⟨HSH.out, _, _, rfl, (hU1.to hB2).less (Nat.le_succ _)⟩⟩
end Go.Proofs.YtomndlnfidkdcaaDoor
