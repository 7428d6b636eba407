/- cow.Sharers. -/
import Derived.Test.YtomndlnfidkdcaaDoorCowC
import Derived.Lib.QuietBelow
namespace Go.Proofs.YtomndlnfidkdcaaDoor
open Go Go.Proofs Go.RowKit Go.Maps
set_option linter.unusedSimpArgs false
set_option linter.unusedVariables false
set_option maxRecDepth 100000

theorem eql_use (w : World) (a b : Int × Int) (ha : i64ok a.1 ∧ i64ok a.2) (hb : i64ok b.1 ∧ i64ok b.2) (r : Bool) (hr : r = decide (a = b)) :
    (Op.equal 61 (kf a) (kf b)).run Tryd.prog w = .ok r w := by
  obtain ⟨la, hla⟩ := keyE a ha.1 ha.2
  obtain ⟨lb, hlb⟩ := keyE b hb.1 hb.2
  obtain ⟨q, hq, hiff⟩ := run_equal_deep (P := Tryd.prog) w (m := 2) (by omega) (k := 61) (by kernel_rfl) (by kernel_rfl) hla hlb
  rw [hq]
  congr 1
  rw [hr, Bool.eq_iff_iff, hiff, decide_eq_true_iff]
  constructor
  · rintro rfl
    exact kf_inj a b (lawE.inj hla hlb)
  · rintro rfl
    rw [hla] at hlb
    injection hlb
theorem infoPl : (Tryd.prog.info? 49).map (fun i => (i.zero, i.size, i.bytes)) = some (some (.agg #[.int .i64 0, .int .i64 0]), 2, 16) := by kernel_rfl
theorem shRow_yes (t : Sh) (i j a n : Nat) (h : shB t i j a n = true) : shRow t i j a (n + 1) = shRow t i j a n ++ [((a : Int), (n : Int))] := by simp [shRow, List.range_succ, h]
theorem shRow_no (t : Sh) (i j a n : Nat) (h : shB t i j a n = false) : shRow t i j a (n + 1) = shRow t i j a n := by simp [shRow, List.range_succ, h]
theorem shAll_succ (t : Sh) (i j n : Nat) : shAll t i j (n + 1) = shAll t i j n ++ shRow t i j n (rowAt t n).length := by simp [shAll, List.range_succ]
theorem shRow_le (t : Sh) (i j a n : Nat) : (shRow t i j a n).length ≤ n := by
  unfold shRow
  rw [List.length_map]
  have := List.length_filter_le (shB t i j a) (List.range n)
  simpa using this
theorem shAll_le (t : Sh) (i j N : Nat) (h : ∀ l ∈ t, l.length ≤ N) : ∀ n, n ≤ t.length → (shAll t i j n).length ≤ n * N
  | 0, _ => by simp [shAll]
  | n + 1, hn => by
    have h1 := shAll_le t i j N h n (by omega)
    have h2 := shRow_le t i j n (rowAt t n).length
    have h3 := h _ (rowAt_mem (t := t) (i := n) (by omega))
    rw [shAll_succ, List.length_append, Nat.succ_mul]
    omega
theorem cell2_new (w : World) (x y : Value) (t : TypeId) : ∀ j u, [x, y][j]? = some u → (w.alloc (.cells #[x, y] t)).cell? ((⟨w.heap.size, 0, none⟩ : Addr).add j) = some u := World.news_of_block (cs := #[x, y]) (heap_alloc_new w _)
theorem use_eq_iff (x y : Nat) : decide (useW x = useW y) = decide (((entW x).1, (entW x).2.1) = ((entW y).1, (entW y).2.1)) := rfl
/-- What Sharers returns. -/
def ShrR (l : List (Int × Int)) (er : Int) (w w' : World) (e : Ending) : Prop :=
  ∃ A c, e = .returned (.tuple #[.slice A l.length c, .int .i64 er]) ∧ Rd w' 2 A l.length (flat2 .i64 l) ∧ Below w.heap.size w w'
/-- Within the loops: what was collected so far. -/
def ShrI (w2 : World) (l : List (Int × Int)) (v : Value) (wr : World) : Prop :=
  wr.ownsRow w2.heap.size 49 2 v l.length (flat2 .i64 l) ∧ Below w2.heap.size w2 wr
def ShrO (w2 : World) (t : Sh) (i j : Nat) (v k : Value) (wr : World) : Prop := ∃ q : Nat, q ≤ t.length ∧ k = .int .i64 q ∧ ShrI w2 (shAll t i j q) v wr
def ShrN (w2 : World) (t : Sh) (i j q m : Nat) (v k : Value) (wr : World) : Prop := ∃ p : Nat, p ≤ m ∧ k = .int .i64 p ∧ ShrI w2 (shAll t i j q ++ shRow t i j q p) v wr

set_option maxHeartbeats 8000000 in
theorem Sharers_any (A : Option Addr) (n c : Nat) (t : Sh) (table page : Int) (w : World) (h : InS w A n t) (hL : LayOK w) :
    Calls Tryd.prog 31 #[.slice A n c, .int .i64 table, .int .i64 page] w fun e w' => ShrR (shR t table page).1 (shR t table page).2 w w' e := by
  have HO := Lib.hid (open_any A n c t table page w h hL)
  have hn := h.few
  have Hlen := Lib.hid h.rr.len
  clear h
  by_cases h0 : askS t table page = 0
  · obtain ⟨hv, i, j, rfl, rfl, hi, hj⟩ := ask_zero h0
    have hR : shR t i j = (shL t i j, 0) := by unfold shR; rw [if_neg (by simp [h0])]; simp only [Int.toNat_natCast]
    rw [hR]
    have H0 := Lib.hid h0
    clear hR h0 hv
    go_enter Tryd.func31, Tryd.ntmps31
    go_wp2_with fail
    refine HO.out.mono ?_
    rintro e w1 ⟨hb, ⟨_, A', c', rfl, hU⟩ | ⟨hq, rfl⟩⟩
    · have hD := OpenR.ok H0.out hn Hlen.out hU
      rcases hent : entW (wordAt t i j) with ⟨k0, n0, a0, b0, c0⟩
      have HE := Lib.hid hent
      obtain ⟨bA, off, bR, ofR, m, cR, rfl, hbA, cA, hjm, hm64, hbR, e0, e1, e2, e3, e4, hin⟩ := hD.cells HE
      clear hent hU
      by_cases hk0 : k0 = 0
      · have hS : shL t i j = [] := by unfold shL; rw [HE.out, if_pos hk0]
        have HS := Lib.hid hS
        subst hk0
        clear hS
        go_wp2
        go_ret2
        rw [HS.out]
        exact ⟨none, 0, rfl, Rd.zero _, balloc hb _⟩
      · have hS : shL t i j = shAll t i j t.length := by unfold shL; rw [HE.out, if_neg hk0]
        have HS := Lib.hid hS
        have hd0 : (k0 == 0) = false := by simpa using hk0
        clear hS hk0
        go_wp2
        have kE := Bk.new w1 #[.int .i64 k0, .int .i64 n0, .bool a0, .bool b0, .bool c0] 61
        have hD2 := hD.to (balloc (Below.refl _ _) (.cells #[.int .i64 k0, .int .i64 n0, .bool a0, .bool b0, .bool c0] 61))
        have hB2 := balloc hb (.cells #[.int .i64 k0, .int .i64 n0, .bool a0, .bool b0, .bool c0] 61)
        clear cA e0 e1 e2 e3 e4 hD
        generalize w1.alloc (.cells #[.int .i64 k0, .int .i64 n0, .bool a0, .bool b0, .bool c0] 61) = w2 at *
        generalize w1.heap.size = GE at *
        have hlt := kE.lt
        have hrr := hD2.rr
        have hv := hD2.v
        have hux := hD2.unp
        have h64x := ent_i64 _ hux
        rw [HE.out] at h64x
        obtain ⟨lit, hkey⟩ := keyE (k0, n0) h64x.1 h64x.2
        have HX := Lib.hid h64x
        have HV := Lib.hid hv
        have hst0 : ShrI w2 (shAll t i j 0) (.slice none 0 0) w2 := ⟨World.ownsRow_nil _ _ _ _, Below.refl _ _⟩
        obtain ⟨i0, hi0, hz0, hz1, hz2⟩ := info_parts infoPl
        clear hkey hux h64x hD2 hv hjm hm64 hj
        go_loopw [11, 38] (ShrO w2 t i j) (fun _ k _ => n - (intOf k).toNat)
        case atStart => exact ⟨0, by omega, rfl, hst0⟩
        case round =>
          clear hst0
          obtain ⟨q, hqn, rfl, hrow, hB3⟩ := hrel
          have hqn' : q ≤ n := by rw [← Hlen.out]; exact hqn
          by_cases hqt : q < n
          · obtain ⟨l, htl⟩ : ∃ l, t[q]? = some l := ⟨_, List.getElem?_eq_getElem (by rw [Hlen.out]; exact hqt)⟩
            have hmem : l ∈ t := List.mem_of_getElem? htl
            obtain ⟨bU, ofU, BU, cBU, hAu, hblU, hcU0, hRl⟩ := hrr.row (i := q) (l := l.map entW) (by unfold dec; rw [List.getElem?_map, htl]; rfl)
            rw [List.length_map] at hcU0 hRl
            have hcU := (hB3.cell (p := ⟨bU, ofU + q, none⟩) hblU).trans hcU0
            clear hcU0
            have hAu2 : bA = bU ∧ off = ofU := by injection hAu with e; injection e with e1 e2; exact ⟨e1, e2⟩
            obtain ⟨rfl, rfl⟩ := hAu2
            have hrl : rowAt t q = l := by unfold rowAt; rw [List.getD_eq_getElem?_getD, htl]; rfl
            have HRL := Lib.hid hrl
            have HOKl := Lib.hid (HV.out.ok l hmem)
            have hl64 := HV.out.row l hmem
            have hA512 := shAll_le t i j 64 HV.out.row q hqn
            have hA5 : (shAll t i j q).length ≤ 704 := by omega
            have hst1 : ShrI w2 (shAll t i j q ++ shRow t i j q 0) u11 wr := by
              have hsr : shAll t i j q ++ shRow t i j q 0 = shAll t i j q := by simp [shRow]
              rw [hsr]
              exact ⟨hrow, hB3⟩
            have HST1 := Lib.hid hst1
            clear htl hmem hrl hAu hA512 hst1 hrow
            go_wp2
            obtain ⟨wo, rfl⟩ : ∃ wo : World, wo = wr := ⟨_, rfl⟩
            go_loopw [11, 45] (ShrN w2 t i j q l.length) (fun _ k _ => l.length - (intOf k).toNat)
            case atStart => exact ⟨0, by omega, rfl, HST1.out⟩
            case round =>
              clear hB3 hcU
              obtain ⟨p, hpn, rfl, hrow, hB3⟩ := hrel
              by_cases hpt : p < l.length
              · obtain ⟨x, hx⟩ : ∃ x, l[p]? = some x := ⟨_, List.getElem?_eq_getElem hpt⟩
                have hux := HOKl.out x (List.mem_of_getElem? hx)
                have h64y := ent_i64 x hux
                have hwd : wordAt t q p = x := by unfold wordAt; rw [HRL.out, List.getD_eq_getElem?_getD, hx]; rfl
                obtain ⟨bS, ofS, rfl, hblS, y0, y1, y2, y3, y4⟩ := (hRl.below hB3 (Nat.le_refl _)).ent (j := p) (e := entW x) (by rw [List.getElem?_map, hx]; rfl)
                rcases hey : entW x with ⟨k1, n1, a1, b1, c1⟩
                rw [hey] at y0 y1 y2 y3 y4 h64y
                simp only at y0 y1 y2 y3 y4 h64y
                obtain ⟨bE, hbE⟩ : ∃ b, b = decide ((k1, n1) = (k0, n0)) := ⟨_, rfl⟩
                obtain ⟨bQ, hQ⟩ : ∃ b, ((q : Int) != (i : Int)) = b := ⟨_, rfl⟩
                obtain ⟨bP, hP⟩ : ∃ b, ((p : Int) != (j : Int)) = b := ⟨_, rfl⟩
                have heq : ∀ W, (Op.equalIn 10000 61 (.agg #[.int .i64 k1, .int .i64 n1, .bool false, .bool false, .bool false]) (.agg #[.int .i64 k0, .int .i64 n0, .bool false, .bool false, .bool false])).run Tryd.prog W = .ok bE W := fun W => eql_use W (k1, n1) (k0, n0) h64y HX.out bE hbE
                have HB : Hid (shB t i j q p = (bE && (bQ || bP))) := Lib.hid (by
                  unfold shB useW useE
                  rw [hwd, hey, HE.out, hbE, ← hQ, ← hP]
                  by_cases e1 : q = i <;> by_cases e2 : p = j <;> simp [e1, e2] <;> (intros; omega))
                clear hbE hwd hx hux h64y hey
                go_wp2
                have kO := Bk.new wr #[.int .i64 k1, .int .i64 n1, .bool a1, .bool b1, .bool c1] 61
                have hB5 := balloc hB3 (.cells #[.int .i64 k1, .int .i64 n1, .bool a1, .bool b1, .bool c1] 61)
                have hrow5 := hrow.alloc (.cells #[.int .i64 k1, .int .i64 n1, .bool a1, .bool b1, .bool c1] 61)
                have kE5 := kE.to hB5
                clear y0 y1 y2 y3 y4 hrow hB3
                generalize wr.alloc (.cells #[.int .i64 k1, .int .i64 n1, .bool a1, .bool b1, .bool c1] 61) = w5 at *
                generalize wr.heap.size = GO at *
                have g0 := kE5.cell 0
                have g1 := kE5.cell 1
                have g2 := kE5.cell 2
                have g3 := kE5.cell 3
                have g4 := kE5.cell 4
                have o0 := kO.cell 0
                have o1 := kO.cell 1
                have o2 := kO.cell 2
                have o3 := kO.cell 3
                have o4 := kO.cell 4
                simp at g0 g1 g2 g3 g4 o0 o1 o2 o3 o4
                replace g0 := cell_regrown g0
                replace g1 := cell_regrown g1
                replace g2 := cell_regrown g2
                replace g3 := cell_regrown g3
                replace g4 := cell_regrown g4
                replace o0 := cell_regrown o0
                replace o1 := cell_regrown o1
                replace o2 := cell_regrown o2
                replace o3 := cell_regrown o3
                replace o4 := cell_regrown o4
                have cU0 := fun d os => Calls.regrown_of (use_any k0 n0 a0 b0 c0 (Sort.grow (redrawn w5 d) os))
                have cU1 := fun d os => Calls.regrown_of (use_any k1 n1 a1 b1 c1 (Sort.grow (redrawn w5 d) os))
                -- WAYS begin
                cases bE
                · refine wp_region_quiet_below (by kernel_rfl) (by kernel_rfl) ?_
                  repeat (go_big_quiet_step (first | exact cU0 _ _ | exact cU1 _ _))
                  refine wpQuiet_nil ?_
                  intro _ hw'
                  obtain ⟨⟨dq, osq⟩, hw''⟩ := hw'
                  subst hw''
                  have hb7 := below_regrown w5 dq osq
                  generalize Sort.grow (redrawn w5 dq) osq = w7 at *
                  clear g0 g1 g2 g3 g4 o0 o1 o2 o3 o4
                  have hB7 : Below w2.heap.size w2 w7 := bnext hB5 hb7
                  have hrow7 := own_below hrow5 hb7
                  have hnx : ShrI w2 (shAll t i j q ++ shRow t i j q (p + 1)) u11 w7 := by rw [shRow_no t i j q p (by rw [HB.out]; rfl)]; exact ⟨hrow7, hB7⟩
                  have HNX := Lib.hid hnx
                  clear hnx hrow7 hB7 hrow5 hB5 hb7
                  go_wp2
                  go_roundw
                  case rel => exact ⟨p + 1, by omega, by go_num, HNX.out⟩
                  case measure => simp [intOf]; omega
                · cases bQ
                  · cases bP
                    · refine wp_region_quiet_below (by kernel_rfl) (by kernel_rfl) ?_
                      repeat (go_big_quiet_step (first | exact cU0 _ _ | exact cU1 _ _))
                      refine wpQuiet_nil ?_
                      intro _ hw'
                      obtain ⟨⟨dq, osq⟩, hw''⟩ := hw'
                      subst hw''
                      have hb7 := below_regrown w5 dq osq
                      generalize Sort.grow (redrawn w5 dq) osq = w7 at *
                      clear g0 g1 g2 g3 g4 o0 o1 o2 o3 o4
                      have hB7 : Below w2.heap.size w2 w7 := bnext hB5 hb7
                      have hrow7 := own_below hrow5 hb7
                      have hnx : ShrI w2 (shAll t i j q ++ shRow t i j q (p + 1)) u11 w7 := by rw [shRow_no t i j q p (by rw [HB.out]; rfl)]; exact ⟨hrow7, hB7⟩
                      have HNX := Lib.hid hnx
                      clear hnx hrow7 hB7 hrow5 hB5 hb7
                      go_wp2
                      go_roundw
                      case rel => exact ⟨p + 1, by omega, by go_num, HNX.out⟩
                      case measure => simp [intOf]; omega
                    · refine wp_region_quiet_below (by kernel_rfl) (by kernel_rfl) ?_
                      repeat (go_big_quiet_step (first | exact cU0 _ _ | exact cU1 _ _))
                      refine wpQuiet_nil ?_
                      intro _ hw'
                      obtain ⟨⟨dq, osq⟩, hw''⟩ := hw'
                      subst hw''
                      have hb7 := below_regrown w5 dq osq
                      generalize Sort.grow (redrawn w5 dq) osq = w7 at *
                      clear g0 g1 g2 g3 g4 o0 o1 o2 o3 o4
                      have hB7 : Below w2.heap.size w2 w7 := bnext hB5 hb7
                      have hrow7 := own_below hrow5 hb7
                      have HRW := Lib.hid hrow7
                      have hlen7 : (shAll t i j q ++ shRow t i j q p).length ≤ 800 := by rw [List.length_append]; have := shRow_le t i j q p; omega
                      clear hrow7 hrow5 hB5
                      go_wp2_with (at_builtin; refine wpList_append_own_at _ rfl _ _ 45 rfl w2.heap.size 49 i0 (.agg #[.int .i64 0, .int .i64 0]) 2 16 Tryd.underlying45 hi0 hz0 hz1 hz2 rfl (by decide) _ _ _ rfl (HRW.out.alloc _) ⟨w7.heap.size, 0, none⟩ 1 1 [.int .i64 (q : Int), .int .i64 (p : Int)] rfl rfl (cell2_new _ _ _ _) (by simp [Value.oneCell']) (by unfold maxLen; omega) (by omega) (by have := hB7.size; simp; omega) ?_; intro v' w8 hown' hgrow _ _)
                      have hnx : ShrI w2 (shAll t i j q ++ shRow t i j q (p + 1)) v' w8 := by
                        rw [shRow_yes t i j q p (by rw [HB.out]; rfl), ← List.append_assoc]
                        unfold ShrI
                        rw [flat2_append, List.length_append]
                        exact ⟨hown', (balloc hB7 _).grown hgrow (by have := hB7.size; simp; omega) (fun g e => (HRW.out.lt g e).1)⟩
                      have HNX := Lib.hid hnx
                      clear hnx hown' hgrow hB7
                      go_wp2
                      go_roundw
                      case rel => exact ⟨p + 1, by omega, by go_num, HNX.out⟩
                      case measure => simp [intOf]; omega
                  · refine wp_region_quiet_below (by kernel_rfl) (by kernel_rfl) ?_
                    repeat (go_big_quiet_step (first | exact cU0 _ _ | exact cU1 _ _))
                    refine wpQuiet_nil ?_
                    intro _ hw'
                    obtain ⟨⟨dq, osq⟩, hw''⟩ := hw'
                    subst hw''
                    have hb7 := below_regrown w5 dq osq
                    generalize Sort.grow (redrawn w5 dq) osq = w7 at *
                    clear g0 g1 g2 g3 g4 o0 o1 o2 o3 o4
                    have hB7 : Below w2.heap.size w2 w7 := bnext hB5 hb7
                    have hrow7 := own_below hrow5 hb7
                    have HRW := Lib.hid hrow7
                    have hlen7 : (shAll t i j q ++ shRow t i j q p).length ≤ 800 := by rw [List.length_append]; have := shRow_le t i j q p; omega
                    clear hrow7 hrow5 hB5
                    go_wp2_with (at_builtin; refine wpList_append_own_at _ rfl _ _ 45 rfl w2.heap.size 49 i0 (.agg #[.int .i64 0, .int .i64 0]) 2 16 Tryd.underlying45 hi0 hz0 hz1 hz2 rfl (by decide) _ _ _ rfl (HRW.out.alloc _) ⟨w7.heap.size, 0, none⟩ 1 1 [.int .i64 (q : Int), .int .i64 (p : Int)] rfl rfl (cell2_new _ _ _ _) (by simp [Value.oneCell']) (by unfold maxLen; omega) (by omega) (by have := hB7.size; simp; omega) ?_; intro v' w8 hown' hgrow _ _)
                    have hnx : ShrI w2 (shAll t i j q ++ shRow t i j q (p + 1)) v' w8 := by
                      rw [shRow_yes t i j q p (by rw [HB.out]; rfl), ← List.append_assoc]
                      unfold ShrI
                      rw [flat2_append, List.length_append]
                      exact ⟨hown', (balloc hB7 _).grown hgrow (by have := hB7.size; simp; omega) (fun g e => (HRW.out.lt g e).1)⟩
                    have HNX := Lib.hid hnx
                    clear hnx hown' hgrow hB7
                    go_wp2
                    go_roundw
                    case rel => exact ⟨p + 1, by omega, by go_num, HNX.out⟩
                    case measure => simp [intOf]; omega
                -- WAYS end
              · obtain rfl : p = l.length := by omega
                have hnx : ShrI w2 (shAll t i j (q + 1)) u11 wr := by rw [shAll_succ, HRL.out]; exact ⟨hrow, hB3⟩
                have HNX := Lib.hid hnx
                clear hnx hrow
                go_wp2
                go_roundw
                case rel => exact ⟨q + 1, by rw [Hlen.out]; omega, by go_num, HNX.out⟩
                case measure => simp [intOf]; omega
          · obtain rfl : q = n := by omega
            have hSS : shL t i j = shAll t i j q := by rw [HS.out, Hlen.out]
            obtain ⟨Ap, cp, rfl, hrd⟩ := own_slice hrow
            have HSS := Lib.hid hSS
            clear hSS hrow
            go_wp2
            go_ret2
            rw [HSS.out]
            exact ⟨Ap, cp, rfl, hrd, bnext hB2 hB3⟩
    · exact absurd H0.out hq
  · have hR : shR t table page = ([], askS t table page) := by unfold shR; rw [if_pos h0]
    rw [hR]
    have hne : (askS t table page != 0) = true := by simpa using h0
    have H0 := Lib.hid h0
    clear hR h0
    go_enter Tryd.func31, Tryd.ntmps31
    go_wp2_with fail
    refine HO.out.mono ?_
    rintro e w1 ⟨hb, ⟨hq, A', c', rfl, hU⟩ | ⟨hq, rfl⟩⟩
    · exact absurd hq H0.out
    · go_wp2
      go_ret2
      exact ⟨none, 0, rfl, Rd.zero _, hb⟩
end Go.Proofs.YtomndlnfidkdcaaDoor
