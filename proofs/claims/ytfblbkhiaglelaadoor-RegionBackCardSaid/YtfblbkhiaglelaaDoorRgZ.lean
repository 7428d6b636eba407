/- The text of regions, by the program. -/
import Derived.Test.YtfblbkhiaglelaaDoorRgY
import Derived.Test.YtfblbkhiaglelaaDoorShelf24
import Derived.Lib.AppendIntMem
import Derived.Lib.OthersKept
import Derived.Deep.Cut
namespace Go.Proofs.YtfblbkhiaglelaaDoor
open Go Go.Proofs Go.RowKit
set_option linter.unusedSimpArgs false
set_option linter.unusedVariables false
set_option maxRecDepth 100000

/-- The bytes of a text as cells. -/
def byW (l : List UInt8) : List Value := l.map fun b => Value.int .u8 (b.toNat : Int)
theorem byW_append (a b : List UInt8) : byW (a ++ b) = byW a ++ byW b := by simp [byW]
/-- The library's table of the powers of ten lies as the library lays it. -/
def PowOK (w : World) : Prop := Lib.TabIs Tryd.prog w "internal/strconv.uint64pow10" .u64 Lib.pow10Tab
theorem PowOK.below {w w' : World} (h : PowOK w) (hb : Below w.heap.size w w') : PowOK w' := Lib.tabBelow_of_tabIs h w' hb
theorem PowOK.alloc {w : World} (h : PowOK w) (o : Obj) : PowOK (w.alloc o) := h.below ((Below.refl _ _).alloc (Nat.le_refl _) _)
theorem infoB8 : (Tryd.prog.info? 5).map (fun i => (i.zero, i.size, i.bytes)) = some (some (.int .u8 0), 1, 1) := by kernel_rfl
/-- A number at the end of a row of bytes; a box of another type stays. -/
theorem AppI (B n N : Nat) (v : Value) (xs : List Value) (w : World) (hN : N ≤ 100000) (hn : n ≤ 100000) (hown : w.ownsRow B 5 1 v n xs) (hB : B ≤ w.heap.size) (hP : Lib.TabBelow Tryd.prog B w "internal/strconv.uint64pow10" .u64 Lib.pow10Tab) :
    Calls Tryd.prog 39 #[v, .int .i64 N, .int .i64 10] w fun e w' => ∃ v', e = .returned v' ∧ w'.ownsRow B 5 1 v' (n + (Lib.decDigits N).length) (xs ++ byW (Lib.decDigits N)) ∧ Below B w w' ∧ (∀ k cs t, Bk w k cs t → t ≠ 5 → Bk w' k cs t) := by
  refine (Tryd.strconv_AppendInt_10 B n N (by omega) (by omega) v xs w hown hB (by omega) hP).mono ?_
  rintro e w' ⟨v', rfl, h1, h2, h3⟩
  have e1 : Lib.itoa (N : Int) = Lib.decDigits N := by unfold Lib.itoa; rw [if_neg (by omega), Int.toNat_natCast]
  rw [e1] at h1
  refine ⟨v', rfl, h1, h2, fun k cs t hk ht => ?_⟩
  exact h3 k _ hk (by simp) (fun c fz h => ht (by injection h))
theorem own_ne {w : World} {B b n sz : Nat} {e t : TypeId} {v : Value} {xs : List Value} {cs : Array Value} (h : w.ownsRow B e sz v n xs) (K : Bk w b cs t) (ht : t ≠ e) : v.ownBlock ≠ some b := by
  intro hb
  rcases h.2 with ⟨rfl, _⟩ | ⟨g, cap, cur, rfl, _, hat, _⟩
  · cases hb
  · injection hb with hb
    have hb' : g = b := hb
    subst hb'
    have := hat.symm.trans K
    injection this with this
    injection this with _ h2
    exact ht h2.symm
theorem conv_all (w : World) (g cap m : Nat) (l : List UInt8) (hm : m = l.length) (h : ∀ j, (hj : j < l.length) → w.cell? ⟨g, j, none⟩ = some (.int .u8 (l[j].toNat : Int))) :
    (convert 67 9 (.slice (some ⟨g, 0, none⟩) m cap)).run Tryd.prog w = .ok (.string ⟨l.toArray⟩) w := by
  subst hm
  refine run_convert_bytes_back (P := Tryd.prog) _ 67 9 5 ⟨g, 0, none⟩ cap l Tryd.underlying67 Tryd.underlying5 Tryd.underlying9 ?_
  intro j hj
  rw [show (⟨g, 0, none⟩ : Addr).add j = ⟨g, j, none⟩ by unfold Addr.add; split <;> simp_all]
  exact h j hj
theorem bk_grownU {w w' : World} {row : Option Nat} {b : Nat} {cs : Array Value} {t : TypeId} (K : Bk w b cs t) (hg : w.grownBy w' row) (hne : row ≠ some b) : Bk w' b cs t := by
  obtain ⟨_, _, _, _, h5⟩ := hg
  exact (h5 b K.lt (fun e => hne e.symm)).trans K
def TxRel (w2 : World) (rs : List (Int × Int)) (n : Nat) (v i : Value) (wr : World) : Prop :=
  ∃ k : Nat, k ≤ n ∧ i = .int .i64 k ∧ wr.ownsRow w2.heap.size 5 1 v (txtK rs k).length (byW (txtK rs k)) ∧ Below w2.heap.size w2 wr
theorem TxRel_mk {w2 wr : World} {rs : List (Int × Int)} {n k m : Nat} {v : Value} {l : List UInt8} {xs : List Value} (hk : k + 1 ≤ n) (he : txtK rs (k + 1) = l) (hm : m = l.length) (hx : xs = byW l) (hown : wr.ownsRow w2.heap.size 5 1 v m xs) (hB : Below w2.heap.size w2 wr) : TxRel w2 rs n v (.int .i64 ((k + 1 : Nat) : Int)) wr := by
  subst hm hx he
  exact ⟨k + 1, hk, rfl, hown, hB⟩
set_option maxHeartbeats 4000000 in
theorem Text24_any (A : Option Addr) (n c : Nat) (rs : List (Int × Int)) (w : World) (hr : Rd w 2 A n (flat2 .i64 rs)) (hn : n ≤ 1000000) (hP : PowOK w) :
    Calls Tryd.prog 17 #[.slice A n c] w fun e w' => e = .returned (.tuple #[.string ⟨(textG rs).1.toArray⟩, .int .i64 (textG rs).2]) ∧ Below w.heap.size w w' := by
  have HC := Lib.hid (rCheckP_any A n c rs w hr hn)
  obtain ⟨TR, hTR⟩ : ∃ f, textG rs = f := ⟨_, rfl⟩
  rw [hTR]
  have hlen : rs.length = n := by have := hr.1; rw [flat2_len] at this; omega
  by_cases hE : (regE rs).1 = 0
  · have hv := regE_zero rs hE
    rw [hE] at HC
    rw [textG_ok hv, hlen] at hTR
    have HV := Lib.hid hTR.symm
    have h32 := RgV_len hv
    have HLn := Lib.hid (txtK_len rs hv)
    unfold RgV at hv
    rw [hlen] at h32 hv HLn
    have HVN := Lib.hid hv
    obtain ⟨i0, hi, hz0, hz1, hz2⟩ := info_parts infoB8
    clear hTR hE hlen hv
    go_enter Tryd.func17, Tryd.ntmps17
    go_wp2_with (go_at_call 28; refine HC.out.mono ?_; rintro e w1 ⟨rfl, hb1⟩)
    have r1 := hr.below hb1 (Nat.le_refl _)
    have HP : Hid (∀ wr, Below w1.heap.size w1 wr → Lib.TabBelow Tryd.prog w1.heap.size wr "internal/strconv.uint64pow10" .u64 Lib.pow10Tab) := Lib.hid (fun wr h w' h' => Lib.tabBelow_of_tabIs (hP.below hb1) w' (h.trans h'))
    go_loopw [6, 19] (TxRel w1 rs n) (fun _ i _ => n - (intOf i).toNat)
    case atStart => exact ⟨0, by omega, rfl, World.ownsRow_nil _ _ _ _, Below.refl _ _⟩
    case round =>
      clear hr HC hP
      obtain ⟨k, hk, rfl, hown, hB⟩ := hrel
      have hT := (HLn.out k (by omega)).2
      have hsz := hB.size
      by_cases hlt : k < n
      · obtain ⟨b, off, a, d, rfl, hb, hg, c1, c2⟩ := (r1.below hB (Nat.le_refl _)).pr hlt
        obtain ⟨q1, q2, q3, _⟩ := rgE_one (HVN.out k hlt)
        rw [hg] at q1 q2 q3
        simp only at q1 q2 q3
        obtain ⟨x, rfl⟩ : ∃ q : Nat, a = q := ⟨a.toNat, by omega⟩
        obtain ⟨y, rfl⟩ : ∃ q : Nat, d = q := ⟨d.toNat, by omega⟩
        have HS := Lib.hid (txtK_step rs k x y hg)
        have lx := dec_len2 x (by omega)
        have ly := dec_len2 y (by omega)
        generalize txtK rs k = T at *
        have hkI : (k : Int) < (n : Int) := by omega
        have K0 := Bk.new wr #[.int .i64 (x : Int), .int .i64 (y : Int)] 65
        have own0 := hown.alloc (.cells #[.int .i64 (x : Int), .int .i64 (y : Int)] 65)
        have B0 := balloc hB (.cells #[.int .i64 (x : Int), .int .i64 (y : Int)] 65)
        have hTn := own0
        clear hg hown hB
        rcases k with _ | k
        · simp only [Nat.zero_mul, Nat.add_zero] at c1 c2
          rw [if_neg (show ¬ 0 < 0 by omega), List.append_nil] at HS
          go_wp2_with fail
          go_at_call 39
          refine (AppI w1.heap.size T.length x _ _ _ (by omega) (by omega) own0 B0.size (HP.out _ B0)).mono ?_
          rintro e w3 ⟨v3, rfl, own3, hb3, hK3⟩
          have K3 := hK3 _ _ _ K0 (by decide)
          have B3 := B0.trans hb3
          have d0 := K3.cell 0
          have d1 := K3.cell 1
          simp only [List.getElem?_toArray, List.getElem?_cons_zero, List.getElem?_cons_succ] at d0 d1
          clear hK3 hb3
          by_cases hyx : y = x
          · subst hyx
            rw [if_pos rfl, List.append_nil] at HS
            go_wp2_with fail
            go_roundw
            case rel => exact TxRel_mk (by omega) HS.out (by simp; try omega) (by simp [byW]) own3 B3
            case measure => simp [intOf]; omega
          · rw [if_neg hyx] at HS
            have dne : ((y : Int) != (x : Int)) = true := by simp; omega
            have dne2 : ((y : Int) == (x : Int)) = false := by simp; omega
            clear hyx
            go_upto_region 12 with fail
            go_wp2_with (at_builtin; refine wpList_append_own_at _ rfl _ _ 67 rfl w1.heap.size 5 i0 (.int .u8 0) 1 1 Tryd.underlying67 hi hz0 hz1 hz2 rfl (by decide) _ (T.length + (Lib.decDigits x).length) _ rfl (own3.alloc _) ⟨w3.heap.size, 0, none⟩ 1 1 [.int .u8 45] rfl rfl (cell_one_newU _ _ _) (by simp [Value.oneCell']) (by simp only [maxLen]; omega) (by omega) (by have := B3.size; simp; omega) ?_; intro v4 w4 own4 hgr4 _ _; have B4 := (balloc B3 _).grown hgr4 (by have := B3.size; simp; omega) (fun k e => (own3.lt k e).1); have K4 := bk_grownU (K3.alloc _) hgr4 (own_ne own3 K3 (by decide)); have e4x := (show w4.cell? _ = some (.int .i64 (x : Int)) from K4.cell 0); have e4y := (show w4.cell? _ = some (.int .i64 (y : Int)) from K4.cell 1); clear hgr4)
            go_at_call 39
            refine (AppI w1.heap.size (T.length + (Lib.decDigits x).length + 1) y _ _ _ (by omega) (by omega) own4 B4.size (HP.out _ B4)).mono ?_
            rintro e w5 ⟨v5, rfl, own5, hb5, _⟩
            have B5 := B4.trans hb5
            go_wp2_with fail
            go_roundw
            case rel => exact TxRel_mk (by omega) HS.out (by simp; try omega) (by simp [byW]) own5 B5
            case measure => simp [intOf]; omega
        · rw [if_pos (show 0 < k + 1 by omega)] at HS
          have hk0 : (0 : Int) < ((k + 1 : Nat) : Int) := by omega
          go_upto_region 9 with fail
          generalize wr.alloc (.cells #[.int .i64 (x : Int), .int .i64 (y : Int)] 65) = w0 at *
          generalize wr.heap.size = q at *
          go_wp2_with (at_builtin; refine wpList_append_own_at _ rfl _ _ 67 rfl w1.heap.size 5 i0 (.int .u8 0) 1 1 Tryd.underlying67 hi hz0 hz1 hz2 rfl (by decide) _ T.length _ rfl (own0.alloc _) ⟨w0.heap.size, 0, none⟩ 1 1 [.int .u8 32] rfl rfl (cell_one_newU _ _ _) (by simp [Value.oneCell']) (by simp only [maxLen]; omega) (by omega) (by have := B0.size; simp; omega) ?_; intro v2 w2 own2 hgr2 _ _; have B2 := (balloc B0 _).grown hgr2 (by have := B0.size; simp; omega) (fun k e => (own0.lt k e).1); have K2 := bk_grownU (K0.alloc _) hgr2 (own_ne own0 K0 (by decide)); have e2x := (show w2.cell? _ = some (.int .i64 (x : Int)) from K2.cell 0); have e2y := (show w2.cell? _ = some (.int .i64 (y : Int)) from K2.cell 1); clear hgr2)
          go_at_call 39
          refine (AppI w1.heap.size (T.length + 1) x _ _ _ (by omega) (by omega) own2 B2.size (HP.out _ B2)).mono ?_
          rintro e w3 ⟨v3, rfl, own3, hb3, hK3⟩
          have K3 := hK3 _ _ _ K2 (by decide)
          have B3 := B2.trans hb3
          have d0 := K3.cell 0
          have d1 := K3.cell 1
          simp only [List.getElem?_toArray, List.getElem?_cons_zero, List.getElem?_cons_succ] at d0 d1
          clear hK3 hb3
          by_cases hyx : y = x
          · subst hyx
            rw [if_pos rfl, List.append_nil] at HS
            go_wp2_with fail
            go_roundw
            case rel => exact TxRel_mk (by omega) HS.out (by simp; try omega) (by simp [byW]) own3 B3
            case measure => simp [intOf]; omega
          · rw [if_neg hyx] at HS
            have dne : ((y : Int) != (x : Int)) = true := by simp; omega
            have dne2 : ((y : Int) == (x : Int)) = false := by simp; omega
            clear hyx
            go_upto_region 12 with fail
            go_wp2_with (at_builtin; refine wpList_append_own_at _ rfl _ _ 67 rfl w1.heap.size 5 i0 (.int .u8 0) 1 1 Tryd.underlying67 hi hz0 hz1 hz2 rfl (by decide) _ ((T.length + 1) + (Lib.decDigits x).length) _ rfl (own3.alloc _) ⟨w3.heap.size, 0, none⟩ 1 1 [.int .u8 45] rfl rfl (cell_one_newU _ _ _) (by simp [Value.oneCell']) (by simp only [maxLen]; omega) (by omega) (by have := B3.size; simp; omega) ?_; intro v4 w4 own4 hgr4 _ _; have B4 := (balloc B3 _).grown hgr4 (by have := B3.size; simp; omega) (fun k e => (own3.lt k e).1); have K4 := bk_grownU (K3.alloc _) hgr4 (own_ne own3 K3 (by decide)); have e4x := (show w4.cell? _ = some (.int .i64 (x : Int)) from K4.cell 0); have e4y := (show w4.cell? _ = some (.int .i64 (y : Int)) from K4.cell 1); clear hgr4)
            go_at_call 39
            refine (AppI w1.heap.size ((T.length + 1) + (Lib.decDigits x).length + 1) y _ _ _ (by omega) (by omega) own4 B4.size (HP.out _ B4)).mono ?_
            rintro e w5 ⟨v5, rfl, own5, hb5, _⟩
            have B5 := B4.trans hb5
            go_wp2_with fail
            go_roundw
            case rel => exact TxRel_mk (by omega) HS.out (by simp; try omega) (by simp [byW]) own5 B5
            case measure => simp [intOf]; omega
      · obtain rfl : k = n := by omega
        rcases Nat.eq_zero_or_pos (txtK rs k).length with h0 | h0
        · have h00 : txtK rs k = [] := List.eq_nil_of_length_eq_zero h0
          rw [h00] at hown HV
          simp only [List.length_nil, byW, List.map_nil] at hown
          clear h00 h0 hT
          rcases hown.2 with ⟨rfl, _⟩ | ⟨g, cap, cur, rfl, _⟩
          · have hcv : (convert 67 9 (.slice none 0 0)).run Tryd.prog wr = .ok (.string ⟨([] : List UInt8).toArray⟩) wr := by kernel_rfl
            clear hown
            go_wp2_with fail
            go_ret2
            exact ⟨by rw [HV.out]; rfl, bnext hb1 hB⟩
          · have hcv := conv_all wr g cap 0 [] rfl (fun j hj => by simp at hj)
            clear hown
            go_wp2_with fail
            go_ret2
            exact ⟨by rw [HV.out]; rfl, bnext hb1 hB⟩
        · obtain ⟨D, hD⟩ : ∃ D, txtK rs k = D := ⟨_, rfl⟩
          rw [hD] at hown HV hT h0
          obtain ⟨g, cap, rfl, hg1, hg2⟩ := hown.form h0
          have hcv := conv_all wr g cap D.length D rfl (fun j hj => by
            have := hown.cellAt j (by omega)
            rw [this]
            simp [byW, List.getElem?_eq_getElem hj])
          clear hD
          go_wp2_with fail
          go_ret2
          exact ⟨by rw [HV.out]; rfl, bnext hb1 hB⟩
  · rw [show textG rs = ([], (regE rs).1) by unfold textG; rw [if_pos hE]] at hTR
    subst hTR
    have hE2 : ((regE rs).1 != 0) = true := by simpa using hE
    have hE3 : ((regE rs).1 == 0) = false := by simpa using hE
    generalize (regE rs).1 = E at *
    go_enter Tryd.func17, Tryd.ntmps17
    go_wp2_with (go_at_call 28; refine HC.out.mono ?_; rintro e w1 ⟨rfl, hb1⟩)
    go_ret2
    exact ⟨rfl, hb1⟩
end Go.Proofs.YtfblbkhiaglelaaDoor
