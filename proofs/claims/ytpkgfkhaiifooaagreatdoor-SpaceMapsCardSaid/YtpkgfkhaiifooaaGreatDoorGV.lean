/- Several texts in one. -/
import Derived.Test.YtpkgfkhaiifooaaGreatDoorGU
import Derived.Test.YtpkgfkhaiifooaaGreatDoorOwn2
import Derived.Deep.RegionHeld3
/- Page tables: Frames. -/
namespace Go.Proofs.YtpkgfkhaiifooaaGreatDoor
open Go Go.Proofs Go.RowKit
set_option linter.unusedSimpArgs false
set_option linter.unusedVariables false
set_option maxRecDepth 100000

theorem infoInt : (Tryz.prog.info? 3).map (fun i => (i.zero, i.size, i.bytes)) = some (some (.int .i64 0), 1, 8) := by kernel_rfl
/-- Numbers and an error that a call returned. -/
def IsRes (w w' : World) (zs : List Int) (er : Int) (e : Ending) : Prop := ∃ v, e = .returned (.tuple #[v, .int .i64 er]) ∧ IsV w' v zs ∧ Below w.heap.size w w'
theorem IsV.own {w : World} {B : Nat} {e : TypeId} {v : Value} {zs : List Int} (h : w.ownsRow B e 1 v zs.length (iw zs)) : IsV w v zs := by
  obtain ⟨A, c, e, h1⟩ := own_slice h
  exact ⟨A, c, e, h1⟩
/-- The frames of the leaves, and then that of the root. -/
def frmA (r : Int) (ls : List Int) : List Int := frmL ls 8 ++ (if r = -1 then [] else [r])
theorem frmL_len (ls : List Int) (k : Nat) : (frmL ls k).length ≤ k := by
  unfold frmL
  have h1 := List.length_filter_le (fun f => decide (f ≠ -1)) (ls.take k)
  have h2 : (ls.take k).length ≤ k := by rw [List.length_take]; omega
  omega
theorem frmL_succ (ls : List Int) (k : Nat) (hk : k < ls.length) : frmL ls (k + 1) = frmL ls k ++ (if ls.getD k 0 = -1 then [] else [ls.getD k 0]) := by
  unfold frmL
  rw [List.take_add_one, List.filter_append, List.getElem?_eq_getElem hk, List.getD_eq_getElem?_getD, List.getElem?_eq_getElem hk]
  congr 1
  simp only [Option.toList, Option.getD]
  by_cases h : ls[k] = -1 <;> simp [h]

set_option maxHeartbeats 1000000 in
theorem TFrames_bad (r : Int) (ls : List Int) (es : List Nat) (v : Value) (w : World) (hv : TbV w v (r, ls, es)) (hs : wsmall es) (hL : LayOK w) (hE : tabE r ls es ≠ 0) :
    Calls Tryz.prog 34 #[v] w fun e w' => IsRes w w' [] (tabE r ls es) e := by
  obtain ⟨A, c, B, d, rfl, hA, hB, hcc⟩ := id hv
  simp only at hA hB hcc
  unfold tabV at hv ⊢
  simp only at hv ⊢
  have kT := (Bk.new (w) #[.int .i64 r, .slice A ls.length c, .slice B es.length d] 26)
  have hB1 := balloc (Below.refl _ w) (.cells #[.int .i64 r, .slice A ls.length c, .slice B es.length d] 26)
  generalize hw_w1 : w.alloc (.cells #[.int .i64 r, .slice A ls.length c, .slice B es.length d] 26) = w1 at *
  have hd : (tabE r ls es != 0) = true := by simpa using hE
  obtain ⟨cT, fT, lT⟩ := kT.facts
  go_enter Tryz.func34, Tryz.ntmps34
  go_wp2_with fail
  refine (TCheck_any r ls es _ _ (hv.to hB1) hs (hL.below hB1)).mono ?_
  rintro e w2 ⟨rfl, hb2⟩
  go_wp2_with fail
  go_ret2
  exact ⟨_, rfl, IsV.nil _, bnext hB1 hb2⟩

set_option maxHeartbeats 1000000 in
theorem TFrames_ok (r : Int) (ls : List Int) (es : List Nat) (v : Value) (w : World) (hv : TbV w v (r, ls, es)) (hs : wsmall es) (hL : LayOK w) (hE : tabE r ls es = 0) :
    Calls Tryz.prog 34 #[v] w fun e w' => IsRes w w' (frmA r ls) 0 e := by
  obtain ⟨h1, h2, hR, hLs, hDu, hSt, hUn, hMi⟩ := tab_zero hE
  obtain ⟨A, c, B, d, rfl, hA, hB, hcc⟩ := id hv
  simp only at hA hB hcc
  unfold tabV at hv ⊢
  simp only at hv ⊢
  rw [h1, h2] at hv ⊢
  rw [h1] at hA hcc
  rw [h2] at hB
  have kT := (Bk.new (w) #[.int .i64 r, .slice A 8 c, .slice B 64 d] 26)
  have hB1 := balloc (Below.refl _ w) (.cells #[.int .i64 r, .slice A 8 c, .slice B 64 d] 26)
  generalize hw_w1 : w.alloc (.cells #[.int .i64 r, .slice A 8 c, .slice B 64 d] 26) = w1 at *
  obtain ⟨i0, hi, hz0, hz1, hz2⟩ := info_parts infoInt
  obtain ⟨cT, fT, lT⟩ := kT.facts
  go_enter Tryz.func34, Tryz.ntmps34
  go_wp2_with fail
  refine (TCheck_any r ls es _ _ (hv.to hB1) hs (hL.below hB1)).mono ?_
  rw [hE]
  rintro e w2 ⟨rfl, hb2⟩
  clear cT fT lT
  replace kT := kT.to hb2
  replace hB1 := bnext hB1 hb2
  replace hA := hA.below hB1 (Nat.le_refl _)
  clear hb2 hw_w1 hv hB
  obtain ⟨cT, fT, lT⟩ := kT.facts
  go_wp2_with fail
  clear cT fT lT
  go_loopw [5, 16] (fun v i wr => ∃ k : Nat, k ≤ 8 ∧ i = .int .i64 k ∧ wr.ownsRow w2.heap.size 3 1 v (frmL ls k).length (iw (frmL ls k)) ∧ Below w2.heap.size w2 wr) (fun _ i _ => 8 - (intOf i).toNat)
  case atStart => exact ⟨0, by omega, rfl, World.ownsRow_nil _ _ _ _, Below.refl _ _⟩
  case round =>
    obtain ⟨k, hk, rfl, hown, hBx⟩ := hrel
    obtain ⟨cT, fT, lT⟩ := (kT.to hBx).facts
    have hfl := frmL_len ls k
    by_cases hlt : k < 8
    · obtain ⟨g, off, z, rfl, hg, hz, hc⟩ := (hA.below hBx (Nat.le_refl _)).numb hlt
      have HS := Lib.hid (frmL_succ ls k (by omega))
      rw [hz] at HS
      by_cases hz1 : z = -1
      · have hz2' : (z != -1) = false := by simp [hz1]
        have HS2 : Hid (frmL ls (k + 1) = frmL ls k) := Lib.hid (by rw [HS.out, if_pos hz1, List.append_nil])
        clear hz1 hz HS
        go_wp2_with fail
        go_roundw
        case rel => exact ⟨k + 1, by omega, by go_num, by rw [HS2.out]; exact hown, hBx⟩
        case measure => simp [intOf]; omega
      · have hz2' : (z != -1) = true := by simp [hz1]
        have HS2 : Hid (frmL ls (k + 1) = frmL ls k ++ [z]) := Lib.hid (by rw [HS.out, if_neg hz1])
        clear hz1 hz HS
        go_wp2_with (first
          | (at_builtin; refine wpList_append_own _ rfl _ _ 23 rfl w2.heap.size 3 i0 (.int .i64 0) 1 8 Tryz.underlying23 hi hz0 hz1 hz2 rfl (by decide) _ _ _ rfl (hown.alloc _) ⟨wr.heap.size, 0, none⟩ 1 1 [.int .i64 z] rfl rfl (cell_one_new _ _ _) (by simp [Value.oneCell']) (by simp only [maxLen]; omega) (by omega) (by have := hBx.size; simp; omega) ?_; intro v' w9 hown' hgrow _))
        have hown2 : w9.ownsRow w2.heap.size 3 1 v' (frmL ls (k + 1)).length (iw (frmL ls (k + 1))) := by
          rw [HS2.out]; simpa [iw] using hown'
        have hBx2 : Below w2.heap.size w2 w9 := (hBx.alloc hBx.size _).grown hgrow (by have := hBx.size; simp; omega) (fun q e => (hown.lt q e).1)
        clear hown' hgrow hown hBx
        go_wp2_with fail
        go_roundw
        case rel => exact ⟨k + 1, by omega, by go_num, hown2, hBx2⟩
        case measure => simp [intOf]; omega
    · obtain rfl : k = 8 := by omega
      by_cases hr1 : r = -1
      · have Hv : Hid (frmA r ls = frmL ls 8) := Lib.hid (by unfold frmA; rw [if_pos hr1, List.append_nil])
        have hr2 : (r != -1) = false := by simp [hr1]
        clear hr1
        go_wp2_with fail
        go_ret2
        exact ⟨_, rfl, by rw [Hv.out]; exact IsV.own hown, bnext hB1 hBx⟩
      · have Hv : Hid (frmA r ls = frmL ls 8 ++ [r]) := Lib.hid (by unfold frmA; rw [if_neg hr1])
        have hr2 : (r != -1) = true := by simp [hr1]
        clear hr1
        go_wp2_with (first
          | (at_builtin; refine wpList_append_own _ rfl _ _ 23 rfl w2.heap.size 3 i0 (.int .i64 0) 1 8 Tryz.underlying23 hi hz0 hz1 hz2 rfl (by decide) _ _ _ rfl (hown.alloc _) ⟨wr.heap.size, 0, none⟩ 1 1 [.int .i64 r] rfl rfl (cell_one_new _ _ _) (by simp [Value.oneCell']) (by simp only [maxLen]; omega) (by omega) (by have := hBx.size; simp; omega) ?_; intro v' w9 hown' hgrow _))
        have hown2 : w9.ownsRow w2.heap.size 3 1 v' (frmL ls 8 ++ [r]).length (iw (frmL ls 8 ++ [r])) := by
          simpa [iw] using hown'
        have hBx2 : Below w2.heap.size w2 w9 := (hBx.alloc hBx.size _).grown hgrow (by have := hBx.size; simp; omega) (fun q e => (hown.lt q e).1)
        clear hown' hgrow hown hBx
        go_wp2_with fail
        go_ret2
        exact ⟨_, rfl, by rw [Hv.out]; exact IsV.own hown2, bnext hB1 hBx2⟩

theorem TFrames_any (r : Int) (ls : List Int) (es : List Nat) (v : Value) (w : World) (hv : TbV w v (r, ls, es)) (hs : wsmall es) (hL : LayOK w) :
    Calls Tryz.prog 34 #[v] w fun e w' => IsRes w w' (frmR r ls es).1 (frmR r ls es).2 e := by
  unfold frmR
  by_cases h : tabE r ls es = 0
  · rw [if_neg (by simp [h])]
    exact TFrames_ok r ls es v w hv hs hL h
  · rw [if_pos h]
    exact TFrames_bad r ls es v w hv hs hL h
end Go.Proofs.YtpkgfkhaiifooaaGreatDoor
/- Page tables: find, Pages, Counts. -/
namespace Go.Proofs.YtpkgfkhaiifooaaGreatDoor
open Go Go.Proofs Go.RowKit
set_option linter.unusedSimpArgs false
set_option linter.unusedVariables false
set_option maxRecDepth 100000

theorem kind_any (x : Nat) (w : World) (hx : x < 18446744073709551616) (hu : unpE x = 0) (hL : LayOK w) :
    Calls Tryz.prog 91 #[.int .u64 x] w fun e w' => e = .returned (.int .i64 (unpK x)) ∧ Below w.heap.size w w' := by
  have hk := Kind_any x w hx hL
  have h3 := unpE_lt4 x hu
  rw [if_neg h3, if_neg h3, ← unpK_eq x hu] at hk
  generalize unpK x = z at hk ⊢
  go_enter Tryz.func91, Tryz.ntmps91
  go_wp2_with (go_at_call 97; refine hk.mono ?_; rintro e w1 ⟨rfl, hb1⟩)
  go_ret
  exact ⟨rfl, hb1⟩
theorem Page_nat (q m : Nat) (w : World) (hq : q < 8) (hm : m < 8) :
    Calls Tryz.prog 109 #[.int .i64 q, .int .i64 m] w fun e w' => e = .returned (.tuple #[.int .i64 ((q * 8 + m : Nat) : Int), .int .i64 0]) ∧ w = w' := by
  have := Page_ok q m w (by omega) (by omega) (by omega) (by omega)
  rwa [show (q : Int) * 8 + (m : Int) = ((q * 8 + m : Nat) : Int) by omega] at this
theorem kinL_len (es : List Nat) (kd : Int) (n : Nat) : (kinL es kd n).length ≤ n := by
  unfold kinL
  have := List.length_filter_le (fun p => unpK (es.getD p 0) == kd) (List.range n)
  simp at this ⊢
  omega
theorem kinL_succ (es : List Nat) (kd : Int) (n : Nat) : kinL es kd (n + 1) = kinL es kd n ++ (if unpK (es.getD n 0) = kd then [(n : Int)] else []) := by
  unfold kinL
  rw [List.range_succ, List.filter_append, List.map_append]
  congr 1
  by_cases h : unpK (es.getD n 0) = kd
  · have : (unpK (es.getD n 0) == kd) = true := by simpa using h
    rw [if_pos h, List.filter_cons_of_pos (by exact this)]
    rfl
  · have : ¬ (unpK (es.getD n 0) == kd) = true := by simpa using h
    rw [if_neg h, List.filter_cons_of_neg (by exact this)]
    rfl
theorem kinL_skip (es : List Nat) (kd : Int) (m n : Nat) (hmn : m ≤ n) (h : ∀ p, m ≤ p → p < n → unpK (es.getD p 0) ≠ kd) : kinL es kd n = kinL es kd m := by
  induction n with
  | zero => rw [show m = 0 by omega]
  | succ n ih =>
    rcases Nat.lt_or_ge m (n + 1) with h1 | h1
    · rw [kinL_succ, if_neg (h n (by omega) (by omega)), List.append_nil]
      exact ih (by omega) fun p h2 h3 => h p h2 (by omega)
    · rw [show m = n + 1 by omega]
theorem getD_small {es : List Nat} (hs : wsmall es) (p : Nat) (hp : p < es.length) : es.getD p 0 < 18446744073709551616 := by
  rw [List.getD_eq_getElem?_getD, List.getElem?_eq_getElem hp]
  exact hs _ (List.getElem_mem hp)

end Go.Proofs.YtpkgfkhaiifooaaGreatDoor
/- Page tables: Pages, Counts. -/
namespace Go.Proofs.YtpkgfkhaiifooaaGreatDoor
open Go Go.Proofs Go.RowKit
set_option linter.unusedSimpArgs false
set_option linter.unusedVariables false
set_option maxRecDepth 100000

end Go.Proofs.YtpkgfkhaiifooaaGreatDoor
/- Page tables: Counts. -/
namespace Go.Proofs.YtpkgfkhaiifooaaGreatDoor
open Go Go.Proofs Go.RowKit
set_option linter.unusedSimpArgs false
set_option linter.unusedVariables false
set_option maxRecDepth 100000

end Go.Proofs.YtpkgfkhaiifooaaGreatDoor
