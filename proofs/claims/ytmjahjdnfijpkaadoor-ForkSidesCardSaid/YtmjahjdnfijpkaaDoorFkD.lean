/- The reference's small functions of chapter 28. -/
import Derived.Test.YtmjahjdnfijpkaaDoorHC
import Derived.Test.YtmjahjdnfijpkaaDoorFkA
import Derived.Test.YtmjahjdnfijpkaaDoorSpR
namespace Go.Proofs.YtmjahjdnfijpkaaDoor
open Go Go.Proofs Go.RowKit
set_option linter.unusedSimpArgs false
set_option linter.unusedVariables false
set_option maxRecDepth 100000

set_option maxHeartbeats 1000000 in
theorem rEnt28_any (rs : List (Int × Int)) (r : Int) (ls : List Int) (es : List Nat) (v : Value) (p : Nat) (w : World) (hv : SpV w v (rs, r, ls, es)) (hs : wsmall es) (hT : tabE r ls es = 0) (hp : p < 64) {k n : Int} {a b c : Bool} (he : entP es p = (k, n, a, b, c)) :
    Calls Tryd.prog 55 #[v, .int .i64 p] w fun e w' => e = .returned (.agg #[.int .i64 k, .int .i64 n, .bool a, .bool b, .bool c]) ∧ Below w.heap.size w w' := by
  obtain ⟨A, cA, L, cl, B, d, rfl, hA, hLs, hB, hcc⟩ := hv
  simp only at hA hLs hB hcc
  unfold spcV
  simp only
  have h64 := (tab_zero hT).2.1
  have hx := getD_small28 hs h64 p hp
  have hu : unpR (es.getD p 0) = ((k, n, a, b, c), 0) := Prod.ext he (unp_in hT p hp)
  rw [h64] at hB ⊢
  obtain ⟨bB, oB, rfl, hcell⟩ := word_at hB h64 hp
  have hlB := World.block_lt_of_cell? _ _ hcell
  have hlB' : bB < w.heap.size := hlB
  have kS := (Bk.new w #[.slice A rs.length cA, .int .i64 r, .slice L ls.length cl, .slice (some ⟨bB, oB, none⟩) 64 d] 28).alloc (.cells #[.int .i64 0, .int .i64 0, .bool false, .bool false, .bool false] 52)
  have kR := Bk.new (w.alloc (.cells #[.slice A rs.length cA, .int .i64 r, .slice L ls.length cl, .slice (some ⟨bB, oB, none⟩) 64 d] 28)) #[.int .i64 0, .int .i64 0, .bool false, .bool false, .bool false] 52
  simp only [World.size_alloc] at kR
  have hB1 := balloc (balloc (Below.refl _ w) (.cells #[.slice A rs.length cA, .int .i64 r, .slice L ls.length cl, .slice (some ⟨bB, oB, none⟩) 64 d] 28)) (.cells #[.int .i64 0, .int .i64 0, .bool false, .bool false, .bool false] 52)
  generalize es.getD p 0 = x at *
  have HU := Lib.hid (fun W => rUnpack_any x W hx)
  rw [hu] at HU
  have hpI : (p : Int) < 64 := by omega
  clear hlB hu h64 he
  obtain ⟨cS, fS, lS⟩ := ((Bk.new w #[.slice A rs.length cA, .int .i64 r, .slice L ls.length cl, .slice (some ⟨bB, oB, none⟩) 64 d] 28).alloc (.cells #[.int .i64 0, .int .i64 0, .bool false, .bool false, .bool false] 52)).facts
  go_enter Tryd.func55, Tryd.ntmps55
  go_wp2_with fail
  refine (HU.out _).mono ?_
  rintro e w2 ⟨rfl, hb2⟩
  have kR2 := (kR.to hb2).alloc (.cells #[.int .i64 k, .int .i64 n, .bool a, .bool b, .bool c] 52)
  have hB2 := balloc (bnext hB1 hb2) (.cells #[.int .i64 k, .int .i64 n, .bool a, .bool b, .bool c] 52)
  have kE := Bk.new w2 #[.int .i64 k, .int .i64 n, .bool a, .bool b, .bool c] 52
  clear cS fS lS
  go_upto_region 2 with fail
  generalize w2.alloc (.cells #[.int .i64 k, .int .i64 n, .bool a, .bool b, .bool c] 52) = w3 at *
  obtain ⟨cE, fE, lE⟩ := kE.facts
  obtain ⟨cR, fR, lR⟩ := kR2.facts
  go_wp2_with fail
  have kF := kR2.put5 (.int .i64 k) (.int .i64 n) (.bool a) (.bool b) (.bool c)
  have hBF := below_put5 hB2 (b := w.heap.size + 1) (by omega) (.int .i64 k) (.int .i64 n) (.bool a) (.bool b) (.bool c)
  exact bodyPost_ret (kF.res1 (P := Tryd.prog) rfl _ rfl (by kernel_rfl) (by kernel_rfl)) rfl ⟨rfl, hBF⟩
theorem rPkd28_any (k n : Int) (a b c : Bool) (x : Nat) (w : World) (h : packR k n a b c = ((x : Int), 0)) :
    Calls Tryd.prog 56 #[.agg #[.int .i64 k, .int .i64 n, .bool a, .bool b, .bool c]] w fun e w' => e = .returned (.int .u64 x) ∧ Below w.heap.size w w' := by
  have kS := Bk.new w #[.int .i64 k, .int .i64 n, .bool a, .bool b, .bool c] 52
  have hB1 := balloc (Below.refl _ w) (.cells #[.int .i64 k, .int .i64 n, .bool a, .bool b, .bool c] 52)
  have HU := Lib.hid (fun W => rPack_any k n a b c W)
  rw [h] at HU
  clear h
  obtain ⟨cS, fS, lS⟩ := kS.facts
  go_enter Tryd.func56, Tryd.ntmps56
  go_wp2_with fail
  refine (HU.out _).mono ?_
  rintro e w2 ⟨rfl, hb2⟩
  clear cS fS lS
  go_wp2_with fail
  go_ret
  exact ⟨rfl, bnext hB1 hb2⟩

set_option maxHeartbeats 1000000 in
theorem rChecked28_any (rs : List (Int × Int)) (r : Int) (ls : List Int) (es : List Nat) (v : Value) (w : World) (hv : SpV w v (rs, r, ls, es)) (hn : rs.length ≤ 1000000) (hs : wsmall es) :
    Calls Tryd.prog 43 #[v] w fun e w' => e = .returned (.int .i64 (rooE (rs, r, ls, es))) ∧ Below w.heap.size w w' := by
  obtain ⟨A, c, L, cl, B, d, hve, hA, hLs, hB, hcc⟩ := id hv
  subst hve
  unfold spcV at hv ⊢
  simp only at hv ⊢ hA hLs hB hcc
  have kS := Bk.new w #[.slice A rs.length c, .int .i64 r, .slice L ls.length cl, .slice B es.length d] 28
  have hB1 := balloc (Below.refl _ w) (.cells #[.slice A rs.length c, .int .i64 r, .slice L ls.length cl, .slice B es.length d] 28)
  have HC := Lib.hid (rSpCheck_any rs r ls es _ _ (hv.to hB1) hn hs)
  obtain ⟨cS, fS, lS⟩ := kS.facts
  by_cases hE : spcE (rs, r, ls, es) = 0
  case neg =>
    have hR : rooE (rs, r, ls, es) = spcE (rs, r, ls, es) := by unfold rooE; rw [orE_l _ hE]
    rw [hR]
    have hd : (spcE (rs, r, ls, es) == 0) = false := by simpa using hE
    generalize spcE (rs, r, ls, es) = z at *
    clear hR hE
    go_enter Tryd.func43, Tryd.ntmps43
    go_wp2_with (go_at_call 28; refine HC.out.mono ?_; rintro e w2 ⟨rfl, hb2⟩; clear cS fS lS; obtain ⟨cS, fS, lS⟩ := (kS.to hb2).facts)
    go_ret
    exact ⟨rfl, bnext hB1 hb2⟩
  have hT := (spc_zero hE).2.1
  simp only at hT
  have hr1 := (tab_zero hT).2.2.1
  have hR : rooE (rs, r, ls, es) = if r = -1 then 9 else 0 := by unfold rooE; rw [orE_r _ hE]
  rw [hR]
  rw [hE] at HC
  clear hR hE hT
  by_cases hr : r = -1
  · rw [if_pos hr]
    have hd : r < 0 := by omega
    have hd2 : decide (r < 0) = true := decide_eq_true hd
    clear hr hr1
    go_enter Tryd.func43, Tryd.ntmps43
    go_wp2_with (go_at_call 28; refine HC.out.mono ?_; rintro e w2 ⟨rfl, hb2⟩; clear cS fS lS; obtain ⟨cS, fS, lS⟩ := (kS.to hb2).facts)
    go_ret
    exact ⟨rfl, bnext hB1 hb2⟩
  · rw [if_neg hr]
    have hd : ¬ r < 0 := by omega
    have hd2 : decide (r < 0) = false := decide_eq_false hd
    clear hr hr1
    go_enter Tryd.func43, Tryd.ntmps43
    go_wp2_with (go_at_call 28; refine HC.out.mono ?_; rintro e w2 ⟨rfl, hb2⟩; clear cS fS lS; obtain ⟨cS, fS, lS⟩ := (kS.to hb2).facts)
    go_ret
    exact ⟨rfl, bnext hB1 hb2⟩

set_option maxHeartbeats 1000000 in
theorem rneeds28_any (rs : List (Int × Int)) (r : Int) (ls : List Int) (es : List Nat) (v : Value) (w : World) (hv : SpV w v (rs, r, ls, es)) (hT : tabE r ls es = 0) :
    Calls Tryd.prog 44 #[v] w fun e w' => e = .returned (.int .i64 (neeN ls)) ∧ Below w.heap.size w w' := by
  obtain ⟨A, c, L, cl, B, d, hve, hA, hLs, hB, hcc⟩ := id hv
  subst hve
  unfold spcV at hv ⊢
  simp only at hv ⊢ hA hLs hB hcc
  have h8 := (tab_zero hT).1
  have hll := (tab_zero hT).2.2.2.1
  have kS := Bk.new w #[.slice A rs.length c, .int .i64 r, .slice L ls.length cl, .slice B es.length d] 28
  have hB1 := balloc (Below.refl _ w) (.cells #[.slice A rs.length c, .int .i64 r, .slice L ls.length cl, .slice B es.length d] 28)
  rw [h8] at kS hLs hB1 ⊢
  have HL8 := Lib.hid h8
  have HLL := Lib.hid hll
  have HNE := Lib.hid (show neeN ls = 1 + (frmL ls 8).length from rfl)
  have hLs1 := hLs.below hB1 (Nat.le_refl _)
  generalize neeN ls = N at *
  clear hT h8 hll hv
  generalize hw1 : w.alloc (.cells #[.slice A rs.length c, .int .i64 r, .slice L 8 cl, .slice B es.length d] 28) = w1 at *
  go_enter Tryd.func44, Tryd.ntmps44
  go_wp2_with fail
  clear hw1
  go_loopw [3, 4] (fun v i wr => ∃ k : Nat, k ≤ 8 ∧ i = .int .i64 k ∧ v = .int .i64 (1 + ((frmL ls k).length : Int)) ∧ Below w1.heap.size w1 wr) (fun _ i _ => 8 - (intOf i).toNat)
  case atStart => exact ⟨0, by omega, rfl, rfl, Below.refl _ _⟩
  case round =>
    obtain ⟨k, hk, rfl, rfl, hBx⟩ := hrel
    have hfl := frmL_len ls k
    obtain ⟨cS, fS, lS⟩ := (kS.to hBx).facts
    by_cases hlt : k < 8
    · obtain ⟨g, off, z, rfl, hg, hz, hc⟩ := (hLs1.below hBx (Nat.le_refl _)).numb hlt
      have HS := Lib.hid (cnt_succ ls HL8.out k hlt)
      have hzr := HLL.out k hlt
      rw [hz] at HS hzr
      have hkI : (k : Int) < 8 := by omega
      by_cases hz1 : z = -1
      · have hz2 : ¬ 0 ≤ z := by omega
        have hz3 : decide (0 ≤ z) = false := decide_eq_false hz2
        have HS2 : Hid ((frmL ls (k + 1)).length = (frmL ls k).length) := Lib.hid (by rw [HS.out, if_pos hz1, Nat.add_zero])
        clear hz1 hz HS hzr
        go_wp2_with fail
        go_roundw
        case rel => exact ⟨k + 1, by omega, by go_num, by rw [HS2.out], hBx⟩
        case measure => simp [intOf]; omega
      · have hz2 : 0 ≤ z := by omega
        have hz3 : decide (0 ≤ z) = true := decide_eq_true hz2
        have HS2 : Hid ((frmL ls (k + 1)).length = (frmL ls k).length + 1) := Lib.hid (by rw [HS.out, if_neg hz1])
        clear hz1 hz HS hzr
        generalize hm : (frmL ls k).length = m at *
        have HM := Lib.hid hm
        clear hm
        go_wp2_with fail
        go_roundw
        case rel => exact ⟨k + 1, by omega, by go_num, by rw [HS2.out]; first | (congr 1; done) | (congr 1; push_cast; omega), hBx⟩
        case measure => simp [intOf]; omega
    · obtain rfl : k = 8 := by omega
      go_wp2_with fail
      go_ret
      exact ⟨by rw [HNE.out]; push_cast; rfl, bnext hB1 hBx⟩
end Go.Proofs.YtmjahjdnfijpkaaDoor
