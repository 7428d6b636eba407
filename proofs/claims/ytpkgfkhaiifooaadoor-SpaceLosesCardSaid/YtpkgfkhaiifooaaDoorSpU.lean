/- What the reference of chapter 27 returns: owner, Owner. -/
import Derived.Test.YtpkgfkhaiifooaaDoorSpR
import Derived.Test.YtpkgfkhaiifooaaDoorGY
namespace Go.Proofs.YtpkgfkhaiifooaaDoor
open Go Go.Proofs Go.RowKit
set_option linter.unusedSimpArgs false
set_option linter.unusedVariables false
set_option maxRecDepth 100000

theorem ownL_yes {es : List Nat} {frame : Int} {k : Nat} (h : ownB es frame k = true) : ownL es frame (k + 1) = ownL es frame k ++ [(k : Int)] := by
  unfold ownL
  rw [List.range_succ, List.filter_append, List.map_append]
  simp [List.filter, h]
theorem ownL_no {es : List Nat} {frame : Int} {k : Nat} (h : ownB es frame k = false) : ownL es frame (k + 1) = ownL es frame k := by
  unfold ownL
  rw [List.range_succ, List.filter_append, List.map_append]
  simp [List.filter, h]
theorem ownL_len (es : List Nat) (frame : Int) (k : Nat) : (ownL es frame k).length ≤ k := by
  unfold ownL
  rw [List.length_map]
  simpa using List.length_filter_le (ownB es frame) (List.range k)
/-- Ints as a result, in new memory. -/
def IsL (w w' : World) (zs : List Int) (e : Ending) : Prop := ∃ v, e = .returned v ∧ IsV w' v zs ∧ Below w.heap.size w w'
set_option maxHeartbeats 4000000 in
theorem rowner_any (rs : List (Int × Int)) (r : Int) (ls : List Int) (es : List Nat) (v : Value) (frame : Int) (w : World) (hv : SpV w v (rs, r, ls, es)) (hs : wsmall es) (hT : tabE r ls es = 0) :
    Calls Tryd.prog 59 #[v, .int .i64 frame] w fun e w' => IsL w w' (ownL es frame 64) e := by
  obtain ⟨A, c, L, cl, B, d, rfl, hA, hLs, hB, hcc⟩ := hv
  simp only at hA hLs hB hcc
  unfold spcV
  simp only
  have kS := Bk.new w #[.slice A rs.length c, .int .i64 r, .slice L ls.length cl, .slice B es.length d] 28
  have hB1 := balloc (Below.refl _ w) (.cells #[.slice A rs.length c, .int .i64 r, .slice L ls.length cl, .slice B es.length d] 28)
  generalize hw1 : w.alloc (.cells #[.slice A rs.length c, .int .i64 r, .slice L ls.length cl, .slice B es.length d] 28) = w1 at *
  have hT1 : TbV w1 (.agg #[.int .i64 r, .slice L ls.length cl, .slice B es.length d]) (r, ls, es) := tbv_of (hLs.below hB1 (Nat.le_refl _)) (hB.below hB1 (Nat.le_refl _)) hcc
  obtain ⟨i0, hi, hz0, hz1, hz2⟩ := info_parts infoInt
  go_enter Tryd.func59, Tryd.ntmps59
  go_wp2_with fail
  clear hw1
  go_loopw [5, 6] (fun v i wr => ∃ k : Nat, k ≤ 64 ∧ i = .int .i64 k ∧ wr.ownsRow w1.heap.size 3 1 v (ownL es frame k).length (iw (ownL es frame k)) ∧ Below w1.heap.size w1 wr) (fun _ i _ => 64 - (intOf i).toNat)
  case atStart => exact ⟨0, by omega, rfl, World.ownsRow_nil _ _ _ _, Below.refl _ _⟩
  case round =>
    obtain ⟨k, hk, rfl, hown, hBx⟩ := hrel
    obtain ⟨cS, fS, lS⟩ := (kS.to hBx).facts
    have hkl := ownL_len es frame k
    by_cases hlt : k < 64
    · have hkI : (k : Int) < 64 := by omega
      have HG := Lib.hid (fun W h => rGet_any r ls es (.agg #[.int .i64 r, .slice L ls.length cl, .slice B es.length d]) k W h hs)
      rw [get_in hT k hlt] at HG
      have her := unp_in hT k hlt
      rcases hu : unpR (es.getD k 0) with ⟨⟨ek, en, ea, eb, ec⟩, er⟩
      have hee : entP es k = (ek, en, ea, eb, ec) := by unfold entP; rw [hu]
      have HY := Lib.hid (fun h => ownL_yes (es := es) (frame := frame) (k := k) h)
      have HN := Lib.hid (fun h => ownL_no (es := es) (frame := frame) (k := k) h)
      rw [ownB_of (frame := frame) hee] at HY HN
      rw [hu] at HG her
      simp only at her HG
      subst her
      clear hu hee
      have hTr := hT1.to hBx
      by_cases hk1 : ek = 1
      case neg =>
        have d1 : (ek == 1) = false := by simpa using hk1
        rw [show decide (ek = 1) = false from decide_eq_false hk1, Bool.false_and] at HN
        have HS2 := Lib.hid (HN.out (by trivial))
        clear hk1 HY HN
        go_wp2_with (go_at_call 62; refine (HG.out _ hTr).mono ?_; rintro e w3 ⟨rfl, hb3⟩)
        go_roundw
        case rel => exact ⟨k + 1, by omega, by go_num, by rw [HS2.out]; exact (own_below hown hb3).alloc _, balloc (bnext hBx hb3) _⟩
        case measure => simp [intOf]; omega
      by_cases hn1 : en = frame
      case neg =>
        subst hk1
        have d1 : (en == frame) = false := by simpa using hn1
        rw [show decide (en = frame) = false from decide_eq_false hn1, Bool.and_false] at HN
        have HS2 := Lib.hid (HN.out (by trivial))
        clear hn1 HY HN
        go_wp2_with (go_at_call 62; refine (HG.out _ hTr).mono ?_; rintro e w3 ⟨rfl, hb3⟩)
        go_roundw
        case rel => exact ⟨k + 1, by omega, by go_num, by rw [HS2.out]; exact (own_below hown hb3).alloc _, balloc (bnext hBx hb3) _⟩
        case measure => simp [intOf]; omega
      subst hk1 hn1
      rw [show (decide ((1 : Int) = 1) && decide (en = en)) = true by simp] at HY
      have HS2 := Lib.hid (HY.out rfl)
      clear HY HN
      go_wp2_with (first
        | (go_at_call 62; refine (HG.out _ hTr).mono ?_; rintro e w3 ⟨rfl, hb3⟩; obtain ⟨w8, hw8⟩ : ∃ w8, w8 = w3.alloc (.cells #[.int .i64 1, .int .i64 en, .bool ea, .bool eb, .bool ec] 38) := ⟨_, rfl⟩; have hown8 : w8.ownsRow _ _ _ _ _ _ := (by rw [hw8]; exact (own_below hown hb3).alloc _); have hBx8 : Below w1.heap.size w1 w8 := (by rw [hw8]; exact balloc (bnext hBx hb3) _); have k8 := Bk.new w3 #[.int .i64 1, .int .i64 en, .bool ea, .bool eb, .bool ec] 38; rw [← hw8] at k8; obtain ⟨c8, f8, l8⟩ := k8.facts; replace hw8 := hw8.symm)
        | (at_builtin; refine wpList_append_own _ rfl _ _ 22 rfl w1.heap.size 3 i0 (.int .i64 0) 1 8 Tryd.underlying22 hi hz0 hz1 hz2 rfl (by decide) _ _ _ rfl (hown8.alloc _) ⟨w8.heap.size, 0, none⟩ 1 1 [.int .i64 k] rfl rfl (cell_one_new _ _ _) (by simp [Value.oneCell']) (by simp only [maxLen]; omega) (by omega) (by have := hBx8.size; simp; omega) ?_; intro v' w9 hown' hgrow _))
      have hown2 : w9.ownsRow w1.heap.size 3 1 v' (ownL es en (k + 1)).length (iw (ownL es en (k + 1))) := by
        rw [HS2.out]; simpa [iw] using hown'
      have hBx2 : Below w1.heap.size w1 w9 := (hBx8.alloc hBx8.size _).grown hgrow (by have := hBx8.size; simp; omega) (fun q e => (hown8.lt q e).1)
      clear hown' hgrow hown8 hown hBx8 hBx
      go_wp2_with fail
      go_roundw
      case rel => first | exact ⟨k + 1, by omega, by go_num, hown2, hBx2⟩ | ((repeat apply Exists.intro); exact ⟨⟨k + 1, by omega, by go_num, hown2, hBx2⟩, rfl⟩)
      case measure => simp [intOf]; omega
    · obtain rfl : k = 64 := by omega
      go_wp2_with fail
      go_ret
      exact ⟨_, rfl, IsV.own hown, bnext hB1 hBx⟩

set_option maxHeartbeats 4000000 in
theorem rOwner_any (rs : List (Int × Int)) (r : Int) (ls : List Int) (es : List Nat) (v : Value) (frame : Int) (w : World) (hv : SpV w v (rs, r, ls, es)) (hn : rs.length ≤ 1000000) (hs : wsmall es) :
    Calls Tryd.prog 26 #[v, .int .i64 frame] w fun e w' => IsRes w w' (ownR (rs, r, ls, es) frame).1 (ownR (rs, r, ls, es) frame).2 e := by
  obtain ⟨A, c, L, cl, B, d, hve, hA, hLs, hB, hcc⟩ := id hv
  subst hve
  unfold spcV at hv ⊢
  simp only at hv ⊢ hA hLs hB hcc
  have kS := Bk.new w #[.slice A rs.length c, .int .i64 r, .slice L ls.length cl, .slice B es.length d] 28
  have hB1 := balloc (Below.refl _ w) (.cells #[.slice A rs.length c, .int .i64 r, .slice L ls.length cl, .slice B es.length d] 28)
  generalize hw1 : w.alloc (.cells #[.slice A rs.length c, .int .i64 r, .slice L ls.length cl, .slice B es.length d] 28) = w1 at *
  have HC := Lib.hid (rSpCheck_any rs r ls es _ _ (hv.to hB1) hn hs)
  obtain ⟨cS, fS, lS⟩ := kS.facts
  by_cases hE : spcE (rs, r, ls, es) = 0
  case neg =>
    have hR : ownR (rs, r, ls, es) frame = ([], spcE (rs, r, ls, es)) := by unfold ownR; rw [if_pos hE]
    rw [hR]
    have hd : (spcE (rs, r, ls, es) != 0) = true := by simpa using hE
    generalize spcE (rs, r, ls, es) = z at *
    clear hR hE
    go_enter Tryd.func26, Tryd.ntmps26
    go_wp2_with (go_at_call 24; refine HC.out.mono ?_; rintro e w2 ⟨rfl, hb2⟩)
    go_ret2
    exact ⟨_, rfl, IsV.nil _, bnext hB1 hb2⟩
  obtain ⟨_, hT, _⟩ := spc_zero hE
  simp only at hT
  rw [hE] at HC
  by_cases hfr : frame < 0 ∨ 255 < frame
  · have hR : ownR (rs, r, ls, es) frame = ([], 2) := by unfold ownR; rw [if_neg (by simpa using hE), if_pos hfr]
    rw [hR]
    have hcs : frame < 0 ∨ (¬ frame < 0 ∧ 256 ≤ frame) := by omega
    clear hR hE hfr hT
    rcases hcs with h1 | ⟨h1, h2⟩
    all_goals
      go_enter Tryd.func26, Tryd.ntmps26
      go_wp2_with (go_at_call 24; refine HC.out.mono ?_; rintro e w2 ⟨rfl, hb2⟩)
      go_ret2
      exact ⟨_, rfl, IsV.nil _, bnext hB1 hb2⟩
  have hR : ownR (rs, r, ls, es) frame = (ownL es frame 64, 0) := by unfold ownR; rw [if_neg (by simpa using hE), if_neg hfr]
  rw [hR]
  have h1 : ¬ frame < 0 := by omega
  have h2 : ¬ 256 ≤ frame := by omega
  have HO := Lib.hid (fun v W h => rowner_any rs r ls es v frame W h hs hT)
  clear hR hE hfr hT
  go_enter Tryd.func26, Tryd.ntmps26
  go_wp2_with (first
    | (go_at_call 24; refine HC.out.mono ?_; rintro e w2 ⟨rfl, hb2⟩; clear cS fS lS; obtain ⟨cS, fS, lS⟩ := (kS.to hb2).facts)
    | (go_at_call 59; refine (HO.out _ _ ((hv.to hB1).to hb2)).mono ?_; rintro e w3 ⟨v3, rfl, hv3, hb3⟩))
  go_ret2
  exact ⟨_, rfl, hv3, bnext (bnext hB1 hb2) hb3⟩
end Go.Proofs.YtpkgfkhaiifooaaDoor
