/- fork.Shared: the frames and the slots of the entries. -/
import Derived.Test.YtmjahjdnfijpkaaDoorHC
import Derived.Test.YtmjahjdnfijpkaaDoorHN
import Derived.Maps.AppendAt
namespace Go.Proofs.YtmjahjdnfijpkaaDoor
open Go Go.Proofs Go.RowKit
set_option linter.unusedSimpArgs false
set_option linter.unusedVariables false
set_option maxRecDepth 100000

theorem nums_yes {es : List Nat} {kd : Int} {k : Nat} (h : (entP es k).1 = kd) : numL es kd (k + 1) = numL es kd k ++ [(entP es k).2.1] := by
  unfold numL
  rw [List.range_succ, List.filter_append, List.map_append]
  simp [List.filter, h]
theorem nums_no {es : List Nat} {kd : Int} {k : Nat} (h : (entP es k).1 ≠ kd) : numL es kd (k + 1) = numL es kd k := by
  unfold numL
  rw [List.range_succ, List.filter_append, List.map_append]
  simp [List.filter, h]
theorem nums_len (es : List Nat) (kd : Int) (k : Nat) : (numL es kd k).length ≤ k := by
  unfold numL
  rw [List.length_map]
  simpa using List.length_filter_le (fun p => decide ((entP es p).1 = kd)) (List.range k)
/-- Where a row lies. -/
def VLoc (lo : Nat) (v : Value) : Prop := ∀ A n c, v = .slice A n c → ∀ b off, 0 < n → A = some ⟨b, off, none⟩ → lo ≤ b
theorem VLoc.nil (lo : Nat) : VLoc lo (.slice none 0 0) := fun A n c e b off h0 => by injection e with e1 e2 e3; omega
theorem VLoc.own {w : World} {B lo n : Nat} {e : TypeId} {sz : Nat} {v : Value} {xs : List Value} (h : w.ownsRow B e sz v n xs) (hl : lo ≤ B) : VLoc lo v := fun A m c e b off h0 ha => by
  subst e
  have := own_loc h b off h0 ha
  omega
/-- Two lists and an error as results, in new memory. -/
def Is2 (w w' : World) (xs ys : List Int) (er : Int) (e : Ending) : Prop := ∃ v u, e = .returned (.tuple #[v, u, .int .i64 er]) ∧ IsV w' v xs ∧ IsV w' u ys ∧ VLoc w.heap.size v ∧ Below w.heap.size w w'
/-- Two rows of ints beside one another. -/
structure TwoI (B : Nat) (wr : World) (v1 v2 : Value) (xs ys : List Int) : Prop where
  a : wr.ownsRow B 3 1 v1 xs.length (iw xs)
  b : wr.ownsRow B 3 1 v2 ys.length (iw ys)
  ne : ∀ g, v1.ownBlock = some g → v2.ownBlock ≠ some g
theorem TwoI.alloc {B : Nat} {w : World} {v1 v2 : Value} {xs ys : List Int} (h : TwoI B w v1 v2 xs ys) (o : Obj) : TwoI B (w.alloc o) v1 v2 xs ys := ⟨h.a.alloc o, h.b.alloc o, h.ne⟩
theorem TwoI.to {B : Nat} {w w' : World} {v1 v2 : Value} {xs ys : List Int} (h : TwoI B w v1 v2 xs ys) (hb : Below w.heap.size w w') : TwoI B w' v1 v2 xs ys := ⟨own_below h.a hb, own_below h.b hb, h.ne⟩
theorem TwoI.nil (B : Nat) (w : World) : TwoI B w (.slice none 0 0) (.slice none 0 0) [] [] := ⟨World.ownsRow_nil _ _ _ _, World.ownsRow_nil _ _ _ _, fun g h => by cases h⟩
theorem TwoI.app2 {B : Nat} {w w' : World} {v1 v2 v' : Value} {xs ys : List Int} {z : Int} (h : TwoI B w v1 v2 xs ys) (hg : w.grownBy w' v2.ownBlock) (hown : w'.ownsRow B 3 1 v' (ys.length + 1) (iw ys ++ [.int .i64 z])) (hl : v'.ownBlock = v2.ownBlock ∨ v'.ownBlock = some w.heap.size) : TwoI B w' v1 v' xs (ys ++ [z]) := by
  refine ⟨h.a.kept hg ?_, ?_, fun g e e' => ?_⟩
  · rcases hv : v1.ownBlock with _ | g
    · exact .inl rfl
    · exact .inr (fun e => h.ne g hv e.symm)
  · rw [List.length_append]
    simpa [iw] using hown
  · rcases hl with hl | hl
    · exact h.ne g e (by rw [← hl]; exact e')
    · rw [hl] at e'
      injection e' with e'
      have := (h.a.lt g e).2
      omega
theorem TwoI.app1 {B : Nat} {w w' : World} {v1 v2 v' : Value} {xs ys : List Int} {z : Int} (h : TwoI B w v1 v2 xs ys) (hg : w.grownBy w' v1.ownBlock) (hown : w'.ownsRow B 3 1 v' (xs.length + 1) (iw xs ++ [.int .i64 z])) (hl : v'.ownBlock = v1.ownBlock ∨ v'.ownBlock = some w.heap.size) : TwoI B w' v' v2 (xs ++ [z]) ys := by
  refine ⟨?_, h.b.kept hg ?_, fun g e e' => ?_⟩
  · rw [List.length_append]
    simpa [iw] using hown
  · rcases hv : v2.ownBlock with _ | g
    · exact .inl rfl
    · exact .inr (fun e => h.ne g e.symm hv)
  · rcases hl with hl | hl
    · exact h.ne g (by rw [← hl]; exact e) e'
    · rw [hl] at e
      injection e with e
      have := (h.b.lt g e').2
      omega
/-- What a round of Shared keeps. -/
def ShaI (es : List Nat) (w2 : World) (v u i : Value) (wr : World) : Prop := ∃ k : Nat, k ≤ 64 ∧ i = .int .i64 k ∧ TwoI w2.heap.size wr v u (numL es 1 k) (numL es 2 k) ∧ Below w2.heap.size w2 wr

set_option maxHeartbeats 4000000 in
theorem fShared_any (rs : List (Int × Int)) (r : Int) (ls : List Int) (es : List Nat) (v : Value) (w : World) (hv : SpV w v (rs, r, ls, es)) (hn : rs.length ≤ 1000000) (hs : wsmall es) (hL : LayOK w) :
    Calls Tryd.prog 19 #[v] w fun e w' => Is2 w w' (shaR (rs, r, ls, es)).1 (shaR (rs, r, ls, es)).2.1 (shaR (rs, r, ls, es)).2.2 e := by
  obtain ⟨A, c, L, cl, B, d, hve, hA, hLs, hB, hcc⟩ := id hv
  subst hve
  unfold spcV at hv ⊢
  simp only at hv ⊢ hA hLs hB hcc
  have kS := Bk.new w #[.slice A rs.length c, .int .i64 r, .slice L ls.length cl, .slice B es.length d] 28
  have hB1 := balloc (Below.refl _ w) (.cells #[.slice A rs.length c, .int .i64 r, .slice L ls.length cl, .slice B es.length d] 28)
  have HC := Lib.hid (spCheck_any rs r ls es _ _ (hv.to hB1) hn hs (hL.below hB1))
  obtain ⟨cS, fS, lS⟩ := kS.facts
  by_cases hE : spcE (rs, r, ls, es) = 0
  case neg =>
    have hR : shaR (rs, r, ls, es) = ([], [], spcE (rs, r, ls, es)) := by unfold shaR; rw [if_pos hE]
    rw [hR]
    have hd : (spcE (rs, r, ls, es) != 0) = true := by simpa using hE
    generalize spcE (rs, r, ls, es) = z at *
    clear hR hE
    go_enter Tryd.func19, Tryd.ntmps19
    go_wp2_with (go_at_call 59; refine HC.out.mono ?_; rintro e w2 ⟨rfl, hb2⟩)
    go_ret3
    exact ⟨_, _, rfl, IsV.nil _, IsV.nil _, VLoc.nil _, bnext hB1 hb2⟩
  have hR : shaR (rs, r, ls, es) = (numL es 1 64, numL es 2 64, 0) := by unfold shaR; rw [if_neg (by simpa using hE)]
  rw [hR]
  have hT := (spc_zero hE).2.1
  simp only at hT
  have hEn := fun W h1 h2 => fEntries_any rs r ls es _ W (h1 : SpV W (.agg #[.slice A rs.length c, .int .i64 r, .slice L ls.length cl, .slice B es.length d]) (rs, r, ls, es)) hs h2 hT
  have HEn := Lib.hid hEn
  rw [hE] at HC
  clear hR hE hEn hT
  obtain ⟨i0, hi, hz0, hz1, hz2⟩ := info_parts infoInt
  go_enter Tryd.func19, Tryd.ntmps19
  go_wp2_with fail
  refine HC.out.mono ?_
  rintro e w2 ⟨rfl, hb2⟩
  clear cS fS lS
  replace kS := kS.to hb2
  replace hB1 := bnext hB1 hb2
  replace hv := hv.to hB1
  replace hL := hL.below hB1
  clear hb2
  obtain ⟨cS, fS, lS⟩ := kS.facts
  go_wp2_with fail
  refine (HEn.out _ hv hL).mono ?_
  rintro e w3 ⟨rfl, hb3⟩
  replace hB1 := bnext hB1 hb3
  have HIx : Hid (∀ (k : Nat) (a b : Int) (c d f : Bool), k < 64 → entP es k = (a, b, c, d, f) → ∀ W : World, (Instr.index 86 (.agg (enW (entL es)).toArray) (.int .i64 k)).run Tryd.prog W = .ok (.agg #[.int .i64 a, .int .i64 b, .bool c, .bool d, .bool f]) W) := Lib.hid (fun k a b c d f hk he => idx_hyp es hk he)
  generalize (enW (entL es)).toArray = X at *
  clear cS fS lS hb3 kS hv hL HEn HC
  go_wp2_with fail
  go_loopw [2, 3, 15] (fun v u i wr => ShaI es w3 v u i wr) (fun _ _ i _ => 64 - (intOf i).toNat)
  case atStart => exact ⟨0, by omega, rfl, TwoI.nil _ _, Below.refl _ _⟩
  case round =>
    obtain ⟨k, hk, rfl, TW, hBx⟩ := hrel
    by_cases hlt : k < 64
    · have hkI : (k : Int) < 64 := by omega
      rcases hee : entP es k with ⟨a1, b1, c1, d1, f1⟩
      have hix := HIx.out k a1 b1 c1 d1 f1 hlt hee
      have y1 := nums_yes (es := es) (kd := 1) (k := k)
      have n1 := nums_no (es := es) (kd := 1) (k := k)
      have y2 := nums_yes (es := es) (kd := 2) (k := k)
      have n2 := nums_no (es := es) (kd := 2) (k := k)
      have l1 := nums_len es 1 k
      have l2 := nums_len es 2 k
      rw [hee] at y1 n1 y2 n2
      simp only at y1 n1 y2 n2
      have hsz := hBx.size
      have kE := Bk.new wr #[.int .i64 a1, .int .i64 b1, .bool c1, .bool d1, .bool f1] 52
      have TW2 := TW.alloc (.cells #[.int .i64 a1, .int .i64 b1, .bool c1, .bool d1, .bool f1] 52)
      have hBx2 := hBx.alloc hsz (.cells #[.int .i64 a1, .int .i64 b1, .bool c1, .bool d1, .bool f1] 52)
      clear hee TW hBx HIx
      by_cases ha : a1 = 1
      · have H1 := Lib.hid (y1 ha)
        have H2 := Lib.hid (n2 (by omega))
        subst ha
        clear y1 y2 n1 n2
        go_upto_region 7 with fail
        generalize wr.alloc (.cells #[.int .i64 1, .int .i64 b1, .bool c1, .bool d1, .bool f1] 52) = w4 at *
        obtain ⟨cE, fE, lE⟩ := kE.facts
        clear hix
        go_wp2_with (at_builtin; refine wpList_append_own_at _ rfl _ _ 23 rfl w3.heap.size 3 i0 (.int .i64 0) 1 8 Tryd.underlying23 hi hz0 hz1 hz2 rfl (by decide) _ _ (iw (numL es 1 k)) rfl (TW2.a.alloc _) ⟨w4.heap.size, 0, none⟩ 1 1 [.int .i64 b1] rfl rfl (cell_one_new _ _ _) (by simp [Value.oneCell']) (by simp only [maxLen]; omega) (by omega) (by have := hBx2.size; simp; omega) ?_; intro v6 w6 hown6 hgr6 _ hloc6; have TW6 := (TW2.alloc _).app1 hgr6 hown6 hloc6; have B6 := (hBx2.alloc hBx2.size _).grown hgr6 (by have := hBx2.size; simp; omega) (fun k e => (TW2.a.lt k e).1); clear hown6 hgr6 hloc6)
        go_roundw
        case rel => exact ⟨k + 1, by omega, by go_num, by rw [H1.out, H2.out]; exact TW6, B6⟩
        case measure => simp [intOf]; omega
      by_cases ha2 : a1 = 2
      · have H1 := Lib.hid (n1 ha)
        have H2 := Lib.hid (y2 ha2)
        subst ha2
        clear y1 y2 n1 n2
        go_upto_region 7 with fail
        generalize wr.alloc (.cells #[.int .i64 2, .int .i64 b1, .bool c1, .bool d1, .bool f1] 52) = w4 at *
        obtain ⟨cE, fE, lE⟩ := kE.facts
        clear hix
        go_wp2_with (at_builtin; refine wpList_append_own_at _ rfl _ _ 23 rfl w3.heap.size 3 i0 (.int .i64 0) 1 8 Tryd.underlying23 hi hz0 hz1 hz2 rfl (by decide) _ _ (iw (numL es 2 k)) rfl (TW2.b.alloc _) ⟨w4.heap.size, 0, none⟩ 1 1 [.int .i64 b1] rfl rfl (cell_one_new _ _ _) (by simp [Value.oneCell']) (by simp only [maxLen]; omega) (by omega) (by have := hBx2.size; simp; omega) ?_; intro v6 w6 hown6 hgr6 _ hloc6; have TW6 := (TW2.alloc _).app2 hgr6 hown6 hloc6; have B6 := (hBx2.alloc hBx2.size _).grown hgr6 (by have := hBx2.size; simp; omega) (fun k e => (TW2.b.lt k e).1); clear hown6 hgr6 hloc6)
        go_roundw
        case rel => exact ⟨k + 1, by omega, by go_num, by rw [H1.out, H2.out]; exact TW6, B6⟩
        case measure => simp [intOf]; omega
      · have H1 := Lib.hid (n1 ha)
        have H2 := Lib.hid (n2 ha2)
        have hd1 : (a1 == 1) = false := by simpa using ha
        have hd2 : (a1 == 2) = false := by simpa using ha2
        clear y1 y2 n1 n2 ha ha2
        go_upto_region 7 with fail
        generalize wr.alloc (.cells #[.int .i64 a1, .int .i64 b1, .bool c1, .bool d1, .bool f1] 52) = w4 at *
        obtain ⟨cE, fE, lE⟩ := kE.facts
        clear hix
        go_wp2_with fail
        go_roundw
        case rel => exact ⟨k + 1, by omega, by go_num, by rw [H1.out, H2.out]; exact TW2, hBx2⟩
        case measure => simp [intOf]; omega
    · obtain rfl : k = 64 := by omega
      go_wp2_with fail
      go_ret3
      exact ⟨_, _, rfl, IsV.own TW.a, IsV.own TW.b, VLoc.own TW.a hB1.size, hB1.trans (hBx.mono hB1.size)⟩
end Go.Proofs.YtmjahjdnfijpkaaDoor
