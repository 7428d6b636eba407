/- Several texts in one. -/
import Derived.Test.YtmjahjdnfijpkaaDoorHE
import Derived.Test.YtmjahjdnfijpkaaDoorFkT
import Derived.Test.YtmjahjdnfijpkaaDoorMadeP
import Derived.Test.YtmjahjdnfijpkaaDoorFkB
import Derived.Test.YtmjahjdnfijpkaaDoorFkL
import Derived.Test.YtmjahjdnfijpkaaDoorHG
import Derived.Test.YtmjahjdnfijpkaaDoorRgR
import Derived.Deep.RegionHeld3
/- Address spaces made of numbers, chapter 28: plain facts. -/
namespace Go.Proofs.YtmjahjdnfijpkaaDoor
open Go Go.Proofs Go.RowKit
set_option linter.unusedSimpArgs false
set_option linter.unusedVariables false

/-- What holds behind i numbers. -/
structure MdI (rs : List (Int × Int)) (ls : List Int) (es : List Nat) (i : Nat) : Prop where
  l8 : ls.length = 8
  h64 : es.length = 64
  lf : ∀ j : Nat, j < 8 → ls.getD j 0 = -1 ∨ ls.getD j 0 = 11 + (j : Int)
  un : ∀ p, p < 64 → unpE (es.getD p 0) = 0
  ou : ∀ p, p < 64 → es.getD p 0 % 4 ≠ 0 → ls.getD (p / 8) 0 ≠ -1 ∧ hasP rs p = true
  nm : ∀ p, p < 64 → (entP es p).1 = 1 → 20 ≤ (entP es p).2.1 ∧ (entP es p).2.1 < 20 + (i : Int)
  nd : NumD es
  sm : wsmall es
theorem wz_at (p : Nat) (hp : p < 64) : wz.getD p 0 = 0 := by
  unfold wz
  rw [List.getD_eq_getElem?_getD, List.getElem?_replicate, if_pos hp]
  rfl
theorem MdI.zero (rs : List (Int × Int)) : MdI rs (List.replicate 8 (-1)) wz 0 where
  l8 := rfl
  h64 := wz_len
  lf := fun j hj => .inl (by rw [List.getD_eq_getElem?_getD, List.getElem?_replicate, if_pos hj]; rfl)
  un := fun p hp => by rw [wz_at p hp]; decide
  ou := fun p hp h => by rw [wz_at p hp] at h; exact absurd rfl h
  nm := fun p hp h => by
    unfold entP at h
    rw [wz_at p hp] at h
    exact absurd h (by decide)
  nd := fun p q hp hq hne h => by
    unfold entP at h
    rw [wz_at p hp] at h
    exact absurd h (by decide)
  sm := fun x hx => by
    unfold wz at hx
    have := List.eq_of_mem_replicate hx
    omega
variable {rs : List (Int × Int)} {ls : List Int} {es : List Nat} {i : Nat}
theorem MdI.mono (h : MdI rs ls es i) : MdI rs ls es (i + 1) :=
  ⟨h.l8, h.h64, h.lf, h.un, h.ou, fun p hp hk => by have := h.nm p hp hk; omega, h.nd, h.sm⟩
theorem setI_at (ls : List Int) (j : Nat) (z : Int) (k : Nat) (hj : j < ls.length) : (ls.set j z).getD k 0 = if k = j then z else ls.getD k 0 := by
  rw [List.getD_eq_getElem?_getD, List.getElem?_set, List.getD_eq_getElem?_getD]
  by_cases h : j = k
  · subst h
    rw [if_pos rfl, if_pos hj, if_pos rfl]
    rfl
  · rw [if_neg h, if_neg (fun e => h e.symm)]
theorem MdI.step (h : MdI rs ls es i) {p : Nat} (hp : p < 64) (hh : hasP rs p = true) {k n : Int} {a b c : Bool} {x : Nat} (hx : packR k n a b c = ((x : Int), 0)) (hn : k = 1 → n = 20 + (i : Int)) : MdI rs (ls.set (p / 8) (11 + ((p / 8 : Nat) : Int))) (es.set p x) (i + 1) := by
  obtain ⟨u1, u2, u3, u4⟩ := unpE_pack k n a b c x hx
  have hl := h.l8
  have h64 := h.h64
  have hent : ∀ q, (entP (es.set p x) q) = if q = p then (k, n, a, b, c) else entP es q := fun q => by
    unfold entP
    rw [getD_set es p x q (by omega)]
    by_cases hq : q = p
    · rw [if_pos hq, if_pos hq, u3]
    · rw [if_neg hq, if_neg hq]
  refine ⟨by rw [List.length_set]; exact hl, by rw [List.length_set]; exact h64, fun j hj => ?_, fun q hq => ?_, fun q hq hk => ?_, fun q hq hk => ?_, fun q r hq hr hne h1 h2 => ?_, wsmall_set h.sm p (by omega)⟩
  · rw [setI_at ls _ _ j (by omega)]
    by_cases e : j = p / 8
    · rw [if_pos e, ← e]
      exact .inr rfl
    · rw [if_neg e]
      exact h.lf j hj
  · rw [getD_set es p x q (by omega)]
    split
    · exact u1
    · exact h.un q hq
  · rw [setI_at ls _ _ (q / 8) (by omega)]
    rw [getD_set es p x q (by omega)] at hk
    by_cases e : q = p
    · subst e
      rw [if_pos rfl]
      exact ⟨by omega, hh⟩
    · rw [if_neg e] at hk
      obtain ⟨q1, q2⟩ := h.ou q hq hk
      refine ⟨?_, q2⟩
      split
      · omega
      · exact q1
  · rw [hent q] at hk ⊢
    split at hk
    · rename_i e
      rw [if_pos e]
      simp only at hk ⊢
      have := hn hk
      omega
    · rename_i e
      rw [if_neg e]
      have := h.nm q hq hk
      omega
  · rw [hent q] at h1 ⊢
    rw [hent r] at h2 ⊢
    by_cases e1 : q = p
    · have e2 : r ≠ p := fun e => hne (e1.trans e.symm)
      rw [if_pos e1] at h1 ⊢
      rw [if_neg e2] at h2 ⊢
      simp only at h1 ⊢
      have := hn h1
      have := h.nm r hr h2
      omega
    · rw [if_neg e1] at h1 ⊢
      by_cases e2 : r = p
      · rw [if_pos e2] at h2 ⊢
        simp only at h2 ⊢
        have := hn h2
        have := h.nm q hq h1
        omega
      · rw [if_neg e2] at h2 ⊢
        exact h.nd q r hq hr hne h1 h2
theorem MdI.mds (h : MdI rs ls es i) (hi : i ≤ 20) (hr : RgV rs) : MdS (rs, 10, ls, es) 10 := by
  have hT : tabE 10 ls es = 0 := by
    refine tab_intro h.l8 h.h64 (by omega) (fun j hj => ?_) (fun j hj => ?_) (fun j hj => ?_) h.un (fun p hp hh => ?_)
    · rcases h.lf j hj with e | e <;> omega
    · unfold dupE
      rw [if_neg]
      rintro ⟨h1, h2⟩
      rcases h.lf j hj with e | e
      · omega
      · rcases h2 with h2 | ⟨q, hq, h2⟩
        · omega
        · rcases h.lf q (by omega) with e' | e' <;> omega
    · unfold stE
      rw [if_neg (by omega)]
    · exact (h.ou p hp hh.1).1 hh.2
  refine ⟨spc_ok hr hT (fun p hp => ?_), h.sm, ⟨by simp only; omega, by simp only; omega⟩, fun f hf => ?_, fun p hp hk => ?_⟩
  · refine outE_no ?_
    by_cases e : es.getD p 0 % 4 = 0
    · exact .inl (by rw [unpK_eq _ (h.un p hp), e]; rfl)
    · exact .inr (h.ou p hp e).2
  · unfold frmL at hf
    obtain ⟨hm, hne⟩ := List.mem_filter.1 hf
    obtain ⟨j, hj, e⟩ := List.mem_iff_getElem.1 hm
    rw [List.length_take] at hj
    have hl := h.l8
    simp only at hj hne e
    rw [List.getElem_take] at e
    have := h.lf j (by omega)
    rw [List.getD_eq_getElem?_getD, List.getElem?_eq_getElem (by omega)] at this
    simp only [Option.getD_some, e] at this
    simp at hne
    omega
  · have := h.nm p hp hk
    simp only at this ⊢
    omega
end Go.Proofs.YtmjahjdnfijpkaaDoor
/- The frames that the statements about forks take. -/
namespace Go.Proofs.YtmjahjdnfijpkaaDoor
open Go Go.Proofs Go.RowKit
set_option linter.unusedSimpArgs false
set_option linter.unusedVariables false
set_option maxRecDepth 100000

theorem own_single (w : World) (x : Value) (t : TypeId) : (w.alloc (.cells #[x] t)).ownsRow w.heap.size t 1 (.slice (some ⟨w.heap.size, 0, none⟩) 1 1) 1 [x] :=
  ⟨rfl, .inr ⟨w.heap.size, 1, #[x], rfl, Nat.le_refl _, heap_alloc_new w _, Nat.le_refl _, by unfold maxLen; omega, rfl, rfl⟩⟩
def FraI (q : Int) (ls : List Int) (w1 : World) (v i : Value) (wr : World) : Prop := ∃ k : Nat, k ≤ 8 ∧ i = .int .i64 k ∧ wr.ownsRow w1.heap.size 3 1 v (frsL q ls k).length (iw (frsL q ls k)) ∧ Below w1.heap.size w1 wr
theorem frs_len9 (q : Int) (ls : List Int) (n : Nat) : 1 ≤ (frsL q ls n).length ∧ (frsL q ls n).length ≤ n + 1 := by
  unfold frsL
  rw [List.length_cons, List.length_map]
  have := List.length_filter_le (fun i => decide (0 ≤ ls.getD i 0)) (List.range n)
  rw [List.length_range] at this
  omega
theorem frs_yes {q : Int} {ls : List Int} {n : Nat} (h : 0 ≤ ls.getD n 0) : frsL q ls (n + 1) = frsL q ls n ++ [q + 1 + (n : Int)] := by rw [frs_succ, if_pos h]
theorem frs_no {q : Int} {ls : List Int} {n : Nat} (h : ¬ 0 ≤ ls.getD n 0) : frsL q ls (n + 1) = frsL q ls n := by rw [frs_succ, if_neg h, List.append_nil]

set_option maxHeartbeats 4000000 in
theorem frames28_any (rs : List (Int × Int)) (r : Int) (ls : List Int) (es : List Nat) (v : Value) (q : Int) (w : World) (hv : SpV w v (rs, r, ls, es)) (h8 : ls.length = 8) (hq : 0 ≤ q ∧ q ≤ 1000) :
    Calls Tryd.prog 27 #[v, .int .i64 q] w fun e w' => ∃ A c, e = .returned (.slice A (frsL q ls 8).length c) ∧ (frsL q ls 8).length ≤ c ∧ Rd w' 1 A (frsL q ls 8).length (iw (frsL q ls 8)) ∧ Below w.heap.size w w' := by
  obtain ⟨A, c, L, cl, B, d, hve, hA, hLs, hB, hcc⟩ := id hv
  subst hve
  unfold spcV at hv ⊢
  simp only at hv ⊢ hA hLs hB hcc
  obtain ⟨i0, hi, hz0, hz1, hz2⟩ := info_parts infoInt
  have kS := Bk.new w #[.slice A rs.length c, .int .i64 r, .slice L ls.length cl, .slice B es.length d] 28
  have hB1 := balloc (Below.refl _ w) (.cells #[.slice A rs.length c, .int .i64 r, .slice L ls.length cl, .slice B es.length d] 28)
  rw [h8] at kS hLs hB1 ⊢
  have hLs1 := hLs.below hB1 (Nat.le_refl _)
  have hws : ∀ k : Nat, k < 8 → IntKind.i64.wrap (q + 1 + (k : Int)) = q + 1 + (k : Int) := fun k hk => by rw [IntKind.wrap_i64]; omega
  have hw1 : IntKind.i64.wrap (q + 1) = q + 1 := by rw [IntKind.wrap_i64]; omega
  clear hv h8
  generalize hw1e : w.alloc (.cells #[.slice A rs.length c, .int .i64 r, .slice L 8 cl, .slice B es.length d] 28) = w1 at *
  go_enter Tryd.func27, Tryd.ntmps27
  go_wp2_with fail
  clear hw1e
  go_loopw [5, 6] (fun v i wr => FraI q ls w1 v i wr) (fun _ i _ => 8 - (intOf i).toNat)
  case atStart => exact ⟨0, by omega, rfl, own_single w1 _ _, balloc (Below.refl _ _) _⟩
  case round =>
    obtain ⟨k, hk, rfl, hrow, hBx⟩ := hrel
    have hfl := frs_len9 q ls k
    have hsz := hBx.size
    obtain ⟨cS, fS, lS⟩ := (kS.to hBx).facts
    by_cases hlt : k < 8
    · obtain ⟨g, off, z, rfl, hg, hz, hc⟩ := (hLs1.below hBx (Nat.le_refl _)).numb hlt
      have hkI : (k : Int) < 8 := by omega
      have hwk := hws k hlt
      by_cases hpz : 0 ≤ z
      · have hpz3 : decide (0 ≤ z) = true := decide_eq_true hpz
        have HS := Lib.hid (frs_yes (q := q) (ls := ls) (n := k) (by rw [hz]; exact hpz))
        clear hz
        go_wp2_with (at_builtin; refine wpList_append_own_at _ rfl _ _ 23 rfl w1.heap.size 3 i0 (.int .i64 0) 1 8 Tryd.underlying23 hi hz0 hz1 hz2 rfl (by decide) _ _ (iw (frsL q ls k)) rfl (hrow.alloc _) ⟨wr.heap.size, 0, none⟩ 1 1 [.int .i64 (q + 1 + (k : Int))] rfl rfl (cell_one_new _ _ _) (by simp [Value.oneCell']) (by simp only [maxLen]; omega) (by omega) (by simp; omega) ?_; intro v6 w6 hown6 hgr6 _ hloc6; have B6 := (hBx.alloc hBx.size _).grown hgr6 (by simp; omega) (fun j e => (hrow.lt j e).1); clear hgr6 hloc6)
        have hown7 : w6.ownsRow w1.heap.size 3 1 v6 (frsL q ls (k + 1)).length (iw (frsL q ls (k + 1))) := by
          rw [HS.out, List.length_append]
          simpa [iw] using hown6
        go_roundw
        case rel => exact ⟨k + 1, by omega, by go_num, hown7, B6⟩
        case measure => simp [intOf]; omega
      · have hpz3 : decide (0 ≤ z) = false := decide_eq_false hpz
        have HS := Lib.hid (frs_no (q := q) (ls := ls) (n := k) (by rw [hz]; exact hpz))
        clear hz
        go_wp2_with fail
        go_roundw
        case rel => exact ⟨k + 1, by omega, by go_num, by rw [HS.out]; exact hrow, hBx⟩
        case measure => simp [intOf]; omega
    · obtain rfl : k = 8 := by omega
      obtain ⟨A', c', rfl, hrd⟩ := own_slice hrow
      have hcp := own_cap hrow (by omega)
      clear cS fS lS
      go_wp2_with fail
      go_ret
      exact ⟨A', c', rfl, hcp, hrd, hB1.trans (hBx.mono hB1.size)⟩
end Go.Proofs.YtmjahjdnfijpkaaDoor
/- Address spaces made of numbers, chapter 28. -/
namespace Go.Proofs.YtmjahjdnfijpkaaDoor
open Go Go.Proofs Go.RowKit
set_option linter.unusedSimpArgs false
set_option linter.unusedVariables false
set_option maxRecDepth 100000

theorem RgV.lenF {rs : List (Int × Int)} (h : RgV rs) : rs.length ≤ 64 := by
  have hk : ∀ j : Nat, j < rs.length → (j : Int) ≤ (rs.getD j (0, 0)).2 := by
    intro j
    induction j with
    | zero => intro hj; have := rgE_one (h 0 hj); omega
    | succ j ih =>
      intro hj
      have h1 := ih (by omega)
      have h2 := rgE_one (h (j + 1) hj)
      have h3 := h2.2.2.2 (by omega)
      rw [Nat.add_sub_cancel] at h3
      omega
  rcases Nat.eq_zero_or_pos rs.length with h0 | h0
  · omega
  · have h1 := hk (rs.length - 1) (by omega)
    have h2 := rgE_one (h (rs.length - 1) (by omega))
    omega
theorem hasP_take (rs : List (Int × Int)) (p m : Nat) (hm : m < rs.length) : hasP (rs.take (m + 1)) p = (hasP (rs.take m) p || (decide ((rs.getD m (0, 0)).1 ≤ (p : Int)) && decide ((p : Int) ≤ (rs.getD m (0, 0)).2))) := by
  unfold hasP
  rw [List.take_add_one, List.getElem?_eq_getElem hm, List.any_append, List.getD_eq_getElem?_getD, List.getElem?_eq_getElem hm]
  simp only [Option.toList_some, List.any_cons, List.any_nil, Bool.or_false, Option.getD_some]
def InnI (rs : List (Int × Int)) (p : Nat) (W : World) (b j : Value) (wx : World) : Prop := ∃ m : Nat, m ≤ rs.length ∧ j = .int .i64 m ∧ b = .bool (hasP (rs.take m) p) ∧ W = wx
def MadI (rs : List (Int × Int)) (w : World) (P gA cA gB cB : Nat) (AR : Option Addr) (cR : Nat) (i : Value) (wr : World) : Prop := ∃ (k : Nat) (ls : List Int) (es : List Nat), k ≤ 20 ∧ i = .int .i64 k ∧ MdI rs ls es k ∧ Bk wr P #[.slice AR rs.length cR, .int .i64 10, .slice (some ⟨gA, 0, none⟩) 8 cA, .slice (some ⟨gB, 0, none⟩) 64 cB] 28 ∧ Own2 wr (w.heap.size + 1) gA cA gB cB ls es ∧ wr.ownsRow (P + 1) 81 2 (.slice AR rs.length cR) rs.length (flat2 .i64 rs) ∧ Bk wr w.heap.size #[.slice none 0 0, .int .i64 0, .slice none 0 0, .slice none 0 0] 28 ∧ Below w.heap.size w wr

theorem own2_spvR {w : World} {base gA cA gB cB cR : Nat} {r : Int} {rs : List (Int × Int)} {ls : List Int} {es : List Nat} {AR : Option Addr} (h : Own2 w base gA cA gB cB ls es) (hr : Rd w 2 AR rs.length (flat2 .i64 rs)) : SpV w (.agg #[.slice AR rs.length cR, .int .i64 r, .slice (some ⟨gA, 0, none⟩) 8 cA, .slice (some ⟨gB, 0, none⟩) 64 cB]) (rs, r, ls, es) := by
  obtain ⟨h1, h2⟩ := h.lens
  exact ⟨AR, cR, some ⟨gA, 0, none⟩, cA, some ⟨gB, 0, none⟩, cB, by simp only [spcV, h1, h2], hr, by rw [h1]; exact Rd.own h.a, by rw [h2]; exact Rd.own h.b, by rw [h1]; exact h.cap⟩

set_option maxHeartbeats 8000000 in
theorem made28_any (F : Option Addr) (cf : Nat) (zs : List Int) (w : World) (hF : Rd w 1 F zs.length (iw zs)) (hn : zs.length ≤ maxLen) :
    Calls Tryd.prog 26 #[.slice F zs.length cf] w fun e w' => ∃ (rs : List (Int × Int)) (ls : List Int) (es : List Nat) (v : Value), e = .returned v ∧ SpV w' v (rs, 10, ls, es) ∧ MdS (rs, 10, ls, es) 10 ∧ NumD es ∧ ls.length = 8 ∧ rs.length ≤ 64 ∧ Below w.heap.size w w' := by
  have kR := Bk.new w #[.slice none 0 0, .int .i64 0, .slice none 0 0, .slice none 0 0] 28
  have hB1 := balloc (Below.refl _ w) (.cells #[.slice none 0 0, .int .i64 0, .slice none 0 0, .slice none 0 0] 28)
  have HRg := Lib.hid (fun W h => Regions_any F zs.length cf zs W h hn)
  have HF := Lib.hid hF
  unfold maxLen at hn
  obtain ⟨n, hN⟩ : ∃ n, n = zs.length := ⟨_, rfl⟩
  rw [← hN] at HRg HF hn ⊢
  clear hF hN
  go_enter Tryd.func26, Tryd.ntmps26
  go_wp2_with fail
  refine (bare28_any 10 _).mono ?_
  rintro e w2 ⟨gA, cA, gB, cB, rfl, hO, hb2⟩
  replace kR := kR.to hb2
  replace hB1 := bnext hB1 hb2
  rw [World.size_alloc] at hO
  clear hb2
  go_upto_region 2 with fail
  have kP := Bk.new w2 #[.slice none 0 0, .int .i64 10, .slice (some ⟨gA, 0, none⟩) 8 cA, .slice (some ⟨gB, 0, none⟩) 64 cB] 28
  have hcN := balloc (Below.refl _ w2) (.cells #[.slice none 0 0, .int .i64 10, .slice (some ⟨gA, 0, none⟩) 8 cA, .slice (some ⟨gB, 0, none⟩) 64 cB] 28)
  have hlO := hO.lt
  have hR2 := kR.lt
  replace hO := hO.to hcN
  replace kR := kR.to hcN
  replace hB1 := bnext hB1 hcN
  generalize hw3 : w2.alloc (.cells #[.slice none 0 0, .int .i64 10, .slice (some ⟨gA, 0, none⟩) 8 cA, .slice (some ⟨gB, 0, none⟩) 64 cB] 28) = w3 at *
  have hs3 : w3.heap.size = w2.heap.size + 1 := by rw [← hw3]; simp
  obtain ⟨P, hP⟩ : ∃ P, P = w2.heap.size := ⟨_, rfl⟩
  rw [← hP] at kP hlO hR2 hs3 ⊢
  clear hcN hw3 hP
  go_wp2_with fail
  refine (HRg.out _ (HF.out.below hB1 (Nat.le_refl _))).mono ?_
  rintro e w4 ⟨f, vR, rfl, hrow, hb4⟩
  rw [hs3] at hrow
  have hv := regs_v f
  generalize regs f = rs at *
  have hrl := hv.lenF
  obtain ⟨AR, cR, rfl, hrd⟩ := own_slice hrow
  clear hrd HRg
  replace kR := kR.to hb4
  replace kP := kP.to hb4
  replace hO := hO.to hb4
  replace hB1 := bnext hB1 hb4
  clear hb4
  obtain ⟨cP, fP, lP⟩ := kP.facts
  go_upto_region 3 with fail
  clear cP fP lP
  replace kR := kR.far (p := ⟨P, 0, none⟩) (by show w.heap.size ≠ P; omega) (.slice AR rs.length cR)
  replace hO : Own2 (w4.setCell ⟨P, 0, none⟩ (.slice AR rs.length cR)) (w.heap.size + 1) gA cA gB cB (List.replicate 8 (-1)) wz := ⟨own_side (p := ⟨P, 0, none⟩) hO.a (by show P ≠ gA; omega) _, own_side (p := ⟨P, 0, none⟩) hO.b (by show P ≠ gB; omega) _, hO.ne⟩
  replace hrow := own_far (p := ⟨P, 0, none⟩) hrow (by show P < P + 1; omega) (.slice AR rs.length cR)
  replace hB1 := hB1.setCell (p := ⟨P, 0, none⟩) (by show w.heap.size ≤ P; omega) (.slice AR rs.length cR)
  replace kP := kP.put 0 (.slice AR rs.length cR)
  simp only [List.setIfInBounds_toArray, List.set_cons_zero] at kP
  generalize w4.setCell ⟨P, 0, none⟩ (.slice AR rs.length cR) = w5 at *
  go_wp2_with fail
  go_loopw [4] (fun i wr => MadI rs w P gA cA gB cB AR cR i wr) (fun i _ => 20 - (intOf i).toNat)
  case atStart => exact ⟨0, _, _, by omega, rfl, MdI.zero rs, kP, hO, hrow, kR, hB1⟩
  case round =>
    clear kP hO hrow kR hB1
    obtain ⟨k, ls, es, hk, rfl, hM, kP, hO, hrow, kR, hB1⟩ := hrel
    by_cases hkn : k < n
    case neg =>
      have hkI : ¬ (k : Int) < n := by omega
      obtain ⟨cP, fP, lP⟩ := kP.facts
      obtain ⟨cZ, fZ, lZ⟩ := kR.facts
      go_wp2_with fail
      have kF := kR.put4 (.slice AR rs.length cR) (.int .i64 10) (.slice (some ⟨gA, 0, none⟩) 8 cA) (.slice (some ⟨gB, 0, none⟩) 64 cB)
      have hBF := below_put4 hB1 (g := w.heap.size) (Nat.le_refl _) (.slice AR rs.length cR) (.int .i64 10) (.slice (some ⟨gA, 0, none⟩) 8 cA) (.slice (some ⟨gB, 0, none⟩) 64 cB)
      have hlt := hO.lt
      have hOF := hO.ne4 (g := w.heap.size) (by omega) (by omega) (.slice AR rs.length cR) (.int .i64 10) (.slice (some ⟨gA, 0, none⟩) 8 cA) (.slice (some ⟨gB, 0, none⟩) 64 cB)
      have hrF := own_far (p := ⟨w.heap.size, 3, none⟩) (own_far (p := ⟨w.heap.size, 2, none⟩) (own_far (p := ⟨w.heap.size, 1, none⟩) (own_far (p := ⟨w.heap.size, 0, none⟩) hrow (by show w.heap.size < P + 1; omega) (.slice AR rs.length cR)) (by show w.heap.size < P + 1; omega) (.int .i64 10)) (by show w.heap.size < P + 1; omega) (.slice (some ⟨gA, 0, none⟩) 8 cA)) (by show w.heap.size < P + 1; omega) (.slice (some ⟨gB, 0, none⟩) 64 cB)
      exact bodyPost_ret (kF.res1 (P := Tryd.prog) rfl _ rfl (by kernel_rfl) (by kernel_rfl)) rfl ⟨rs, ls, es, _, rfl, own2_spvR hOF (Rd.own hrF), hM.mds hk hv, hM.nd, hM.l8, hrl, hBF⟩
    by_cases h20 : k < 20
    case neg =>
      have hkI : (k : Int) < n := by omega
      have hkJ : ¬ (k : Int) < 20 := by omega
      obtain ⟨cP, fP, lP⟩ := kP.facts
      obtain ⟨cZ, fZ, lZ⟩ := kR.facts
      go_wp2_with fail
      have kF := kR.put4 (.slice AR rs.length cR) (.int .i64 10) (.slice (some ⟨gA, 0, none⟩) 8 cA) (.slice (some ⟨gB, 0, none⟩) 64 cB)
      have hBF := below_put4 hB1 (g := w.heap.size) (Nat.le_refl _) (.slice AR rs.length cR) (.int .i64 10) (.slice (some ⟨gA, 0, none⟩) 8 cA) (.slice (some ⟨gB, 0, none⟩) 64 cB)
      have hlt := hO.lt
      have hOF := hO.ne4 (g := w.heap.size) (by omega) (by omega) (.slice AR rs.length cR) (.int .i64 10) (.slice (some ⟨gA, 0, none⟩) 8 cA) (.slice (some ⟨gB, 0, none⟩) 64 cB)
      have hrF := own_far (p := ⟨w.heap.size, 3, none⟩) (own_far (p := ⟨w.heap.size, 2, none⟩) (own_far (p := ⟨w.heap.size, 1, none⟩) (own_far (p := ⟨w.heap.size, 0, none⟩) hrow (by show w.heap.size < P + 1; omega) (.slice AR rs.length cR)) (by show w.heap.size < P + 1; omega) (.int .i64 10)) (by show w.heap.size < P + 1; omega) (.slice (some ⟨gA, 0, none⟩) 8 cA)) (by show w.heap.size < P + 1; omega) (.slice (some ⟨gB, 0, none⟩) 64 cB)
      exact bodyPost_ret (kF.res1 (P := Tryd.prog) rfl _ rfl (by kernel_rfl) (by kernel_rfl)) rfl ⟨rs, ls, es, _, rfl, own2_spvR hOF (Rd.own hrF), hM.mds hk hv, hM.nd, hM.l8, hrl, hBF⟩
    have hkI : (k : Int) < n := by omega
    have hkJ : (k : Int) < 20 := by omega
    obtain ⟨g, off, z, rfl, hg, hz, hc⟩ := (HF.out.below hB1 (Nat.le_refl _)).numb hkn
    clear hz
    obtain ⟨q, hq⟩ : ∃ q : Nat, z % 1048576 = q := ⟨(z % 1048576).toNat, by have := Int.emod_nonneg z (show (1048576 : Int) ≠ 0 by omega); omega⟩
    have hq2 : q < 1048576 := by have := Int.emod_lt_of_pos z (show (0 : Int) < 1048576 by omega); omega
    have HMo := Lib.hid (fun W => Mod_any z 1048576 W (by omega) (by omega))
    rw [hq] at HMo
    clear hq
    go_wp2_with (first | (go_at_call 65; refine (HMo.out _).mono ?_; rintro e w6 ⟨rfl, rfl⟩))
    obtain ⟨p, hp, hp64⟩ : ∃ p : Nat, (q : Int) % 64 = p ∧ p < 64 := ⟨q % 64, by omega, by omega⟩
    rw [hp]
    clear hp HMo
    go_loopw [7, 8] (fun b j wx => InnI rs p wr b j wx) (fun _ j _ => rs.length - (intOf j).toNat)
    case atStart => exact ⟨0, by omega, rfl, rfl, rfl⟩
    case round =>
      obtain ⟨m, hm, rfl, rfl, rfl⟩ := hrel
      obtain ⟨cP, fP, lP⟩ := kP.facts
      by_cases hml : m < rs.length
      · obtain ⟨gr, offr, x, y, rfl, hgr, hxy, c1, c2⟩ := (Rd.own hrow).pr hml
        have HT := Lib.hid (hasP_take rs p m hml)
        rw [hxy] at HT
        have hmI : (m : Int) < rs.length := by omega
        clear hxy
        generalize hasP (rs.take m) p = t at *
        cases t with
        | true =>
          go_wp2_with fail
          go_roundw
          case rel => exact ⟨m + 1, by omega, by go_num, by rw [HT.out]; rfl, rfl⟩
          case measure => simp [intOf]; omega
        | false =>
          by_cases h1 : x ≤ (p : Int)
          · have d1 : decide (x ≤ (p : Int)) = true := decide_eq_true h1
            by_cases h2 : (p : Int) ≤ y
            · have d2 : decide ((p : Int) ≤ y) = true := decide_eq_true h2
              go_wp2_with fail
              go_roundw
              case rel => exact ⟨m + 1, by omega, by go_num, by rw [HT.out, d1, d2]; rfl, rfl⟩
              case measure => simp [intOf]; omega
            · have d2 : decide ((p : Int) ≤ y) = false := decide_eq_false h2
              go_wp2_with fail
              go_roundw
              case rel => exact ⟨m + 1, by omega, by go_num, by rw [HT.out, d1, d2]; rfl, rfl⟩
              case measure => simp [intOf]; omega
          · have d1 : decide (x ≤ (p : Int)) = false := decide_eq_false h1
            go_wp2_with fail
            go_roundw
            case rel => exact ⟨m + 1, by omega, by go_num, by rw [HT.out, d1]; rfl, rfl⟩
            case measure => simp [intOf]; omega
      · have hmI : ¬ (m : Int) < rs.length := by omega
        rw [List.take_of_length_le (show rs.length ≤ m by omega)]
        cases hh : hasP rs p with
        | false =>
          clear hh
          go_wp2_with fail
          go_roundw
          case rel => exact ⟨k + 1, ls, es, by omega, by go_num, hM.mono, kP, hO, hrow, kR, hB1⟩
          case measure => simp [intOf]; omega
        | true =>
          have HH := Lib.hid hh
          clear hh
          go_upto_region 14 with fail
          obtain ⟨cA0, fA0⟩ := hO.leafAt (p / 8) (by omega)
          have lA0 := hO.lt.1.2
          have hw1 : IntKind.i64.wrap (11 + (p : Int) / 8) = 11 + (p : Int) / 8 := by rw [IntKind.wrap_i64]; omega
          have hb1 : 0 ≤ (p : Int) / 8 := by omega
          have hb2 : (p : Int) / 8 < 8 := by omega
          go_upto_region 15 with fail
          clear cA0 fA0 lA0 hw1 hb1 hb2 cP fP lP
          have hlO2 := hO.lt
          replace kP := kP.far (p := ⟨gA, p / 8, none⟩) (by show P ≠ gA; omega) (.int .i64 (11 + (p : Int) / 8))
          replace kR := kR.far (p := ⟨gA, p / 8, none⟩) (by show w.heap.size ≠ gA; omega) (.int .i64 (11 + (p : Int) / 8))
          replace hrow := own_far (p := ⟨gA, p / 8, none⟩) hrow (by show gA < P + 1; omega) (.int .i64 (11 + (p : Int) / 8))
          replace hO := hO.leaf (p / 8) (11 + (p : Int) / 8)
          replace hB1 := hB1.setCell (p := ⟨gA, p / 8, none⟩) (by show w.heap.size ≤ gA; omega) (.int .i64 (11 + (p : Int) / 8))
          have HS := Lib.hid (fun (k' n' : Int) (a b c : Bool) (x : Nat) (hx : packR k' n' a b c = ((x : Int), 0)) (hn : k' = 1 → n' = 20 + (k : Int)) => hM.step hp64 HH.out hx hn)
          rw [show 11 + ((p / 8 : Nat) : Int) = 11 + (p : Int) / 8 by omega] at HS
          clear hM HH hlO2 hc
          generalize ls.set (p / 8) (11 + (p : Int) / 8) = ls7 at *
          generalize wr.setCell ⟨gA, p / 8, none⟩ (.int .i64 (11 + (p : Int) / 8)) = w7 at *
          have hw2 : IntKind.i64.wrap (20 + (k : Int)) = 20 + (k : Int) := by rw [IntKind.wrap_i64]; omega
          have hab : ((q : Int) / 64 % 2 == 0) ≠ ((q : Int) / 64 % 2 == 1) := by
            rcases (show (q : Int) / 64 % 2 = 0 ∨ (q : Int) / 64 % 2 = 1 by omega) with h | h <;> rw [h] <;> decide
          go_upto_region 16 with fail
          generalize ((q : Int) / 64 % 2 == 0) = a at *
          generalize ((q : Int) / 64 % 2 == 1) = b at *
          generalize ((q : Int) / 128 % 2 == 0) = c at *
          by_cases h3 : (q : Int) / 256 % 3 = 0
          · have d3 : ((q : Int) / 256 % 3 == 0) = true := by rw [h3]; rfl
            have hp2 : (packR 2 (k : Int) false false false).2 = 0 := by unfold packR; rw [if_neg (by simp [chk_sw (k : Int) (by omega) (by omega)])]
            obtain ⟨x, hx, hx2⟩ := packR_nat _ _ _ _ _ hp2
            have hpk : packR 2 (k : Int) false false false = ((x : Int), 0) := Prod.ext hx hp2
            clear hp2 hx
            go_upto_region 18 with fail
            have kE := Bk.new w7 #[.int .i64 2, .int .i64 (k : Int), .bool false, .bool false, .bool false] 52
            have hcN := balloc (Below.refl _ w7) (.cells #[.int .i64 2, .int .i64 (k : Int), .bool false, .bool false, .bool false] 52)
            have hXP : w7.heap.size ≠ gB := by have := hO.lt.2.2; omega
            replace kP := kP.to hcN
            replace kR := kR.to hcN
            replace hO := hO.to hcN
            replace hrow := own_below hrow hcN
            replace hB1 := bnext hB1 hcN
            clear hcN
            obtain ⟨XB, hXB⟩ : ∃ XB, XB = w7.heap.size := ⟨_, rfl⟩
            rw [← hXB] at kE hXP ⊢
            generalize w7.alloc (.cells #[.int .i64 2, .int .i64 (k : Int), .bool false, .bool false, .bool false] 52) = w8 at *
            clear hXB
            have q3 := kP.cell 3
            have e0 := kE.cell 0
            have e1 := kE.cell 1
            have e2 := kE.cell 2
            have e3 := kE.cell 3
            have e4 := kE.cell 4
            simp at q3 e0 e1 e2 e3 e4
            have hlO3 := hO.lt
            have hpI : (p : Int) < 64 := by omega
            go_region_held3 (fun w' => w'.cell? ⟨P, 3, none⟩ = some (.slice (some ⟨gB, 0, none⟩) 64 cB) ∧ w'.cell? ⟨XB, 0, none⟩ = some (.int .i64 2) ∧ w'.cell? ⟨XB, 1, none⟩ = some (.int .i64 (k : Int)) ∧ w'.cell? ⟨XB, 2, none⟩ = some (.bool false) ∧ w'.cell? ⟨XB, 3, none⟩ = some (.bool false) ∧ w'.cell? ⟨XB, 4, none⟩ = some (.bool false))
              (refine ⟨?_, ?_, ?_, ?_, ?_, ?_⟩ <;> (repeat (with_reducible first | exact q3 | exact e0 | exact e1 | exact e2 | exact e3 | exact e4 | refine cell_drew ?_ | refine cell_later hbG ?_ | refine cell_far ?_ (by show _ ≠ _; simp only; omega) _)))
              (first
                | (go_at_call 35
                   refine (word28_any 2 ((k : Int)) false false false x _ hpk).mono ?_
                   rintro e wG ⟨rfl, hbG⟩
                   have hOG := (hO.to (below_drew (Below.refl _ _))).to hbG
                   obtain ⟨cG, fG⟩ := hOG.entryAt p hp64
                   have lG := hOG.lt.2.2))
            replace kP := (kP.drew.to hbG).far (p := ⟨gB, p, none⟩) (by show P ≠ gB; omega) (.int .u64 (x : Int))
            replace kR := (kR.drew.to hbG).far (p := ⟨gB, p, none⟩) (by show w.heap.size ≠ gB; omega) (.int .u64 (x : Int))
            replace hrow := own_far (p := ⟨gB, p, none⟩) (own_below (own_below hrow (below_drew (Below.refl _ _))) hbG) (by show gB < P + 1; omega) (.int .u64 (x : Int))
            replace hO := hOG.entry p x
            replace hB1 := (bnext (below_drew hB1) hbG).setCell (p := ⟨gB, p, none⟩) (by show w.heap.size ≤ gB; omega) (.int .u64 (x : Int))
            have hMn := HS.out _ _ _ _ _ _ hpk (fun h => absurd h (by decide))
            clear cG fG lG hOG hbG q3 e0 e1 e2 e3 e4 HS kE
            go_upto_region 5 with fail
            generalize wG.setCell ⟨gB, p, none⟩ (.int .u64 (x : Int)) = w9 at *
            go_wp2_with fail
            go_roundw
            case rel => exact ⟨k + 1, ls7, es.set p x, by omega, by go_num, hMn, kP, hO, hrow, kR, hB1⟩
            case measure => simp [intOf]; omega
          · have d3 : ((q : Int) / 256 % 3 == 0) = false := by simpa using h3
            have hp2 : (packR 1 (20 + (k : Int)) a b c).2 = 0 := by unfold packR; rw [if_neg (by simp [chk_pr (20 + (k : Int)) a b c (by omega) (by omega) hab])]
            obtain ⟨x, hx, hx2⟩ := packR_nat _ _ _ _ _ hp2
            have hpk : packR 1 (20 + (k : Int)) a b c = ((x : Int), 0) := Prod.ext hx hp2
            clear hp2 hx
            go_upto_region 18 with fail
            have kE := Bk.new w7 #[.int .i64 1, .int .i64 (20 + (k : Int)), .bool a, .bool b, .bool c] 52
            have hcN := balloc (Below.refl _ w7) (.cells #[.int .i64 1, .int .i64 (20 + (k : Int)), .bool a, .bool b, .bool c] 52)
            have hXP : w7.heap.size ≠ gB := by have := hO.lt.2.2; omega
            replace kP := kP.to hcN
            replace kR := kR.to hcN
            replace hO := hO.to hcN
            replace hrow := own_below hrow hcN
            replace hB1 := bnext hB1 hcN
            clear hcN
            obtain ⟨XB, hXB⟩ : ∃ XB, XB = w7.heap.size := ⟨_, rfl⟩
            rw [← hXB] at kE hXP ⊢
            generalize w7.alloc (.cells #[.int .i64 1, .int .i64 (20 + (k : Int)), .bool a, .bool b, .bool c] 52) = w8 at *
            clear hXB
            have q3 := kP.cell 3
            have e0 := kE.cell 0
            have e1 := kE.cell 1
            have e2 := kE.cell 2
            have e3 := kE.cell 3
            have e4 := kE.cell 4
            simp at q3 e0 e1 e2 e3 e4
            have hlO3 := hO.lt
            have hpI : (p : Int) < 64 := by omega
            go_region_held3 (fun w' => w'.cell? ⟨P, 3, none⟩ = some (.slice (some ⟨gB, 0, none⟩) 64 cB) ∧ w'.cell? ⟨XB, 0, none⟩ = some (.int .i64 1) ∧ w'.cell? ⟨XB, 1, none⟩ = some (.int .i64 (20 + (k : Int))) ∧ w'.cell? ⟨XB, 2, none⟩ = some (.bool a) ∧ w'.cell? ⟨XB, 3, none⟩ = some (.bool b) ∧ w'.cell? ⟨XB, 4, none⟩ = some (.bool c))
              (refine ⟨?_, ?_, ?_, ?_, ?_, ?_⟩ <;> (repeat (with_reducible first | exact q3 | exact e0 | exact e1 | exact e2 | exact e3 | exact e4 | refine cell_drew ?_ | refine cell_later hbG ?_ | refine cell_far ?_ (by show _ ≠ _; simp only; omega) _)))
              (first
                | (go_at_call 35
                   refine (word28_any 1 ((20 + (k : Int))) a b c x _ hpk).mono ?_
                   rintro e wG ⟨rfl, hbG⟩
                   have hOG := (hO.to (below_drew (Below.refl _ _))).to hbG
                   obtain ⟨cG, fG⟩ := hOG.entryAt p hp64
                   have lG := hOG.lt.2.2))
            replace kP := (kP.drew.to hbG).far (p := ⟨gB, p, none⟩) (by show P ≠ gB; omega) (.int .u64 (x : Int))
            replace kR := (kR.drew.to hbG).far (p := ⟨gB, p, none⟩) (by show w.heap.size ≠ gB; omega) (.int .u64 (x : Int))
            replace hrow := own_far (p := ⟨gB, p, none⟩) (own_below (own_below hrow (below_drew (Below.refl _ _))) hbG) (by show gB < P + 1; omega) (.int .u64 (x : Int))
            replace hO := hOG.entry p x
            replace hB1 := (bnext (below_drew hB1) hbG).setCell (p := ⟨gB, p, none⟩) (by show w.heap.size ≤ gB; omega) (.int .u64 (x : Int))
            have hMn := HS.out _ _ _ _ _ _ hpk (fun _ => rfl)
            clear cG fG lG hOG hbG q3 e0 e1 e2 e3 e4 HS kE
            go_upto_region 5 with fail
            generalize wG.setCell ⟨gB, p, none⟩ (.int .u64 (x : Int)) = w9 at *
            go_wp2_with fail
            go_roundw
            case rel => exact ⟨k + 1, ls7, es.set p x, by omega, by go_num, hMn, kP, hO, hrow, kR, hB1⟩
            case measure => simp [intOf]; omega
end Go.Proofs.YtmjahjdnfijpkaaDoor
