/- cow.Fork. -/
import Derived.Test.YtomndlnfidkdcaaDoorCowG
import Derived.Test.YtomndlnfidkdcaaDoorCowL
namespace Go.Proofs.YtomndlnfidkdcaaDoor
open Go Go.Proofs Go.RowKit Go.Maps
set_option linter.unusedSimpArgs false
set_option linter.unusedVariables false
set_option maxRecDepth 100000

theorem alterS_to (k n s0 s1 : Int) (a b c s2 s3 s4 : Bool) (h : shareE (k, n, a, b, c) = (s0, s1, s2, s3, s4)) (w : World) :
    Calls Tryd.prog 42 #[.agg #[.int .i64 k, .int .i64 n, .bool a, .bool b, .bool c], .slice (some ⟨w.heap.size, 0, none⟩) 1 1] (w.alloc (.cells #[.func (.func 43) #[] #[]] 71)).drew
      fun e w' => e = .returned (.agg #[.int .i64 s0, .int .i64 s1, .bool s2, .bool s3, .bool s4]) ∧ Below w.heap.size w w' := by
  refine (alterS_any k n a b c _ 1 _ (rd_drew (Rd.new (w := w) (sz := 1) (n := 1) #[.func (.func 43) #[] #[]] 71 rfl))).mono ?_
  rintro e w' ⟨he, hb⟩
  rw [h] at he
  exact ⟨he, bnext (below_drew (balloc (Below.refl _ w) _)) hb⟩
theorem alterC_to (k n s0 s1 : Int) (a b c s2 s3 s4 : Bool) (h : shareE (k, n, a, b, c) = (s0, s1, s2, s3, s4)) (w : World) :
    Calls Tryd.prog 42 #[.agg #[.int .i64 k, .int .i64 n, .bool a, .bool b, .bool c], .slice (some ⟨w.heap.size, 0, none⟩) 2 2] (w.alloc (.cells #[.func (.func 43) #[] #[], .func (.func 44) #[] #[]] 71))
      fun e w' => e = .returned (.agg #[.int .i64 s0, .int .i64 s1, .bool s2, .bool s3, .bool false]) ∧ Below w.heap.size w w' := by
  refine (alterC_any k n a b c _ 2 _ (Rd.new (w := w) (sz := 1) (n := 2) #[.func (.func 43) #[] #[], .func (.func 44) #[] #[]] 71 rfl)).mono ?_
  rintro e w' ⟨he, hb⟩
  rw [h] at he
  exact ⟨he, bnext (balloc (Below.refl _ w) _) hb⟩
/-- At the head of the loop over the row: k entries are changed. -/
structure ForkI (w : World) (t : Sh) (i ga n c' m gc : Nat) (vs : List Value) (B : Option Addr) (cR : Nat) (k : Nat) (wr : World) : Prop where
  u : UOv wr w.heap.size (.slice (some ⟨ga, 0, none⟩) n c') ((dec t).set i (mixL shareE ((rowAt t i).map entW) ((rowAt t i).map entW) k)) vs
  ch : wr.ownsRow w.heap.size 61 5 (.slice (some ⟨gc, 0, none⟩) m m) m (ew (mixL childE ((rowAt t i).map entW) (List.replicate m e0) k))
  b : Below w.heap.size w wr
  lt : gc < wr.heap.size
def ForkV (w : World) (t : Sh) (i ga n c' m gc : Nat) (vs : List Value) (B : Option Addr) (cR : Nat) (v : Value) (wr : World) : Prop := ∃ k : Nat, k ≤ m ∧ v = .int .i64 k ∧ ForkI w t i ga n c' m gc vs B cR k wr
/-- What does not change in the loop. -/
structure ForkC (w : World) (t : Sh) (i ga n c' m gc : Nat) (vs : List Value) (B : Option Addr) (cR : Nat) : Prop where
  v : ShV t
  i_lt : i < t.length
  len : t.length = n
  m_eq : (rowAt t i).length = m
  row : vs[i]? = some (.slice B m cR)
  off : ga ≠ gc
  offs : ∀ (j : Nat) (r : Value), vs[j]? = some r → r.ownBlock ≠ some gc
theorem ForkC.dlen {w : World} {t : Sh} {i ga n c' m gc : Nat} {vs : List Value} {B : Option Addr} {cR : Nat} (C : ForkC w t i ga n c' m gc vs B cR) (l : List En5) : ((dec t).set i l).length = n := by rw [List.length_set, dec_len]; exact C.len
/-- A step of the loop: both stores. -/
theorem ForkI.step {w : World} {t : Sh} {i ga n c' m gc : Nat} {vs : List Value} {cR k g : Nat} {w7 w9 : World} {e : En5} (C : ForkC w t i ga n c' m gc vs (some ⟨g, 0, none⟩) cR) (hw7 : ForkI w t i ga n c' m gc vs (some ⟨g, 0, none⟩) cR k w7) (hk : k < m) (he : ((rowAt t i).map entW)[k]? = some e)
    (hb9 : Below (putEn w7 g k (shareE e)).heap.size (putEn w7 g k (shareE e)) w9) (hg : w.heap.size ≤ g) (hgc : w.heap.size ≤ gc) : ForkI w t i ga n c' m gc vs (some ⟨g, 0, none⟩) cR (k + 1) (putEn w9 gc k (childE e)) := by
  have hml : ((rowAt t i).map entW).length = m := by rw [List.length_map]; exact C.m_eq
  have hdi : ((dec t).set i (mixL shareE ((rowAt t i).map entW) ((rowAt t i).map entW) k))[i]? = some (mixL shareE ((rowAt t i).map entW) ((rowAt t i).map entW) k) := List.getElem?_set_self (by rw [dec_len]; exact C.i_lt)
  have hmk : (mixL shareE ((rowAt t i).map entW) ((rowAt t i).map entW) k)[k]? = some e := (mixL_at rfl (by omega)).trans he
  have h1 := (hw7.u.put_at (C.dlen _) hdi hmk (hw7.u.cell (C.dlen _) C.row)).2.2 (shareE e)
  rw [mixL_set rfl he, List.set_set] at h1
  have hgg : (Value.slice (some ⟨gc, 0, none⟩) m m).ownBlock ≠ some g := fun e1 => C.offs i _ C.row e1.symm
  have hc1 := own_below (own_putOther hw7.ch hgg k (shareE e)) hb9
  have hrl : (List.replicate m e0).length = m := List.length_replicate
  have hmc : (mixL childE ((rowAt t i).map entW) (List.replicate m e0) k)[k]? = some e0 := (mixL_at (by omega) (by omega)).trans (by rw [List.getElem?_replicate, if_pos hk])
  have hc2 := (own_put hc1 (by rw [mixL_len (by omega) (by omega)]; exact hml) hmc).2.2 (childE e)
  rw [mixL_set (by omega) he] at hc2
  refine ⟨(h1.to hb9).far (putEn_grown w9 gc k (childE e)) (fun e1 => C.off (by injection e1)) C.offs, hc2, below_putEn (bnext (below_putEn hw7.b hg k (shareE e)) hb9) hgc k (childE e), ?_⟩
  have h3 := hb9.size
  have h4 := hw7.lt
  simp at h3 ⊢
  omega
theorem ForkI.to {w : World} {t : Sh} {i ga n c' m gc : Nat} {vs : List Value} {B : Option Addr} {cR k : Nat} {w1 w2 : World} (h : ForkI w t i ga n c' m gc vs B cR k w1) (hb : Below w1.heap.size w1 w2) : ForkI w t i ga n c' m gc vs B cR k w2 :=
  ⟨h.u.to hb, own_below h.ch hb, bnext h.b hb, Nat.lt_of_lt_of_le h.lt hb.size⟩
/-- What the walk wants of a round. -/
theorem ForkI.facts {w : World} {t : Sh} {i ga n c' m gc : Nat} {vs : List Value} {cR k g : Nat} {w7 : World} {e : En5} (C : ForkC w t i ga n c' m gc vs (some ⟨g, 0, none⟩) cR) (hw7 : ForkI w t i ga n c' m gc vs (some ⟨g, 0, none⟩) cR k w7) (hk : k < m) (he : ((rowAt t i).map entW)[k]? = some e) :
    w7.cell? ⟨ga, i, none⟩ = some (.slice (some ⟨g, 0, none⟩) m cR) ∧ (∀ o, w7.frozen? ⟨g, o, none⟩ = false) ∧ (w7.cell? ⟨g, k * 5, none⟩ = some (.int .i64 e.1) ∧ w7.cell? ⟨g, k * 5 + 1, none⟩ = some (.int .i64 e.2.1) ∧ w7.cell? ⟨g, k * 5 + 2, none⟩ = some (.bool e.2.2.1) ∧ w7.cell? ⟨g, k * 5 + 3, none⟩ = some (.bool e.2.2.2.1) ∧ w7.cell? ⟨g, k * 5 + 4, none⟩ = some (.bool e.2.2.2.2)) := by
  have hml : ((rowAt t i).map entW).length = m := by rw [List.length_map]; exact C.m_eq
  have hdi : ((dec t).set i (mixL shareE ((rowAt t i).map entW) ((rowAt t i).map entW) k))[i]? = some (mixL shareE ((rowAt t i).map entW) ((rowAt t i).map entW) k) := List.getElem?_set_self (by rw [dec_len]; exact C.i_lt)
  have hmk : (mixL shareE ((rowAt t i).map entW) ((rowAt t i).map entW) k)[k]? = some e := (mixL_at rfl (by omega)).trans he
  have hc := hw7.u.cell (C.dlen _) C.row
  obtain ⟨a1, a2, _⟩ := hw7.u.put_at (C.dlen _) hdi hmk hc
  exact ⟨hc, a1, a2⟩
/-- The cells of the child that are to be stored to. -/
theorem ForkI.child {w : World} {t : Sh} {i ga n c' m gc : Nat} {vs : List Value} {cR k g : Nat} {w7 w9 : World} {e : En5} (C : ForkC w t i ga n c' m gc vs (some ⟨g, 0, none⟩) cR) (hw7 : ForkI w t i ga n c' m gc vs (some ⟨g, 0, none⟩) cR k w7) (hk : k < m)
    (hb9 : Below (putEn w7 g k (shareE e)).heap.size (putEn w7 g k (shareE e)) w9) :
    (∀ o, w9.frozen? ⟨gc, o, none⟩ = false) ∧ (∃ y : En5, w9.cell? ⟨gc, k * 5, none⟩ = some (.int .i64 y.1) ∧ w9.cell? ⟨gc, k * 5 + 1, none⟩ = some (.int .i64 y.2.1) ∧ w9.cell? ⟨gc, k * 5 + 2, none⟩ = some (.bool y.2.2.1) ∧ w9.cell? ⟨gc, k * 5 + 3, none⟩ = some (.bool y.2.2.2.1) ∧ w9.cell? ⟨gc, k * 5 + 4, none⟩ = some (.bool y.2.2.2.2)) := by
  have hml : ((rowAt t i).map entW).length = m := by rw [List.length_map]; exact C.m_eq
  have hgg : (Value.slice (some ⟨gc, 0, none⟩) m m).ownBlock ≠ some g := fun e1 => C.offs i _ C.row e1.symm
  have hc1 := own_below (own_putOther hw7.ch hgg k (shareE e)) hb9
  have hrl : (List.replicate m e0).length = m := List.length_replicate
  have hmc : (mixL childE ((rowAt t i).map entW) (List.replicate m e0) k)[k]? = some e0 := (mixL_at (by omega) (by omega)).trans (by rw [List.getElem?_replicate, if_pos hk])
  obtain ⟨a1, a2, _⟩ := own_put hc1 (by rw [mixL_len (by omega) (by omega)]; exact hml) hmc
  exact ⟨a1, _, a2⟩

set_option maxHeartbeats 8000000 in
theorem Fork_any (A : Option Addr) (n c : Nat) (t : Sh) (table : Int) (w : World) (h : InS w A n t) (hL : LayOK w) :
    Calls Tryd.prog 13 #[.slice A n c, .int .i64 table] w fun e w' => TkO (forkR t table) w w' e := by
  have HR := Lib.hid (h.read c hL)
  have hn := h.few
  have Hlen := Lib.hid h.rr.len
  have HLay := Lib.hid hL
  clear h hL
  have hbad : ∀ z, forkE t table = z → z ≠ 0 → forkR t table = ([], z) := fun z hz hne => by unfold forkR; rw [if_pos (by rw [hz]; exact hne), hz]
  by_cases h0 : (shE t).1 = 0
  · have H0 := Lib.hid h0
    have hFE : forkE t table = orE (if table < 0 ∨ (n : Int) ≤ table then 2 else 0) (if n = 8 then 5 else 0) := by unfold forkE askT; rw [orE_r _ h0, Hlen.out]
    have HV := Lib.hid ((sh_iff t).1 h0)
    clear h0
    by_cases h1 : table < 0
    · have HRR := Lib.hid (hbad 2 (by rw [hFE, if_pos (.inl h1)]; rfl) (by decide))
      clear hFE hbad
      go_enter Tryd.func13, Tryd.ntmps13
      go_wp2_with fail
      refine HR.out.mono ?_
      rintro e w1 ⟨hb, ⟨hq, A', c', rfl, hU⟩ | ⟨hq, rfl⟩⟩
      · go_wp2
        go_ret2
        rw [HRR.out]
        exact ⟨⟨_, rfl, ShO.nil _⟩, hb⟩
      · exact absurd H0.out hq
    by_cases h2 : (n : Int) ≤ table
    · have HRR := Lib.hid (hbad 2 (by rw [hFE, if_pos (.inr h2)]; rfl) (by decide))
      clear hFE hbad
      go_enter Tryd.func13, Tryd.ntmps13
      go_wp2_with fail
      refine HR.out.mono ?_
      rintro e w1 ⟨hb, ⟨hq, A', c', rfl, hU⟩ | ⟨hq, rfl⟩⟩
      · go_wp2
        go_ret2
        rw [HRR.out]
        exact ⟨⟨_, rfl, ShO.nil _⟩, hb⟩
      · exact absurd H0.out hq
    obtain ⟨i, rfl⟩ : ∃ i : Nat, table = i := ⟨table.toNat, by omega⟩
    have hi : i < n := by omega
    have hi2 : (i : Int) < (n : Int) := by omega
    rw [if_neg (by omega), orE_r _ rfl] at hFE
    have hz1 : ((i : Int) < 0) = False := by simp
    have hz2 : (n ≤ i) = False := by simp; omega
    clear h1 h2
    by_cases h8 : n = 8
    · have HRR := Lib.hid (hbad 5 (by rw [hFE, if_pos h8]) (by decide))
      subst h8
      clear hFE hbad
      go_enter Tryd.func13, Tryd.ntmps13
      go_wp2_with fail
      refine HR.out.mono ?_
      rintro e w1 ⟨hb, ⟨hq, A', c', rfl, hU⟩ | ⟨hq, rfl⟩⟩
      · go_wp2
        go_ret2
        rw [HRR.out]
        exact ⟨⟨_, rfl, ShO.nil _⟩, hb⟩
      · exact absurd H0.out hq
    have hb8 : ((n : Int) == 8) = false := by simp; omega
    have hR : forkR t i = (t.set i ((rowAt t i).map shareW) ++ [(rowAt t i).map childW], 0) := by unfold forkR; rw [if_neg (by rw [hFE, if_neg h8]; simp)]; simp only [Int.toNat_natCast]
    have HRR := Lib.hid hR
    have hit : i < t.length := by rw [Hlen.out]; exact hi
    have HIT := Lib.hid hit
    have HLEN := Lib.hid (show (dec t).length = n by rw [dec_len]; exact Hlen.out)
    have HI := Lib.hid (dec_at hit)
    obtain ⟨m, hm⟩ : ∃ m, m = (rowAt t i).length := ⟨_, rfl⟩
    have HM := Lib.hid hm
    have hml : ((rowAt t i).map entW).length = m := by rw [List.length_map]; exact hm.symm
    have HML := Lib.hid hml
    have hm64 : m ≤ 64 := by rw [hm]; exact HV.out.row _ (rowAt_mem hit)
    have hn8 : n ≤ 7 := by have := HV.out.len; rw [Hlen.out] at this; omega
    have HN8 := Lib.hid hn8
    have hmk := run_make_en m (by omega)
    clear hFE hbad hR hit hm hml h8 hn8
    go_enter Tryd.func13, Tryd.ntmps13
    go_wp2_with fail
    refine HR.out.mono ?_
    rintro e w1 ⟨hb, ⟨_, A', c', rfl, hU⟩ | ⟨hq, rfl⟩⟩
    rotate_left
    · exact absurd H0.out hq
    obtain ⟨vs, hu⟩ := hU
    obtain ⟨ga, capa, hva, hba, hla⟩ := hu.outer.form (by rw [HLEN.out]; omega)
    have hA : A' = some ⟨ga, 0, none⟩ := by injection hva
    subst hA
    obtain ⟨r, hr, ho⟩ := hu.rows i _ HI.out
    have hrf : (m = 0) ∨ ∃ g cR, r = .slice (some ⟨g, 0, none⟩) m cR ∧ w.heap.size ≤ g ∧ g < w1.heap.size := by
      rcases Nat.eq_zero_or_pos m with h1 | h1
      · exact .inl h1
      · obtain ⟨g, cR, h2, h3, h4⟩ := ho.form (by rw [HML.out]; exact h1)
        exact .inr ⟨g, cR, by rw [h2, HML.out], h3, h4⟩
    obtain ⟨B, cR, rfl, hRB⟩ := own_slice ho
    rw [HML.out] at hr hRB
    have hrf2 : (m = 0) ∨ ∃ g, B = some ⟨g, 0, none⟩ ∧ w.heap.size ≤ g ∧ g < w1.heap.size := by
      rcases hrf with h1 | ⟨g, cR', h2, h3, h4⟩
      · exact .inl h1
      · rw [HML.out] at h2
        injection h2 with h2
        exact .inr ⟨g, h2, h3, h4⟩
    have hC : ForkC w t i ga n c' m w1.heap.size vs B cR := ⟨HV.out, HIT.out, Hlen.out, HM.out.symm, hr, by omega, fun j r hj e1 => by have := (hu.row_lt hj e1).2; omega⟩
    have HC := Lib.hid hC
    have hrc := hu.cell HLEN.out hr
    have hset : (dec t).set i ((rowAt t i).map entW) = dec t := by
      obtain ⟨h3, h4⟩ := List.getElem?_eq_some_iff.1 HI.out
      rw [← h4, List.set_getElem_self]
    have hst : ForkI w t i ga n c' m w1.heap.size vs B cR 0 (w1.alloc (.cells (madeCells #[.int .i64 0, .int .i64 0, .bool false, .bool false, .bool false] (m * 5)) 61)) :=
      ⟨by rw [mixL_zero, hset]; exact hu.to (balloc (Below.refl _ _) _), by rw [mixL_zero]; exact own_made w1 m (by omega) hb.size, balloc hb _, by simp⟩
    have HST := Lib.hid hst
    have HB := Lib.hid hb
    have hw1 : w.heap.size ≤ w1.heap.size := hb.size
    have hRF := Lib.hid hrf2
    clear hu hset hst hb hC hrf hrf2 hva hr ho hRB
    go_wp2
    clear hmk hrc
    go_loopw [46] (ForkV w t i ga n c' m w1.heap.size vs B cR) (fun i _ => m - (intOf i).toNat)
    case atStart => exact ⟨0, Nat.zero_le _, rfl, HST.out⟩
    case round =>
      obtain ⟨k, hk, rfl, hI⟩ := hrel
      by_cases hlt : k < m
      · rcases hRF.out with h1 | ⟨g, rfl, hbg, hgg⟩
        · exact absurd hlt (by omega)
        obtain ⟨⟨k0, n0, a0, b0, c0⟩, hE⟩ : ∃ e, ((rowAt t i).map entW)[k]? = some e := ⟨_, List.getElem?_eq_getElem (by rw [HML.out]; exact hlt)⟩
        rcases hs : shareE (k0, n0, a0, b0, c0) with ⟨s0, s1, s2, s3, s4⟩
        have HE := Lib.hid hE
        have HS := Lib.hid hs
        have hlt2 : (k : Int) < (m : Int) := by omega
        have hgcl : w1.heap.size < wr.heap.size := hI.lt
        obtain ⟨hrc, fz, r0, r1, r2, r3, r4⟩ := hI.facts HC.out hlt HE.out
        simp only at r0 r1 r2 r3 r4
        have hgw : g < wr.heap.size := by omega
        have hgaw : ga < wr.heap.size := by omega
        clear hE hs
        go_wp2_with fail
        have hA2 : Below wr.heap.size wr (wr.alloc (.cells #[.int .i64 k0, .int .i64 n0, .bool a0, .bool b0, .bool c0] 61)) := balloc (Below.refl _ _) _
        have kE := Bk.new wr #[.int .i64 k0, .int .i64 n0, .bool a0, .bool b0, .bool c0] 61
        have hI2 := Lib.hid (hI.to hA2)
        have hgeg : wr.heap.size ≠ g := by omega
        have hgag : ga ≠ g := by
          intro e1
          have h1 := hI.u.put_at (HC.out.dlen _) (List.getElem?_set_self (by rw [HLEN.out]; exact hi)) ((mixL_at rfl (by rw [HML.out]; omega)).trans HE.out) hrc
          exact (hI.u.off i _ g HC.out.row rfl) (by rw [← e1]; rfl)
        clear hI fz r0 r1 r2 r3 r4 hrc
        generalize wr.alloc (.cells #[.int .i64 k0, .int .i64 n0, .bool a0, .bool b0, .bool c0] 61) = w2 at *
        obtain ⟨hrc, _, _⟩ := hI2.out.facts HC.out hlt HE.out
        have g0 := kE.cell 0
        have g1 := kE.cell 1
        have g2 := kE.cell 2
        have g3 := kE.cell 3
        have g4 := kE.cell 4
        simp at g0 g1 g2 g3 g4
        go_region_held3 (fun w' => w'.cell? ⟨wr.heap.size, 0, none⟩ = some (.int .i64 k0) ∧ w'.cell? ⟨wr.heap.size, 1, none⟩ = some (.int .i64 n0) ∧ w'.cell? ⟨wr.heap.size, 2, none⟩ = some (.bool a0) ∧ w'.cell? ⟨wr.heap.size, 3, none⟩ = some (.bool b0) ∧ w'.cell? ⟨wr.heap.size, 4, none⟩ = some (.bool c0) ∧ w'.cell? ⟨ga, i, none⟩ = some (.slice (some ⟨g, 0, none⟩) m cR))
          (refine ⟨?_, ?_, ?_, ?_, ?_, ?_⟩ <;> (repeat (with_reducible first | exact g0 | exact g1 | exact g2 | exact g3 | exact g4 | exact hrc | exact hgeg | exact hgag | refine cell_drew ?_ | refine cell_alloc _ ?_ | refine cell_farB ?_ ?_ _ | refine cell_later hb7 ?_)))
          (first
            | (go_at_call 42; refine (alterS_to _ _ _ _ _ _ _ _ _ _ HS.out w2).mono ?_; rintro e w7 ⟨rfl, hb7⟩; have hI7 := Lib.hid (hI2.out.to hb7); obtain ⟨_, fz, r0, r1, r2, r3, r4⟩ := hI7.out.facts HC.out hlt HE.out; simp only at r0 r1 r2 r3 r4))
        obtain ⟨w8, hw8⟩ : ∃ w8, w8 = putEn w7 g k (s0, s1, s2, s3, s4) := ⟨_, rfl⟩
        have hw8s : putEn w7 g k (shareE (k0, n0, a0, b0, c0)) = w8 := by rw [HS.out, hw8]
        have kE8 := bk_putEn (kE.to hb7) hgeg k (s0, s1, s2, s3, s4)
        rw [← hw8] at kE8
        unfold putEn at hw8
        rw [← hw8]
        have hce : childE (k0, n0, a0, b0, c0) = (s0, s1, s2, s3, false) := by unfold childE; rw [HS.out]; rfl
        have HW8 := Lib.hid hw8s
        have HCE := Lib.hid hce
        clear g0 g1 g2 g3 g4 fz r0 r1 r2 r3 r4 hw8 hw8s hce hrc hb7 kE hA2
        have g0 := kE8.cell 0
        have g1 := kE8.cell 1
        have g2 := kE8.cell 2
        have g3 := kE8.cell 3
        have g4 := kE8.cell 4
        simp at g0 g1 g2 g3 g4
        go_wp2_with (go_at_call 42; refine (alterC_to _ _ _ _ _ _ _ _ _ _ HS.out _).mono ?_; rintro e w9 ⟨rfl, hb9⟩; obtain ⟨fzc, y, x0, x1, x2, x3, x4⟩ := hI7.out.child HC.out hlt (w9 := w9) (by rw [HW8.out]; exact hb9))
        have hstep := ForkI.step HC.out hI7.out hlt HE.out (w9 := w9) (by rw [HW8.out]; exact hb9) hbg hw1
        rw [HCE.out] at hstep
        unfold putEn at hstep
        go_roundw
        case rel => exact ⟨k + 1, by omega, by go_num, hstep⟩
        case measure => simp [intOf]; omega
      · have hkm : k = m := by omega
        have hcell := hI.u.outer
        have hI' := Lib.hid hI
        have HKM := Lib.hid hkm
        have hnlt : ¬ (k : Int) < (m : Int) := by omega
        obtain ⟨i0, hi0, hz0, hz1, hz2⟩ := info_parts infoSE
        have hwn : (wr.alloc (.cells #[.slice (some ⟨w1.heap.size, 0, none⟩) m m] 69)).ownsRow w.heap.size 69 1 (.slice (some ⟨ga, 0, none⟩) n c') n vs := by
          have h1 := hI.u.outer
          rw [HC.out.dlen] at h1
          exact h1.alloc _
        have HWN := Lib.hid hwn
        have hgcl : w1.heap.size < wr.heap.size := hI.lt
        clear hI hcell hkm hwn
        go_wp2_with (at_builtin; refine wpList_append_own_at _ rfl _ _ 66 rfl w.heap.size 69 i0 (.slice none 0 0) 1 24 Tryd.underlying66 hi0 hz0 hz1 hz2 rfl (by decide) _ _ _ rfl HWN.out ⟨wr.heap.size, 0, none⟩ 1 1 [.slice (some ⟨w1.heap.size, 0, none⟩) m m] rfl rfl (cell_one_new _ _ _) (by intro u hu; rw [List.mem_singleton.1 hu]; rfl) (by unfold maxLen; omega) (by omega) (by simp; omega) ?_; intro v' w8 hown' hgrow hnil hloc; obtain ⟨A9, c9, rfl, hR9⟩ := own_slice hown')
        have hf1 : mixL shareE ((rowAt t i).map entW) ((rowAt t i).map entW) k = ((rowAt t i).map entW).map shareE := by
          have h1 := mixL_full (f := shareE) (E := (rowAt t i).map entW) (D := (rowAt t i).map entW) rfl
          rw [HML.out] at h1
          rw [HKM.out]
          exact h1
        have hf2 : mixL childE ((rowAt t i).map entW) (List.replicate m e0) k = ((rowAt t i).map entW).map childE := by
          have h1 := mixL_full (f := childE) (E := (rowAt t i).map entW) (D := List.replicate m e0) (by rw [List.length_replicate]; exact HML.out)
          rw [HML.out] at h1
          rw [HKM.out]
          exact h1
        have hu9 := hI'.out.u
        have hc9 := hI'.out.ch
        rw [hf1] at hu9
        rw [hf2] at hc9
        have hcl : (((rowAt t i).map entW).map childE).length = m := by rw [List.length_map]; exact HML.out
        have hdl : ((dec t).set i (((rowAt t i).map entW).map shareE)).length = n := HC.out.dlen _
        have hU9 := hu9.push2 (r := .slice (some ⟨w1.heap.size, 0, none⟩) m m) (l := ((rowAt t i).map entW).map childE) (by rw [hcl]; exact hc9) (.cells #[.slice (some ⟨w1.heap.size, 0, none⟩) m m] 69)
          (fun g e1 e2 => HC.out.off ((Option.some.inj (e2.trans e1.symm)))) (fun j q g hq e1 e2 => HC.out.offs j q hq (e2.trans e1.symm)) (by rw [hdl]; exact hown') hgrow hloc
        have hB8 : Below w.heap.size w w8 := (balloc hI'.out.b (.cells #[.slice (some ⟨w1.heap.size, 0, none⟩) m m] 69)).grown hgrow (by have := (balloc hI'.out.b (.cells #[.slice (some ⟨w1.heap.size, 0, none⟩) m m] 69)).size; exact this) (fun g hg => by have h1 : ga = g := Option.some.inj hg; omega)
        have hUO := hU9.uo
        have hL8 := HLay.out.below hB8
        have h11 : n + 1 ≤ 11 := by have := HN8.out; omega
        have hrows : ∀ l ∈ (dec t).set i (((rowAt t i).map entW).map shareE) ++ [((rowAt t i).map entW).map childE], l.length ≤ 70 := by
          intro l hl
          rcases List.mem_append.1 hl with hl | hl
          · rcases List.mem_or_eq_of_mem_set hl with hl | rfl
            · exact dec_rows (fun l hl => by have := HV.out.row l hl; omega) l hl
            · rw [List.length_map, HML.out]; omega
          · rw [List.mem_singleton.1 hl, hcl]; omega
        refine (shut_any A9 (n + 1) c9 _ w8 h11 (hUO.rr (by rw [List.length_append, hdl]; rfl)) hrows (fork_chk HV.out.ok HIT.out) hL8).mono ?_
        rintro e w9 ⟨rfl, hR, hb9⟩
        rw [fork_pack HV.out.ok HIT.out] at hR
        have hlt9 : (t.set i ((rowAt t i).map shareW) ++ [(rowAt t i).map childW]).length = n + 1 := by rw [List.length_append, List.length_set, Hlen.out]; rfl
        have HR9 := Lib.hid hR
        have HRES := Lib.hid (bnext hB8 hb9)
        clear hR hb9 hUO hL8 hrows hU9 hB8 hc9 hu9 hgrow hloc hown' hnil hR9
        go_wp2
        go_ret2
        rw [HRR.out]
        exact ⟨⟨.slice (some ⟨w8.heap.size, 0, none⟩) (n + 1) (n + 1), rfl, some ⟨w8.heap.size, 0, none⟩, n + 1, by rw [hlt9], by rw [hlt9]; exact HR9.out, Nat.le_of_eq hlt9⟩, HRES.out⟩
  · have HRR := Lib.hid (hbad (shE t).1 (by unfold forkE askT; rw [orE_l _ (by rw [orE_l _ h0]; exact h0), orE_l _ h0]) h0)
    have hne : ((shE t).1 != 0) = true := by simpa using h0
    have H0 := Lib.hid h0
    clear h0 hbad
    go_enter Tryd.func13, Tryd.ntmps13
    go_wp2_with fail
    refine HR.out.mono ?_
    rintro e w1 ⟨hb, ⟨hq, A', c', rfl, hU⟩ | ⟨hq, rfl⟩⟩
    · exact absurd hq H0.out
    · go_wp2
      go_ret2
      rw [HRR.out]
      exact ⟨⟨_, rfl, ShO.nil _⟩, hb⟩
end Go.Proofs.YtomndlnfidkdcaaDoor
