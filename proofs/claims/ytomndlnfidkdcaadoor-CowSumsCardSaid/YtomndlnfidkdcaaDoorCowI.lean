/- cow.Out. -/
import Derived.Test.YtomndlnfidkdcaaDoorCowH
namespace Go.Proofs.YtomndlnfidkdcaaDoor
open Go Go.Proofs Go.RowKit Go.Maps
set_option linter.unusedSimpArgs false
set_option linter.unusedVariables false
set_option maxRecDepth 100000

theorem out_chk {t : Sh} (h : ∀ l ∈ t, ∀ x ∈ l, unpE x = 0) (frame slot : Int) (h0 : 0 ≤ slot) (h1 : slot ≤ 255) : ∀ l ∈ (dec t).map (List.map (outF frame slot)), ∀ e ∈ l, chkE e = 0 := by
  intro l hl e he
  obtain ⟨m, hm, rfl⟩ := List.mem_map.1 hl
  obtain ⟨x, hx, rfl⟩ := List.mem_map.1 he
  unfold outF
  split
  · exact chk_slot slot h0 h1
  · exact dec_chk h m hm x hx
theorem shut_out {w : World} {A : Option Addr} {n c : Nat} {t : Sh} {frame slot : Int} (hU : UO w 0 (.slice A n c) ((dec t).map (List.map (outF frame slot)))) (hv : ShV t) (hl : t.length = n) (hn : n ≤ 11) (h0 : 0 ≤ slot) (h1 : slot ≤ 255) (hL : LayOK w) :
    Calls Tryd.prog 45 #[.slice A n c] w fun e' w' => (∃ v, e' = .returned v ∧ ShO w' v (t.map fun l => l.map (outW frame slot))) ∧ Below w.heap.size w w' := by
  have hlen : ((dec t).map (List.map (outF frame slot))).length = n := by rw [List.length_map, dec_len]; exact hl
  refine (shut_any A n c _ w hn (hU.rr hlen) (fun l hl => ?_) (out_chk hv.ok frame slot h0 h1) hL).mono ?_
  · obtain ⟨m, hm, rfl⟩ := List.mem_map.1 hl
    rw [List.length_map]
    exact dec_rows (fun l hl => by have := hv.row l hl; omega) m hm
  · rintro e' w' ⟨rfl, hR, hb⟩
    rw [out_pack hv.ok] at hR
    have hl2 : (t.map fun l => l.map (outW frame slot)).length = n := by rw [List.length_map]; exact hl
    exact ⟨⟨_, rfl, _, _, by rw [hl2], by rw [hl2]; exact hR, Nat.le_of_eq hl2⟩, hb⟩
/-- At the head of the loop over the tables: q tables are changed. -/
structure OutI (w w4 : World) (t : Sh) (A' : Option Addr) (n c' : Nat) (vs : List Value) (f s : Int) (M q : Nat) (wr : World) : Prop where
  u : UOv wr w.heap.size (.slice A' n c') (mixL (List.map (outF f s)) (dec t) (dec t) q) vs
  t : wr.heap[M]? = w4.heap[M]?
  b : Below w.heap.size w wr
  lt : w4.heap.size ≤ wr.heap.size
def OutV (w w4 : World) (t : Sh) (A' : Option Addr) (n c' : Nat) (vs : List Value) (f s : Int) (M : Nat) (v : Value) (wr : World) : Prop := ∃ q : Nat, q ≤ n ∧ v = .int .i64 q ∧ OutI w w4 t A' n c' vs f s M q wr
/-- Within table q: p entries are changed. -/
structure OutJ (w w4 : World) (t : Sh) (A' : Option Addr) (n c' : Nat) (vs : List Value) (f s : Int) (M q p : Nat) (wr : World) : Prop where
  u : UOv wr w.heap.size (.slice A' n c') ((mixL (List.map (outF f s)) (dec t) (dec t) q).set q (mixL (outF f s) ((rowAt t q).map entW) ((rowAt t q).map entW) p)) vs
  t : wr.heap[M]? = w4.heap[M]?
  b : Below w.heap.size w wr
  lt : w4.heap.size ≤ wr.heap.size
def OutW (w w4 : World) (t : Sh) (A' : Option Addr) (n c' : Nat) (vs : List Value) (f s : Int) (M q m : Nat) (v : Value) (wr : World) : Prop := ∃ p : Nat, p ≤ m ∧ v = .int .i64 p ∧ OutJ w w4 t A' n c' vs f s M q p wr
section
variable {w w4 wr w' : World} {t : Sh} {A' : Option Addr} {n c' : Nat} {vs : List Value} {f s : Int} {M q p : Nat}
theorem mixq_at (hq : q < t.length) : (mixL (List.map (outF f s)) (dec t) (dec t) q)[q]? = some ((rowAt t q).map entW) := (mixL_at rfl (by rw [dec_len]; omega)).trans (dec_at hq)
theorem mixq_len (hq : q ≤ t.length) : (mixL (List.map (outF f s)) (dec t) (dec t) q).length = t.length := by rw [mixL_len rfl (by rw [dec_len]; exact hq), dec_len]
theorem OutI.enter (h : OutI w w4 t A' n c' vs f s M q wr) (hq : q < t.length) : OutJ w w4 t A' n c' vs f s M q 0 wr := by
  refine ⟨?_, h.t, h.b, h.lt⟩
  obtain ⟨h3, h4⟩ := List.getElem?_eq_some_iff.1 (mixq_at (f := f) (s := s) hq)
  rw [mixL_zero, ← h4, List.set_getElem_self]
  exact h.u
theorem OutJ.leave (h : OutJ w w4 t A' n c' vs f s M q (rowAt t q).length wr) (hq : q < t.length) : OutI w w4 t A' n c' vs f s M (q + 1) wr := by
  refine ⟨?_, h.t, h.b, h.lt⟩
  have h1 := mixL_full (f := outF f s) (E := (rowAt t q).map entW) (D := (rowAt t q).map entW) rfl
  rw [List.length_map] at h1
  have h2 := h.u
  rw [h1, mixL_set rfl (dec_at hq)] at h2
  exact h2
theorem OutJ.to (h : OutJ w w4 t A' n c' vs f s M q p wr) (hM : M < w4.heap.size) (hb : Below wr.heap.size wr w') : OutJ w w4 t A' n c' vs f s M q p w' :=
  ⟨h.u.to hb, (hb.block M (Nat.lt_of_lt_of_le hM h.lt)).trans h.t, bnext h.b hb, Nat.le_trans h.lt hb.size⟩
theorem OutJ.skip (h : OutJ w w4 t A' n c' vs f s M q p wr) {e : En5} (he : ((rowAt t q).map entW)[p]? = some e) (hf : outF f s e = e) : OutJ w w4 t A' n c' vs f s M q (p + 1) wr := by
  refine ⟨?_, h.t, h.b, h.lt⟩
  rw [← mixL_keep he hf]
  exact h.u
/-- What the walk wants of an entry, and the world behind its change. -/
theorem OutJ.facts {g m cR : Nat} (h : OutJ w w4 t A' n c' vs f s M q p wr) (hq : q < t.length) (hl : t.length = n) (hr : vs[q]? = some (.slice (some ⟨g, 0, none⟩) m cR)) {e : En5} (he : ((rowAt t q).map entW)[p]? = some e) (hM : M < w.heap.size ∨ w.heap.size ≤ M) (hMg : M ≠ g) :
    (∀ o, wr.frozen? ⟨g, o, none⟩ = false) ∧ (wr.cell? ⟨g, p * 5, none⟩ = some (.int .i64 e.1) ∧ wr.cell? ⟨g, p * 5 + 1, none⟩ = some (.int .i64 e.2.1) ∧ wr.cell? ⟨g, p * 5 + 2, none⟩ = some (.bool e.2.2.1) ∧ wr.cell? ⟨g, p * 5 + 3, none⟩ = some (.bool e.2.2.2.1) ∧ wr.cell? ⟨g, p * 5 + 4, none⟩ = some (.bool e.2.2.2.2)) ∧
      (∃ ga, A' = some ⟨ga, 0, none⟩ ∧ wr.cell? ⟨ga, q, none⟩ = some (.slice (some ⟨g, 0, none⟩) m cR) ∧ ga < wr.heap.size) ∧ w.heap.size ≤ g ∧ g < wr.heap.size ∧ OutJ w w4 t A' n c' vs f s M q (p + 1) (putEn wr g p (outF f s e)) := by
  have hlen : ((mixL (List.map (outF f s)) (dec t) (dec t) q).set q (mixL (outF f s) ((rowAt t q).map entW) ((rowAt t q).map entW) p)).length = n := by rw [List.length_set, mixq_len (Nat.le_of_lt hq)]; exact hl
  have hdi : ((mixL (List.map (outF f s)) (dec t) (dec t) q).set q (mixL (outF f s) ((rowAt t q).map entW) ((rowAt t q).map entW) p))[q]? = some (mixL (outF f s) ((rowAt t q).map entW) ((rowAt t q).map entW) p) := List.getElem?_set_self (by rw [mixq_len (Nat.le_of_lt hq)]; exact hq)
  have hp := (List.getElem?_eq_some_iff.1 he).1
  have hmk : (mixL (outF f s) ((rowAt t q).map entW) ((rowAt t q).map entW) p)[p]? = some e := (mixL_at rfl (Nat.le_of_lt hp)).trans he
  obtain ⟨ga, capa, hva, hba, hla⟩ := h.u.outer.form (by rw [hlen]; omega)
  have hA : A' = some ⟨ga, 0, none⟩ := by injection hva
  subst hA
  have hc := h.u.cell hlen hr
  obtain ⟨a1, a2, a3⟩ := h.u.put_at hlen hdi hmk hc
  have hgb := h.u.row_lt hr (show Value.ownBlock (.slice (some ⟨g, 0, none⟩) m cR) = some g from rfl)
  have h5 := a3 (outF f s e)
  rw [mixL_set rfl he, List.set_set] at h5
  refine ⟨a1, a2, ⟨ga, rfl, hc, hla⟩, hgb.1, hgb.2, h5, ?_, below_putEn h.b hgb.1 p _, ?_⟩
  · rw [← h.t]
    have hgr := putEn_grown wr g p (outF f s e)
    rcases Nat.lt_or_ge M wr.heap.size with h6 | h6
    · exact hgr.block M h6 (fun e1 => hMg (by cases e1; rfl))
    · exact (Array.getElem?_eq_none (by simpa using h6)).trans (Array.getElem?_eq_none h6).symm
  · have := h.lt
    simpa using this
end

set_option maxHeartbeats 8000000 in
theorem Out_any (A : Option Addr) (n c : Nat) (t : Sh) (frame slot : Int) (w : World) (h : InS w A n t) (hL : LayOK w) :
    Calls Tryd.prog 22 #[.slice A n c, .int .i64 frame, .int .i64 slot] w fun e w' => BrkO (outR t frame slot) w w' e := by
  have HR := Lib.hid (h.read c hL)
  have hn := h.few
  have Hlen := Lib.hid h.rr.len
  have HLay := Lib.hid hL
  clear h hL
  have hbad : ∀ z, outE2 t frame slot = z → z ≠ 0 → outR t frame slot = ([], 0, z) := fun z hz hne => by unfold outR; rw [if_pos (by rw [hz]; exact hne), hz]
  by_cases h0 : (shE t).1 = 0
  · have H0 := Lib.hid h0
    have hFE : outE2 t frame slot = (if frame < 0 ∨ 256 ≤ frame ∨ slot < 0 ∨ 256 ≤ slot then 2 else if cntS t (1, frame) = 0 then 9 else if 0 < cntS t (2, slot) then 7 else 0) := by unfold outE2; rw [orE_r _ h0]
    have HV := Lib.hid ((sh_iff t).1 h0)
    have HLEN := Lib.hid (show (dec t).length = n by rw [dec_len]; exact Hlen.out)
    clear h0
    by_cases h1 : frame < 0
    · have HRR := Lib.hid (hbad 2 (by rw [hFE, if_pos (.inl h1)]) (by decide))
      clear hFE hbad
      go_enter Tryd.func22, Tryd.ntmps22
      go_wp2_with fail
      refine HR.out.mono ?_
      rintro e w1 ⟨hb, ⟨hq, A', c', rfl, hU⟩ | ⟨hq, rfl⟩⟩
      rotate_left
      · exact absurd H0.out hq
      have hrr := hU.rr HLEN.out
      obtain ⟨vs, hu⟩ := hU
      have HB := Lib.hid hb
      clear hb
      go_wp2_with fail
      refine (tally_any A' n c' (dec t) _ hn hrr (dec_rows fun l hl => by have := HV.out.row l hl; omega) (dec_uok HV.out.ok)).mono ?_
      rintro e w2 ⟨rfl, hT2, hb2⟩
      clear hrr
      go_wp2
      go_ret3
      rw [HRR.out]
      exact ⟨⟨_, rfl, ShO.nil _⟩, bnext HB.out hb2⟩
    by_cases h2 : 256 ≤ frame
    · have HRR := Lib.hid (hbad 2 (by rw [hFE, if_pos (.inr (.inl h2))]) (by decide))
      clear hFE hbad
      go_enter Tryd.func22, Tryd.ntmps22
      go_wp2_with fail
      refine HR.out.mono ?_
      rintro e w1 ⟨hb, ⟨hq, A', c', rfl, hU⟩ | ⟨hq, rfl⟩⟩
      rotate_left
      · exact absurd H0.out hq
      have hrr := hU.rr HLEN.out
      obtain ⟨vs, hu⟩ := hU
      have HB := Lib.hid hb
      clear hb
      go_wp2_with fail
      refine (tally_any A' n c' (dec t) _ hn hrr (dec_rows fun l hl => by have := HV.out.row l hl; omega) (dec_uok HV.out.ok)).mono ?_
      rintro e w2 ⟨rfl, hT2, hb2⟩
      clear hrr
      go_wp2
      go_ret3
      rw [HRR.out]
      exact ⟨⟨_, rfl, ShO.nil _⟩, bnext HB.out hb2⟩
    by_cases h3 : slot < 0
    · have HRR := Lib.hid (hbad 2 (by rw [hFE, if_pos (.inr (.inr (.inl h3)))]) (by decide))
      clear hFE hbad
      go_enter Tryd.func22, Tryd.ntmps22
      go_wp2_with fail
      refine HR.out.mono ?_
      rintro e w1 ⟨hb, ⟨hq, A', c', rfl, hU⟩ | ⟨hq, rfl⟩⟩
      rotate_left
      · exact absurd H0.out hq
      have hrr := hU.rr HLEN.out
      obtain ⟨vs, hu⟩ := hU
      have HB := Lib.hid hb
      clear hb
      go_wp2_with fail
      refine (tally_any A' n c' (dec t) _ hn hrr (dec_rows fun l hl => by have := HV.out.row l hl; omega) (dec_uok HV.out.ok)).mono ?_
      rintro e w2 ⟨rfl, hT2, hb2⟩
      clear hrr
      go_wp2
      go_ret3
      rw [HRR.out]
      exact ⟨⟨_, rfl, ShO.nil _⟩, bnext HB.out hb2⟩
    by_cases h4 : 256 ≤ slot
    · have HRR := Lib.hid (hbad 2 (by rw [hFE, if_pos (.inr (.inr (.inr h4)))]) (by decide))
      clear hFE hbad
      go_enter Tryd.func22, Tryd.ntmps22
      go_wp2_with fail
      refine HR.out.mono ?_
      rintro e w1 ⟨hb, ⟨hq, A', c', rfl, hU⟩ | ⟨hq, rfl⟩⟩
      rotate_left
      · exact absurd H0.out hq
      have hrr := hU.rr HLEN.out
      obtain ⟨vs, hu⟩ := hU
      have HB := Lib.hid hb
      clear hb
      go_wp2_with fail
      refine (tally_any A' n c' (dec t) _ hn hrr (dec_rows fun l hl => by have := HV.out.row l hl; omega) (dec_uok HV.out.ok)).mono ?_
      rintro e w2 ⟨rfl, hT2, hb2⟩
      clear hrr
      go_wp2
      go_ret3
      rw [HRR.out]
      exact ⟨⟨_, rfl, ShO.nil _⟩, bnext HB.out hb2⟩
    obtain ⟨f, rfl⟩ : ∃ f : Nat, frame = f := ⟨frame.toNat, by omega⟩
    obtain ⟨s, rfl⟩ : ∃ s : Nat, slot = s := ⟨slot.toNat, by omega⟩
    have hf : f < 256 := by omega
    have hs : s < 256 := by omega
    rw [if_neg (by omega)] at hFE
    have hzf : ((f : Int) < 0) = False := by simp
    have hzs : ((s : Int) < 0) = False := by simp
    have hzf2 : (256 ≤ f) = False := by simp; omega
    have hzs2 : (256 ≤ s) = False := by simp; omega
    have hzf3 : ((256 : Int) ≤ (f : Int)) = False := by simp; omega
    have hzs3 : ((256 : Int) ≤ (s : Int)) = False := by simp; omega
    clear h1 h2 h3 h4
    obtain ⟨lit, hkey⟩ := keyE (1, (f : Int)) (by unfold i64ok; simp only; omega) (by unfold i64ok; simp only; omega)
    have HKF := Lib.hid hkey
    have hty := tly_dec t (1, (f : Int)) (by simp)
    obtain ⟨cF, hcF⟩ : ∃ cF, cF = tlyU (dec t) (1, (f : Int)) := ⟨_, rfl⟩
    have HCF := Lib.hid hcF
    rw [← hcF] at hty
    obtain ⟨lit2, hkey2⟩ := keyE (2, (s : Int)) (by unfold i64ok; simp only; omega) (by unfold i64ok; simp only; omega)
    have HKS := Lib.hid hkey2
    have hty2 := tly_dec t (2, (s : Int)) (by simp)
    obtain ⟨cS, hcS⟩ : ∃ cS, cS = tlyU (dec t) (2, (s : Int)) := ⟨_, rfl⟩
    have HCS := Lib.hid hcS
    rw [← hcS] at hty2
    clear hkey hkey2 hcF hcS
    by_cases hc : cntS t (1, (f : Int)) = 0
    · have hz : cF = 0 := by omega
      subst hz
      have HRR := Lib.hid (hbad 9 (by rw [hFE, if_pos hc]) (by decide))
      clear hFE hbad hty hty2 hc
      go_enter Tryd.func22, Tryd.ntmps22
      go_wp2_with fail
      refine HR.out.mono ?_
      rintro e w1 ⟨hb, ⟨hq, A', c', rfl, hU⟩ | ⟨hq, rfl⟩⟩
      rotate_left
      · exact absurd H0.out hq
      have hrr := hU.rr HLEN.out
      obtain ⟨vs, hu⟩ := hU
      have HB := Lib.hid hb
      clear hb
      go_wp2_with fail
      refine (tally_any A' n c' (dec t) _ hn hrr (dec_rows fun l hl => by have := HV.out.row l hl; omega) (dec_uok HV.out.ok)).mono ?_
      rintro e w2 ⟨rfl, hT2, hb2⟩
      clear hrr
      go_wp2_with (go_at_call 57; refine (frameUse_any _ _).mono ?_; rintro e w3 ⟨rfl, hb3⟩; have hT3 : TlyM w3 w1.heap.size (dec t) := TallyG.to hT2 hb3; have hlk := TallyG.look lawE kf_inj Tryd.underlying81 (zeroI _) hT3 (1, (f : Int)) HKF.out; rw [← HCF.out] at hlk; simp only [kf] at hlk)
      go_ret3
      rw [HRR.out]
      exact ⟨⟨_, rfl, ShO.nil _⟩, bnext (bnext HB.out hb2) hb3⟩
    have hbF : (cF == 0) = false := by simp; omega
    by_cases hc2 : 0 < cntS t (2, (s : Int))
    · have hgt : 0 < cS := by omega
      have HRR := Lib.hid (hbad 7 (by rw [hFE, if_neg hc, if_pos hc2]) (by decide))
      clear hFE hbad hty hty2 hc hc2
      go_enter Tryd.func22, Tryd.ntmps22
      go_wp2_with fail
      refine HR.out.mono ?_
      rintro e w1 ⟨hb, ⟨hq, A', c', rfl, hU⟩ | ⟨hq, rfl⟩⟩
      rotate_left
      · exact absurd H0.out hq
      have hrr := hU.rr HLEN.out
      obtain ⟨vs, hu⟩ := hU
      have HB := Lib.hid hb
      clear hb
      go_wp2_with fail
      refine (tally_any A' n c' (dec t) _ hn hrr (dec_rows fun l hl => by have := HV.out.row l hl; omega) (dec_uok HV.out.ok)).mono ?_
      rintro e w2 ⟨rfl, hT2, hb2⟩
      clear hrr
      go_wp2_with (first | (go_at_call 57; refine (frameUse_any _ _).mono ?_; rintro e w3 ⟨rfl, hb3⟩; have hT3 : TlyM w3 w1.heap.size (dec t) := TallyG.to hT2 hb3; have hlk := TallyG.look lawE kf_inj Tryd.underlying81 (zeroI _) hT3 (1, (f : Int)) HKF.out; rw [← HCF.out] at hlk; simp only [kf] at hlk) | (go_at_call 61; refine (slotUse_any _ _).mono ?_; rintro e w4 ⟨rfl, hb4⟩; have hT4 : TlyM w4 w1.heap.size (dec t) := TallyG.to hT3 hb4; have hlk2 := TallyG.look lawE kf_inj Tryd.underlying81 (zeroI _) hT4 (2, (s : Int)) HKS.out; rw [← HCS.out] at hlk2; simp only [kf] at hlk2))
      go_ret3
      rw [HRR.out]
      exact ⟨⟨_, rfl, ShO.nil _⟩, bnext (bnext (bnext HB.out hb2) hb3) hb4⟩
    have hz : cS = 0 := by omega
    subst hz
    have hR : outR t f s = (t.map fun l => l.map (outW f s), (cF : Int), 0) := by unfold outR; rw [if_neg (by rw [hFE, if_neg hc, if_neg hc2]; simp), hty]
    have HRR := Lib.hid hR
    clear hFE hbad hty hty2 hc hc2 hR
    go_enter Tryd.func22, Tryd.ntmps22
    go_wp2_with fail
    refine HR.out.mono ?_
    rintro e w1 ⟨hb, ⟨hq, A', c', rfl, hU⟩ | ⟨hq, rfl⟩⟩
    rotate_left
    · exact absurd H0.out hq
    have hrr := hU.rr HLEN.out
    obtain ⟨vs, hu⟩ := hU
    have HB := Lib.hid hb
    clear hb
    go_wp2_with fail
    refine (tally_any A' n c' (dec t) _ hn hrr (dec_rows fun l hl => by have := HV.out.row l hl; omega) (dec_uok HV.out.ok)).mono ?_
    rintro e w2 ⟨rfl, hT2, hb2⟩
    clear hrr
    go_wp2_with (first | (go_at_call 57; refine (frameUse_any _ _).mono ?_; rintro e w3 ⟨rfl, hb3⟩; have hT3 : TlyM w3 w1.heap.size (dec t) := TallyG.to hT2 hb3; have hlk := TallyG.look lawE kf_inj Tryd.underlying81 (zeroI _) hT3 (1, (f : Int)) HKF.out; rw [← HCF.out] at hlk; simp only [kf] at hlk) | (go_at_call 61; refine (slotUse_any _ _).mono ?_; rintro e w4 ⟨rfl, hb4⟩; have hT4 : TlyM w4 w1.heap.size (dec t) := TallyG.to hT3 hb4; have hlk2 := TallyG.look lawE kf_inj Tryd.underlying81 (zeroI _) hT4 (2, (s : Int)) HKS.out; rw [← HCS.out] at hlk2; simp only [kf] at hlk2))
    have hM4 : w1.heap.size < w4.heap.size := hT4.lt
    have hB4 : Below w1.heap.size w1 w4 := bnext (bnext hb2 hb3) hb4
    have hst : OutI w w4 t A' n c' vs (f : Int) (s : Int) w1.heap.size 0 w4 := ⟨by rw [mixL_zero]; exact hu.to hB4, rfl, bnext HB.out hB4, Nat.le_refl _⟩
    have HST := Lib.hid hst
    have HU1 := Lib.hid hu
    have HT4 := Lib.hid hT4
    have hw1 : w.heap.size ≤ w1.heap.size := HB.out.size
    clear hst hu hT4 hT2 hlk hlk2 hb2 hb3 hb4 hB4
    go_wp2
    go_loopw [57] (OutV w w4 t A' n c' vs (f : Int) (s : Int) w1.heap.size) (fun k _ => n - (intOf k).toNat)
    case atStart => exact ⟨0, Nat.zero_le _, rfl, HST.out⟩
    case round =>
      obtain ⟨q, hq, rfl, hI⟩ := hrel
      by_cases hlt : q < n
      · have hqt : q < t.length := by rw [Hlen.out]; exact hlt
        have hlt2 : (q : Int) < (n : Int) := by omega
        obtain ⟨r, hr, ho⟩ := HU1.out.rows q _ (dec_at hqt)
        obtain ⟨m, hm⟩ : ∃ m, m = (rowAt t q).length := ⟨_, rfl⟩
        have hml : ((rowAt t q).map entW).length = m := by rw [List.length_map]; exact hm.symm
        have hrf : (m = 0) ∨ ∃ g cR, r = .slice (some ⟨g, 0, none⟩) m cR ∧ w.heap.size ≤ g ∧ g < w1.heap.size := by
          rcases Nat.eq_zero_or_pos m with h1 | h1
          · exact .inl h1
          · obtain ⟨g, cR, h2, h3, h4⟩ := ho.form (by rw [hml]; exact h1)
            exact .inr ⟨g, cR, by rw [h2, hml], h3, h4⟩
        obtain ⟨B, cR, rfl, hRB⟩ := own_slice ho
        rw [hml] at hr hRB hrf
        have hrf2 : (m = 0) ∨ ∃ g, B = some ⟨g, 0, none⟩ ∧ w.heap.size ≤ g ∧ g < w1.heap.size := by
          rcases hrf with h1 | ⟨g, cR', h2, h3, h4⟩
          · exact .inl h1
          · injection h2 with h2
            exact .inr ⟨g, h2, h3, h4⟩
        have hRF := Lib.hid hrf2
        obtain ⟨ga, capa, hva, hba, hla⟩ := HU1.out.outer.form (by rw [HLEN.out]; omega)
        have hA : A' = some ⟨ga, 0, none⟩ := by injection hva
        subst hA
        have hrc := hI.u.cell (by rw [mixq_len (Nat.le_of_lt hqt)]; exact Hlen.out) hr
        have hgaw : ga < wr.heap.size := by have := hI.lt; omega
        have HJ0 := Lib.hid (hI.enter hqt)
        have HROW := Lib.hid hr
        have HQT := Lib.hid hqt
        have HM := Lib.hid hm
        have HML := Lib.hid hml
        have hm64 : m ≤ 64 := by rw [hm]; exact HV.out.row _ (rowAt_mem hqt)
        have HROK := Lib.hid (HV.out.ok _ (rowAt_mem hqt))
        clear hI hrf hrf2 hRB ho hr hva hqt hm hml
        go_wp2
        clear hrc
        go_loopw [63] (OutW w w4 t (some ⟨ga, 0, none⟩) n c' vs (f : Int) (s : Int) w1.heap.size q m) (fun k _ => m - (intOf k).toNat)
        case atStart => exact ⟨0, Nat.zero_le _, rfl, HJ0.out⟩
        case round =>
          obtain ⟨p, hp, rfl, hJ⟩ := hrel
          by_cases hltp : p < m
          · rcases hRF.out with h1 | ⟨g, rfl, hbg, hgg⟩
            · exact absurd hltp (by omega)
            have hltp2 : (p : Int) < (m : Int) := by omega
            obtain ⟨x, hx⟩ : ∃ x, (rowAt t q)[p]? = some x := ⟨_, List.getElem?_eq_getElem (by rw [← HM.out]; exact hltp)⟩
            have hxok : unpE x = 0 := HROK.out x (List.mem_of_getElem? hx)
            have h64 := ent_i64 x hxok
            have hE : ((rowAt t q).map entW)[p]? = some (entW x) := by rw [List.getElem?_map, hx]; rfl
            rcases hent : entW x with ⟨k0, n0, a0, b0, c0⟩
            rw [hent] at h64 hE
            have HE := Lib.hid hE
            have hgM : w1.heap.size ≠ g := by omega
            obtain ⟨fz, ⟨r0, r1, r2, r3, r4⟩, _, _, hgw, _⟩ := hJ.facts HQT.out Hlen.out HROW.out HE.out (.inr hw1) hgM
            simp only at r0 r1 r2 r3 r4
            obtain ⟨bE, hbE⟩ : ∃ bE, bE = decide ((k0, n0) = ((1 : Int), (f : Int))) := ⟨_, rfl⟩
            have heq : ∀ W, (Op.equalIn 10000 61 (.agg #[.int .i64 k0, .int .i64 n0, .bool false, .bool false, .bool false]) (.agg #[.int .i64 1, .int .i64 (f : Int), .bool false, .bool false, .bool false])).run Tryd.prog W = .ok bE W := fun W => eql_use W (k0, n0) (1, (f : Int)) h64 (by unfold i64ok; simp only; omega) bE hbE
            have HBE := Lib.hid hbE
            clear hx hxok hE hent hbE h64
            go_wp2_with fail
            have hA2 : Below wr.heap.size wr (wr.alloc (.cells #[.int .i64 k0, .int .i64 n0, .bool a0, .bool b0, .bool c0] 61)) := balloc (Below.refl _ _) _
            have kE := Bk.new wr #[.int .i64 k0, .int .i64 n0, .bool a0, .bool b0, .bool c0] 61
            have hJ5 := hJ.to hM4 hA2
            have hgeg : wr.heap.size ≠ g := by omega
            clear hJ fz r0 r1 r2 r3 r4 hA2
            generalize wr.alloc (.cells #[.int .i64 k0, .int .i64 n0, .bool a0, .bool b0, .bool c0] 61) = w5 at *
            have HJ5 := Lib.hid hJ5
            clear hJ5
            cases bE
            · refine (use_any _ _ _ _ _ _).mono ?_
              rintro e w6 ⟨rfl, hb6⟩
              go_wp2_with (go_at_call 57; refine (frameUse_any _ _).mono ?_; rintro e w7 ⟨rfl, hb7⟩)
              have hnF : outF (f : Int) (s : Int) (k0, n0, a0, b0, c0) = (k0, n0, a0, b0, c0) := by
                unfold outF
                rw [if_neg (show ¬ useE (k0, n0, a0, b0, c0) = (1, (f : Int)) from of_decide_eq_false HBE.out.symm)]
              have hJ8 := (HJ5.out.to hM4 (bnext hb6 hb7)).skip HE.out hnF
              go_roundw
              case rel => exact ⟨p + 1, by omega, by go_num, hJ8⟩
              case measure => simp [intOf]; omega
            · refine (use_any _ _ _ _ _ _).mono ?_
              rintro e w6 ⟨rfl, hb6⟩
              go_wp2_with (go_at_call 57; refine (frameUse_any _ _).mono ?_; rintro e w7 ⟨rfl, hb7⟩)
              have hnF : outF (f : Int) (s : Int) (k0, n0, a0, b0, c0) = (2, (s : Int), false, false, false) := by
                unfold outF
                rw [if_pos (show useE (k0, n0, a0, b0, c0) = (1, (f : Int)) from of_decide_eq_true HBE.out.symm)]
              have HNF := Lib.hid hnF
              have HJ7 := Lib.hid (HJ5.out.to hM4 (bnext hb6 hb7))
              replace kE := kE.to (bnext hb6 hb7)
              have g0 := kE.cell 0
              have g1 := kE.cell 1
              have g2 := kE.cell 2
              have g3 := kE.cell 3
              have g4 := kE.cell 4
              simp at g0 g1 g2 g3 g4
              clear hb6 hb7 hnF kE heq
              go_region_held3 (fun w' => w'.cell? ⟨wr.heap.size, 0, none⟩ = some (.int .i64 k0) ∧ w'.cell? ⟨wr.heap.size, 1, none⟩ = some (.int .i64 n0) ∧ w'.cell? ⟨wr.heap.size, 2, none⟩ = some (.bool a0) ∧ w'.cell? ⟨wr.heap.size, 3, none⟩ = some (.bool b0) ∧ w'.cell? ⟨wr.heap.size, 4, none⟩ = some (.bool c0))
                (refine ⟨?_, ?_, ?_, ?_, ?_⟩ <;> (repeat (with_reducible first | exact g0 | exact g1 | exact g2 | exact g3 | exact g4 | exact hgeg | refine cell_drew ?_ | refine cell_alloc _ ?_ | refine cell_farB ?_ ?_ _ | refine cell_later hb8 ?_ | refine cell_later hb9 ?_)))
                (first
                  | (go_at_call 61; refine (slotUse_any _ _).mono ?_; rintro e w8 ⟨rfl, hb8⟩)
                  | (go_at_call 58; refine (become_any _ _ _ _ _ _).mono ?_; rintro e wz ⟨rfl, rfl⟩)
                  | (go_at_call 42; refine (alterB_new0 (2, (s : Int), false, false, false) _ _ _ _ _ w8).mono ?_; rintro e w9 ⟨rfl, hb9⟩; obtain ⟨fz, ⟨r0, r1, r2, r3, r4⟩, _, _, _, hput⟩ := (HJ7.out.to hM4 (bnext (bnext (below_drew (Below.refl _ w7)) hb8) hb9)).facts HQT.out Hlen.out HROW.out HE.out (.inr hw1) hgM; simp only at r0 r1 r2 r3 r4))
              rw [HNF.out] at hput
              unfold putEn at hput
              go_wp2
              go_roundw
              case rel => exact ⟨p + 1, by omega, by go_num, hput⟩
              case measure => simp [intOf]; omega
          · have hpm : p = (rowAt t q).length := by rw [← HM.out]; omega
            have hJm : OutJ w w4 t (some ⟨ga, 0, none⟩) n c' vs (f : Int) (s : Int) w1.heap.size q (rowAt t q).length wr := by rw [← hpm]; exact hJ
            have hI8 := Lib.hid (hJm.leave HQT.out)
            clear hJ hJm hpm
            go_wp2
            go_roundw
            case rel => exact ⟨q + 1, by omega, by go_num, hI8.out⟩
            case measure => simp [intOf]; omega
      · have hfull := mixL_full (f := List.map (outF (f : Int) (s : Int))) (E := dec t) (D := dec t) rfl
        rw [HLEN.out, show n = q by omega] at hfull
        have hu9 := hI.u
        rw [hfull] at hu9
        have HU9 := Lib.hid hu9.uo
        have HB9 := Lib.hid hI.b
        have HL9 := Lib.hid (HLay.out.below hI.b)
        have HT9 : Hid (TlyM wr w1.heap.size (dec t)) := Lib.hid (TallyG.block HT4.out hI.t)
        clear hI hu9 hfull
        go_wp2_with fail
        have hdr : Below wr.heap.size wr wr.drew := below_drew (Below.refl _ _)
        go_region_held3 (fun _ => True) (trivial)
          (first
            | (go_at_call 57; refine (frameUse_any _ _).mono ?_; rintro e w10 ⟨rfl, hb10⟩; have hB10 : Below wr.heap.size wr w10 := (by first | exact bnext (bnext hdr hb11) hb10 | exact bnext hdr hb10); have hlk := TallyG.look lawE kf_inj Tryd.underlying81 (zeroI _) (TallyG.to HT9.out hB10) (1, (f : Int)) HKF.out; rw [← HCF.out] at hlk; simp only [kf] at hlk)
            | (go_at_call 45; have hB0 : Below wr.heap.size wr w10 := bnext hdr hb10; refine (shut_out (HU9.out.to hB0) HV.out Hlen.out hn (by omega) (by omega) (HL9.out.below hB0)).mono ?_; rintro e w11 ⟨⟨v9, rfl, hs9⟩, hb11⟩; have hlk := TallyG.look lawE kf_inj Tryd.underlying81 (zeroI _) (TallyG.to HT9.out (bnext hB0 hb11)) (1, (f : Int)) HKF.out; rw [← HCF.out] at hlk; simp only [kf] at hlk)
            | (go_at_call 45; refine (shut_out (HU9.out.to hdr) HV.out Hlen.out hn (by omega) (by omega) (HL9.out.below hdr)).mono ?_; rintro e w11 ⟨⟨v9, rfl, hs9⟩, hb11⟩))
        all_goals
          first
            | (have hs10 := hs9.to hb10
               go_wp2
               go_ret3
               rw [HRR.out]
               exact ⟨⟨v9, rfl, hs10⟩, bnext (bnext (below_drew HB9.out) hb11) hb10⟩)
            | (go_wp2
               go_ret3
               rw [HRR.out]
               exact ⟨⟨v9, rfl, hs9⟩, bnext (bnext (below_drew HB9.out) hb10) hb11⟩)
  · have HRR := Lib.hid (hbad (shE t).1 (by unfold outE2; rw [orE_l _ h0]) h0)
    have hne : ((shE t).1 != 0) = true := by simpa using h0
    have H0 := Lib.hid h0
    clear h0 hbad
    go_enter Tryd.func22, Tryd.ntmps22
    go_wp2_with fail
    refine HR.out.mono ?_
    rintro e w1 ⟨hb, ⟨hq, A', c', rfl, hU⟩ | ⟨hq, rfl⟩⟩
    · exact absurd hq H0.out
    · go_wp2
      go_ret3
      rw [HRR.out]
      exact ⟨⟨_, rfl, ShO.nil _⟩, hb⟩
end Go.Proofs.YtomndlnfidkdcaaDoor
