/- cow.decide, cow.Decide, cow.Counts. -/
import Derived.Test.YtomndlnfidkdcaaDoorCowA
namespace Go.Proofs.YtomndlnfidkdcaaDoor
open Go Go.Proofs Go.RowKit Go.Maps
set_option linter.unusedSimpArgs false
set_option linter.unusedVariables false
set_option maxRecDepth 100000

/-- What a write to an entry needs, by the counts of a table of entries. -/
def needU (U : List (List En5)) (e : En5) : Int := if e.1 = 0 then 1 else if e.1 = 2 then 5 else if e.2.2.1 = true then 2 else if tlyU U (useE e) = 1 then 3 else 4
theorem needU_dec (t : Sh) (x : Nat) : needU (dec t) (entW x) = needR t x := by
  unfold needU needR wrW useW
  by_cases h0 : (entW x).1 = 0
  · rw [if_pos h0, if_pos h0]
  · rw [if_neg h0, if_neg h0, tly_dec t (useE (entW x)) h0]
    have e : (((cntS t (useE (entW x)) : Nat) : Int) = 1) ↔ cntS t (useE (entW x)) = 1 := by omega
    simp only [e]

set_option maxHeartbeats 4000000 in
theorem decide_any (A : Option Addr) (n c : Nat) (U : List (List En5)) (k0 n0 : Int) (a0 b0 c0 : Bool) (w : World) (hn : n ≤ 11) (hU : RR ew 5 w A n U) (hl : ∀ l ∈ U, l.length ≤ 70) (hk : uok U) (h1 : i64ok k0) (h2 : i64ok n0) :
    Calls Tryd.prog 52 #[.slice A n c, .agg #[.int .i64 k0, .int .i64 n0, .bool a0, .bool b0, .bool c0]] w fun e w' => e = .returned (.int .i64 (needU U (k0, n0, a0, b0, c0))) ∧ Below w.heap.size w w' := by
  have hB0 := balloc (Below.refl _ w) (.cells #[.int .i64 k0, .int .i64 n0, .bool a0, .bool b0, .bool c0] 61)
  by_cases hk0 : k0 = 0
  · have hN : needU U (k0, n0, a0, b0, c0) = 1 := by simp [needU, hk0]
    rw [hN]
    subst hk0
    go_enter Tryd.func52, Tryd.ntmps52
    go_wp2_with fail
    go_ret
    exact ⟨rfl, hB0⟩
  by_cases hk2 : k0 = 2
  · have hN : needU U (k0, n0, a0, b0, c0) = 5 := by simp [needU, hk2]
    rw [hN]
    subst hk2
    go_enter Tryd.func52, Tryd.ntmps52
    go_wp2_with fail
    go_ret
    exact ⟨rfl, hB0⟩
  have hd0 : (k0 == 0) = false := by simpa using hk0
  have hd2 : (k0 == 2) = false := by simpa using hk2
  cases a0
  · have hN : needU U (k0, n0, false, b0, c0) = if tlyU U (k0, n0) = 1 then 3 else 4 := by unfold needU; rw [if_neg hk0, if_neg hk2]; rfl
    rw [hN]
    have HL := Lib.hid hl
    have HK := Lib.hid hk
    obtain ⟨lit, hkey⟩ := keyE (k0, n0) h1 h2
    have HKEY := Lib.hid hkey
    obtain ⟨cN, hcN⟩ : ∃ cN, cN = tlyU U (k0, n0) := ⟨_, rfl⟩
    rw [← hcN]
    have HCN := Lib.hid hcN
    clear hk0 hk2 hN hl hk hkey hcN h1 h2
    have hfin : ∀ b : Bool, (cN == 1) = b → True := fun _ _ => trivial
    clear hfin
    have kE := Bk.new w #[.int .i64 k0, .int .i64 n0, .bool false, .bool b0, .bool c0] 61
    have hUA := hU.alloc (.cells #[.int .i64 k0, .int .i64 n0, .bool false, .bool b0, .bool c0] 61)
    go_enter Tryd.func52, Tryd.ntmps52
    go_wp2_with fail
    generalize w.alloc (.cells #[.int .i64 k0, .int .i64 n0, .bool false, .bool b0, .bool c0] 61) = w1 at *
    have c0' := kE.cell 0
    have c1' := kE.cell 1
    have c2' := kE.cell 2
    have c3' := kE.cell 3
    have c4' := kE.cell 4
    simp at c0' c1' c2' c3' c4'
    have hUW : ∀ W, Below w1.heap.size w1 W → RR ew 5 W A n U := fun W h => hUA.to h
    have HUW := Lib.hid hUW
    have hdr : Below w1.heap.size w1 w1.drew := below_drew (Below.refl _ _)
    clear hUW hU hUA
    go_region_held3 (fun w' => w'.cell? ⟨w.heap.size, 0, none⟩ = some (.int .i64 k0) ∧ w'.cell? ⟨w.heap.size, 1, none⟩ = some (.int .i64 n0) ∧ w'.cell? ⟨w.heap.size, 2, none⟩ = some (.bool false) ∧ w'.cell? ⟨w.heap.size, 3, none⟩ = some (.bool b0) ∧ w'.cell? ⟨w.heap.size, 4, none⟩ = some (.bool c0))
      (refine ⟨?_, ?_, ?_, ?_, ?_⟩ <;> (repeat (with_reducible first | exact c0' | exact c1' | exact c2' | exact c3' | exact c4' | refine cell_drew ?_ | refine cell_later hb3 ?_ | refine cell_later hb2 ?_ | refine cell_later hb5 ?_ | refine cell_later hb4 ?_)))
      (first
        | (go_at_call 56; refine (tally_any A n c U _ hn (HUW.out _ (bnext hdr hb2)) HL.out HK.out).mono ?_; rintro e w3 ⟨rfl, hT3, hb3⟩; have hlk := TallyG.look lawE kf_inj Tryd.underlying81 (zeroI _) hT3 (k0, n0) HKEY.out; rw [← HCN.out] at hlk; simp only [kf] at hlk)
        | (go_at_call 56; refine (tally_any A n c U _ hn (HUW.out _ hdr) HL.out HK.out).mono ?_; rintro e w3 ⟨rfl, hT3, hb3⟩; have hT4 : TlyM w3 w1.heap.size U := hT3)
        | (go_at_call 60; refine (use_any _ _ _ _ _ _).mono ?_; rintro e w2 ⟨rfl, hb2⟩; have hlk := TallyG.look lawE kf_inj Tryd.underlying81 (zeroI _) (TallyG.to hT4 hb2) (k0, n0) HKEY.out; rw [← HCN.out] at hlk; simp only [kf] at hlk)
        | (go_at_call 60; refine (use_any _ _ _ _ _ _).mono ?_; rintro e w2 ⟨rfl, hb2⟩))
    all_goals
      by_cases hc : cN = 1
      · have hb1 : (cN == 1) = true := by simpa using hc
        have HC := Lib.hid hc
        clear hc
        go_wp2
        go_ret
        exact ⟨rfl, by first | exact bnext (bnext (below_drew hB0) hb3) hb2 | exact bnext (bnext (below_drew hB0) hb2) hb3⟩
      · have hb1 : (cN == 1) = false := by simpa using hc
        have HC := Lib.hid hc
        clear hc
        go_wp2
        go_ret
        exact ⟨rfl, by first | exact bnext (bnext (below_drew hB0) hb3) hb2 | exact bnext (bnext (below_drew hB0) hb2) hb3⟩
  · have hN : needU U (k0, n0, true, b0, c0) = 2 := by simp [needU, hk0, hk2]
    rw [hN]
    clear hk0 hk2 hN
    go_enter Tryd.func52, Tryd.ntmps52
    go_wp2_with fail
    go_ret
    exact ⟨rfl, hB0⟩

/-- An entry of a sharing that was opened, and what a write to it needs. -/
structure OpenD (w : World) (A : Option Addr) (n c : Nat) (t : Sh) (i j : Nat) : Prop where
  uo : UO w 0 (.slice A n c) (dec t)
  v : ShV t
  i_lt : i < t.length
  j_lt : j < (rowAt t i).length
  len : t.length = n
  few : n ≤ 11
theorem OpenD.to {w w' : World} {A : Option Addr} {n c : Nat} {t : Sh} {i j : Nat} (h : OpenD w A n c t i j) (hb : Below w.heap.size w w') : OpenD w' A n c t i j := ⟨h.uo.to hb, h.v, h.i_lt, h.j_lt, h.len, h.few⟩
theorem OpenD.rr {w : World} {A : Option Addr} {n c : Nat} {t : Sh} {i j : Nat} (h : OpenD w A n c t i j) : RR ew 5 w A n (dec t) := h.uo.rr (by rw [dec_len]; exact h.len)
theorem OpenD.rows {w : World} {A : Option Addr} {n c : Nat} {t : Sh} {i j : Nat} (h : OpenD w A n c t i j) : ∀ l ∈ dec t, l.length ≤ 70 := dec_rows fun l hl => by have := h.v.row l hl; omega
theorem OpenD.uok {w : World} {A : Option Addr} {n c : Nat} {t : Sh} {i j : Nat} (h : OpenD w A n c t i j) : uok (dec t) := dec_uok h.v.ok
theorem OpenD.unp {w : World} {A : Option Addr} {n c : Nat} {t : Sh} {i j : Nat} (h : OpenD w A n c t i j) : unpE (wordAt t i j) = 0 := h.v.ok _ (rowAt_mem h.i_lt) _ (wordAt_mem h.j_lt)
theorem decide_w {w : World} {A : Option Addr} {n c : Nat} {t : Sh} {i j : Nat} (h : OpenD w A n c t i j) {k0 n0 : Int} {a0 b0 c0 : Bool} (he : Hid (entW (wordAt t i j) = (k0, n0, a0, b0, c0))) :
    Calls Tryd.prog 52 #[.slice A n c, .agg #[.int .i64 k0, .int .i64 n0, .bool a0, .bool b0, .bool c0]] w fun e w' => e = .returned (.int .i64 (needR t (wordAt t i j))) ∧ Below w.heap.size w w' := by
  have h64 := ent_i64 _ h.unp
  rw [he.out] at h64
  rw [← needU_dec, he.out]
  exact decide_any A n c (dec t) k0 n0 a0 b0 c0 w h.few h.rr h.rows h.uok h64.1 h64.2
/-- The cells of the entry. -/
theorem OpenD.cells {w : World} {A : Option Addr} {n c : Nat} {t : Sh} {i j : Nat} (h : OpenD w A n c t i j) {k0 n0 : Int} {a0 b0 c0 : Bool} (he : Hid (entW (wordAt t i j) = (k0, n0, a0, b0, c0))) :
    ∃ bA off bR ofR m cR, A = some ⟨bA, off, none⟩ ∧ bA < w.heap.size ∧ w.cell? ⟨bA, off + i, none⟩ = some (.slice (some ⟨bR, ofR, none⟩) m cR) ∧ j < m ∧ m ≤ 64 ∧ bR < w.heap.size ∧ w.cell? ⟨bR, ofR + j * 5, none⟩ = some (.int .i64 k0) ∧ w.cell? ⟨bR, ofR + j * 5 + 1, none⟩ = some (.int .i64 n0) ∧
      w.cell? ⟨bR, ofR + j * 5 + 2, none⟩ = some (.bool a0) ∧ w.cell? ⟨bR, ofR + j * 5 + 3, none⟩ = some (.bool b0) ∧ w.cell? ⟨bR, ofR + j * 5 + 4, none⟩ = some (.bool c0) ∧ i < n := by
  have hrow : t[i]? = some (rowAt t i) := by
    unfold rowAt
    rw [List.getD_eq_getElem?_getD, List.getElem?_eq_getElem h.i_lt]
    rfl
  obtain ⟨bA, off, B, cR, hA, hbl, hc, hR⟩ := h.rr.row (i := i) (l := (rowAt t i).map entW) (by unfold dec; rw [List.getElem?_map, hrow]; rfl)
  rw [List.length_map] at hc hR
  have hent : ((rowAt t i).map entW)[j]? = some (k0, n0, a0, b0, c0) := by
    rw [List.getElem?_map, List.getElem?_eq_getElem h.j_lt, ← he.out]
    unfold wordAt
    rw [List.getD_eq_getElem?_getD, List.getElem?_eq_getElem h.j_lt]
    rfl
  obtain ⟨bR, ofR, hB, hbR, e0, e1, e2, e3, e4⟩ := hR.ent hent
  subst hB
  exact ⟨bA, off, bR, ofR, _, cR, hA, hbl, hc, h.j_lt, h.v.row _ (rowAt_mem h.i_lt), hbR, e0, e1, e2, e3, e4, by rw [← h.len]; exact h.i_lt⟩
theorem OpenR.ok {n : Nat} {t : Sh} {i j : Nat} {w w' : World} {A' : Option Addr} {c' : Nat} (h0 : askS t i j = 0) (hn : n ≤ 11) (hl : t.length = n) (hU : UO w' w.heap.size (.slice A' n c') (dec t)) : OpenD w' A' n c' t i j := by
  obtain ⟨hv, a, b, ha, hb, hi, hj⟩ := ask_zero h0
  obtain rfl : i = a := by omega
  obtain rfl : j = b := by omega
  exact ⟨hU.less (Nat.zero_le _), hv, hi, hj, hl, hn⟩

set_option maxHeartbeats 2000000 in
theorem Decide_any (A : Option Addr) (n c : Nat) (t : Sh) (table page : Int) (w : World) (h : InS w A n t) (hL : LayOK w) :
    Calls Tryd.prog 29 #[.slice A n c, .int .i64 table, .int .i64 page] w fun e w' => e = .returned (.tuple #[.int .i64 (decR t table page).1, .int .i64 (decR t table page).2]) ∧ Below w.heap.size w w' := by
  have HO := Lib.hid (open_any A n c t table page w h hL)
  have hn := h.few
  have Hlen := Lib.hid h.rr.len
  clear h
  by_cases h0 : askS t table page = 0
  · obtain ⟨hv, i, j, rfl, rfl, hi, hj⟩ := ask_zero h0
    have hR : decR t i j = (needR t (wordAt t i j), 0) := by unfold decR; rw [if_neg (by simp [h0])]; simp only [Int.toNat_natCast]
    have HRR := Lib.hid hR
    have H0 := Lib.hid h0
    clear hR h0 hv hi hj
    go_enter Tryd.func29, Tryd.ntmps29
    go_wp2_with fail
    refine HO.out.mono ?_
    rintro e w1 ⟨hb, ⟨_, A', c', rfl, hU⟩ | ⟨hq, rfl⟩⟩
    · have hD := OpenR.ok H0.out hn Hlen.out hU
      rcases hent : entW (wordAt t i j) with ⟨k0, n0, a0, b0, c0⟩
      have HE := Lib.hid hent
      obtain ⟨bA, off, bR, ofR, m, cR, rfl, hbA, cA, hjm, hm64, hbR, e0, e1, e2, e3, e4, hin⟩ := hD.cells HE
      clear hent hU
      go_wp2_with (go_at_call 52; refine (decide_w hD HE).mono ?_; rintro e w2 ⟨rfl, hb2⟩)
      go_ret2
      exact ⟨by rw [HRR.out]; rfl, bnext hb hb2⟩
    · exact absurd H0.out hq
  · have hR : decR t table page = (0, askS t table page) := by unfold decR; rw [if_pos h0]
    have hne : (askS t table page != 0) = true := by simpa using h0
    have HRR := Lib.hid hR
    have H0 := Lib.hid h0
    clear hR h0
    go_enter Tryd.func29, Tryd.ntmps29
    go_wp2_with fail
    refine HO.out.mono ?_
    rintro e w1 ⟨hb, ⟨hq, A', c', rfl, hU⟩ | ⟨hq, rfl⟩⟩
    · exact absurd hq H0.out
    · go_wp2
      go_ret2
      exact ⟨by rw [HRR.out]; rfl, hb⟩
end Go.Proofs.YtomndlnfidkdcaaDoor
