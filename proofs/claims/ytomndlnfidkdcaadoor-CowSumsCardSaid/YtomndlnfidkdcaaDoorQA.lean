/- Several texts in one. -/
import Derived.Test.YtomndlnfidkdcaaDoorCowI
import Derived.Test.YtomndlnfidkdcaaDoorTab1
/- headgateref26: entry, word, uses. -/
namespace Go.Proofs.YtomndlnfidkdcaaDoor
open Go Go.Proofs Go.RowKit Go.Maps
set_option linter.unusedSimpArgs false
set_option linter.unusedVariables false
set_option maxRecDepth 100000

set_option maxHeartbeats 1000000 in
theorem rEntry_any (x : Nat) (w : World) (hx : x < 18446744073709551616) (k n : Int) (a b c : Bool) (he : entW x = (k, n, a, b, c)) :
    Calls Tryd.prog 48 #[.int .u64 x] w fun e w' => e = .returned (.agg #[.int .i64 k, .int .i64 n, .bool a, .bool b, .bool c]) ∧ Below w.heap.size w w' := by
  have hv : (unpR x).1 = (k, n, a, b, c) := he
  have HV := Lib.hid hv
  clear hv he
  have kE := Bk.new w #[.int .i64 0, .int .i64 0, .bool false, .bool false, .bool false] 61
  have hB0 := balloc (Below.refl _ w) (.cells #[.int .i64 0, .int .i64 0, .bool false, .bool false, .bool false] 61)
  go_enter Tryd.func48, Tryd.ntmps48
  go_wp2_with fail
  generalize w.alloc (.cells #[.int .i64 0, .int .i64 0, .bool false, .bool false, .bool false] 61) = w1 at *
  refine (rUnpack_any x w1 hx).mono ?_
  unfold EnRes
  rw [HV.out]
  rintro e w2 ⟨rfl, hb2⟩
  simp only
  have kE2 := kE.to hb2
  have hB3 : Below w.heap.size w w2 := bnext hB0 hb2
  obtain ⟨c2, f2, l2⟩ := kE2.facts
  go_wp2
  have kF := (kE2.put5 (.int .i64 k) (.int .i64 n) (.bool a) (.bool b) (.bool c)).alloc (.cells #[.int .i64 k, .int .i64 n, .bool a, .bool b, .bool c] 61)
  have hBF := balloc (below_put5 hB3 (b := w.heap.size) (Nat.le_refl _) (.int .i64 k) (.int .i64 n) (.bool a) (.bool b) (.bool c)) (.cells #[.int .i64 k, .int .i64 n, .bool a, .bool b, .bool c] 61)
  exact bodyPost_ret (kF.res1 (P := Tryd.prog) rfl _ rfl (by kernel_rfl) (by kernel_rfl)) rfl ⟨rfl, hBF⟩
set_option maxHeartbeats 1000000 in
theorem rWord_any (e : En5) (w : World) (he : chkE e = 0) :
    Calls Tryd.prog 49 #[.agg #[.int .i64 e.1, .int .i64 e.2.1, .bool e.2.2.1, .bool e.2.2.2.1, .bool e.2.2.2.2]] w fun e' w' => e' = .returned (.int .u64 (packE e : Nat)) ∧ Below w.heap.size w w' := by
  have hp := (packE_val e he).1
  obtain ⟨k, n, a, b, c⟩ := e
  simp only at hp ⊢
  have HP := Lib.hid hp
  have kE := Bk.new w #[.int .i64 k, .int .i64 n, .bool a, .bool b, .bool c] 61
  have hB0 := balloc (Below.refl _ w) (.cells #[.int .i64 k, .int .i64 n, .bool a, .bool b, .bool c] 61)
  clear hp he
  go_enter Tryd.func49, Tryd.ntmps49
  go_wp2_with fail
  refine (rPack_any k n a b c _).mono ?_
  rw [HP.out]
  rintro e w2 ⟨rfl, hb2⟩
  simp only
  go_wp2
  go_ret
  exact ⟨rfl, bnext hB0 hb2⟩

/-- How many of the first q tables and of the first p entries of table q have a kind and a number. -/
def uS (t : Sh) (a : Int × Int) (q p : Nat) : Nat := ((t.take q).map fun l => cntL l a).sum + cntL ((rowAt t q).take p) a
theorem uS_start (t : Sh) (a : Int × Int) : uS t a 0 0 = 0 := by simp [uS, cntL]
theorem uS_all (t : Sh) (a : Int × Int) : uS t a t.length 0 = cntS t a := by simp [uS, cntL, cntS]
theorem uS_next {t : Sh} {q : Nat} (h : q < t.length) (a : Int × Int) : uS t a q (rowAt t q).length = uS t a (q + 1) 0 := by
  have hr : t[q]? = some (rowAt t q) := by
    unfold rowAt
    rw [List.getD_eq_getElem?_getD, List.getElem?_eq_getElem h]
    rfl
  unfold uS
  rw [List.take_add_one, hr, List.take_length]
  simp [cntL]
theorem uS_succ {t : Sh} {q p x : Nat} (h : (rowAt t q)[p]? = some x) (a : Int × Int) : uS t a q (p + 1) = uS t a q p + (if useW x = a then 1 else 0) := by
  unfold uS cntL
  rw [List.take_add_one, h, List.countP_append]
  by_cases hu : useW x = a <;> simp [hu, Nat.add_assoc]
theorem cntL_len (l : List Nat) (a : Int × Int) : cntL l a ≤ l.length := List.countP_le_length
theorem uS_le {t : Sh} (hl : ∀ l ∈ t, l.length ≤ 70) (a : Int × Int) (q p : Nat) : uS t a q p ≤ t.length * 70 + 70 := by
  have h1 : ∀ (u : Sh), (∀ l ∈ u, l.length ≤ 70) → (u.map fun l => cntL l a).sum ≤ u.length * 70 := by
    intro u
    induction u with
    | nil => intro _; simp
    | cons x u ih =>
      intro hu
      have h2 := ih fun l hl => hu l (List.mem_cons_of_mem _ hl)
      have h3 := cntL_len x a
      have h4 := hu x (List.mem_cons_self ..)
      simp only [List.map_cons, List.sum_cons, List.length_cons, Nat.succ_mul]
      omega
  have h5 := h1 (t.take q) fun l h => hl l (List.mem_of_mem_take h)
  have h6 : (t.take q).length ≤ t.length := by simp; omega
  have h7 := cntL_len ((rowAt t q).take p) a
  have h8 : (rowAt t q).length ≤ 70 := by
    rcases Nat.lt_or_ge q t.length with h | h
    · exact hl _ (rowAt_mem h)
    · unfold rowAt
      rw [List.getD_eq_getElem?_getD, List.getElem?_eq_none h]
      simp
  have h9 : ((rowAt t q).take p).length ≤ 70 := by simp; omega
  have h10 : (t.take q).length * 70 ≤ t.length * 70 := Nat.mul_le_mul_right _ h6
  unfold uS
  omega
set_option maxHeartbeats 4000000 in
theorem rUses_any (A : Option Addr) (n c : Nat) (t : Sh) (kind number : Int) (w : World) (h : InS w A n t) :
    Calls Tryd.prog 59 #[.slice A n c, .int .i64 kind, .int .i64 number] w fun e w' => e = .returned (.int .i64 (cntS t (kind, number))) ∧ Below w.heap.size w w' := by
  have HIN := Lib.hid h
  have hn := h.few
  have Hlen := Lib.hid h.rr.len
  have hbd : ∀ q p, uS t (kind, number) q p ≤ 900 := fun q p => by
    have h1 := uS_le h.rows (kind, number) q p
    rw [h.rr.len] at h1
    have : n * 70 ≤ 11 * 70 := Nat.mul_le_mul_right _ h.few
    omega
  have HBD := Lib.hid hbd
  clear h hbd
  go_enter Tryd.func59, Tryd.ntmps59
  go_wp2
  go_loopw [7, 8] (fun s i wr => ∃ q : Nat, q ≤ n ∧ i = .int .i64 q ∧ s = .int .i64 (uS t (kind, number) q 0 : Nat) ∧ Below w.heap.size w wr) (fun _ i _ => n - (intOf i).toNat)
  case atStart => exact ⟨0, Nat.zero_le _, rfl, by rw [uS_start]; rfl, Below.refl _ _⟩
  case round =>
    obtain ⟨q, hq, rfl, rfl, hB⟩ := hrel
    by_cases hlt : q < n
    · have hqt : q < t.length := by rw [Hlen.out]; exact hlt
      have hlt2 : (q : Int) < (n : Int) := by omega
      have hrow : t[q]? = some (rowAt t q) := by
        unfold rowAt
        rw [List.getD_eq_getElem?_getD, List.getElem?_eq_getElem hqt]
        rfl
      obtain ⟨bA, off, B, cB, rfl, hbl, hcell, hRl⟩ := (HIN.out.to hB).rr.row hrow
      have HRL := Lib.hid hRl
      have HSM := Lib.hid (HIN.out.small _ (rowAt_mem hqt))
      have hl70 := HIN.out.rows _ (rowAt_mem hqt)
      obtain ⟨m, hm⟩ : ∃ m, m = (rowAt t q).length := ⟨_, rfl⟩
      rw [← hm] at hcell hl70
      have HM := Lib.hid hm
      have HQT := Lib.hid hqt
      clear hrow hRl hm hqt
      obtain ⟨wo, rfl⟩ : ∃ wo : World, wo = wr := ⟨_, rfl⟩
      have HBO := Lib.hid hB
      clear hB
      go_wp2
      go_loopw [7, 9] (fun s i wr => ∃ p : Nat, p ≤ m ∧ i = .int .i64 p ∧ s = .int .i64 (uS t (kind, number) q p : Nat) ∧ Below wo.heap.size wo wr) (fun _ i _ => m - (intOf i).toNat)
      case atStart => exact ⟨0, Nat.zero_le _, rfl, rfl, Below.refl _ _⟩
      case round =>
        obtain ⟨p, hp, rfl, rfl, hB2⟩ := hrel
        have hcell2 := (hB2.cell (p := ⟨bA, off + q, none⟩) hbl).trans hcell
        have hbl2 : bA < wr.heap.size := Nat.lt_of_lt_of_le hbl hB2.size
        by_cases hltp : p < m
        · have hltp2 : (p : Int) < (m : Int) := by omega
          obtain ⟨bR, ofR, x, rfl, hbR, hx, hxs, hxc⟩ := (HRL.out.below hB2 (Nat.le_refl _)).word HSM.out (i := p) (by rw [← HM.out]; exact hltp)
          have hx2 : (rowAt t q)[p]? = some x := by
            rw [List.getElem?_eq_getElem (by rw [← HM.out]; exact hltp), ← hx, List.getD_eq_getElem?_getD, List.getElem?_eq_getElem (by rw [← HM.out]; exact hltp)]
            rfl
          have hsu := uS_succ hx2 (kind, number)
          have hle := HBD.out q p
          obtain ⟨u, hu⟩ : ∃ u, u = uS t (kind, number) q p := ⟨_, rfl⟩
          rw [← hu] at hsu hle ⊢
          rcases hent : entW x with ⟨k0, n0, a0, b0, c0⟩
          have huw : useW x = (k0, n0) := by unfold useW; rw [hent]; rfl
          rw [huw] at hsu
          have HSU := Lib.hid hsu
          have HENT := Lib.hid hent
          have hB3 := Lib.hid hB2
          clear hsu hent huw hx hx2 hu hB2
          go_wp2_with fail
          refine (rEntry_any x wr hxs k0 n0 a0 b0 c0 HENT.out).mono ?_
          rintro e w2 ⟨rfl, hb2⟩
          have hB4 : Below wo.heap.size wo (w2.alloc (.cells #[.int .i64 k0, .int .i64 n0, .bool a0, .bool b0, .bool c0] 61)) := balloc (bnext hB3.out hb2) _
          have HB4 := Lib.hid hB4
          clear hB4
          by_cases hk : k0 = kind
          · by_cases hnn : n0 = number
            · have hs2 : uS t (kind, number) q (p + 1) = u + 1 := by rw [HSU.out, if_pos (by rw [hk, hnn])]
              have HS2 := Lib.hid hs2
              have hk1 : (k0 == kind) = true := by simpa using hk
              have hn1 : (n0 == number) = true := by simpa using hnn
              clear hs2 hk hnn
              go_wp2
              go_roundw
              case rel => exact ⟨p + 1, by omega, by go_num, by rw [HS2.out]; go_num, HB4.out⟩
              case measure => simp [intOf]; omega
            · have hs2 : uS t (kind, number) q (p + 1) = u := by rw [HSU.out, if_neg (fun e => hnn (by injection e))]; rfl
              have HS2 := Lib.hid hs2
              have hk1 : (k0 == kind) = true := by simpa using hk
              have hn1 : (n0 == number) = false := by simpa using hnn
              clear hs2 hk hnn
              go_wp2
              go_roundw
              case rel => exact ⟨p + 1, by omega, by go_num, by rw [HS2.out], HB4.out⟩
              case measure => simp [intOf]; omega
          · have hs2 : uS t (kind, number) q (p + 1) = u := by rw [HSU.out, if_neg (fun e => hk (by injection e))]; rfl
            have HS2 := Lib.hid hs2
            have hk1 : (k0 == kind) = false := by simpa using hk
            clear hs2 hk
            go_wp2
            go_roundw
            case rel => exact ⟨p + 1, by omega, by go_num, by rw [HS2.out], HB4.out⟩
            case measure => simp [intOf]; omega
        · have hpm : p = (rowAt t q).length := by rw [← HM.out]; omega
          have hnx := uS_next HQT.out (kind, number)
          rw [← hpm] at hnx
          have HNX := Lib.hid hnx
          have HB5 := Lib.hid (bnext HBO.out hB2)
          have hnlt : ¬ (p : Int) < (m : Int) := by omega
          clear hpm hnx hB2
          go_wp2
          go_roundw
          case rel => exact ⟨q + 1, by omega, by go_num, by rw [HNX.out], HB5.out⟩
          case measure => simp [intOf]; omega
    · have hqn : q = t.length := by rw [Hlen.out]; omega
      have hall : uS t (kind, number) q 0 = cntS t (kind, number) := by rw [hqn]; exact uS_all _ _
      have HALL := Lib.hid hall
      have hnlt : ¬ (q : Int) < (n : Int) := by omega
      clear hqn hall
      go_wp2
      go_ret
      exact ⟨by rw [HALL.out]; rfl, hB⟩
end Go.Proofs.YtomndlnfidkdcaaDoor
/- headgateref26.Check. -/
namespace Go.Proofs.YtomndlnfidkdcaaDoor
open Go Go.Proofs Go.RowKit Go.Maps
set_option linter.unusedSimpArgs false
set_option linter.unusedVariables false
set_option maxRecDepth 100000

theorem shE_row {t : Sh} {q : Nat} {z : Int} (h8 : t.length ≤ 8) (h : (fsti (fun i => rowE (rowAt t i)) q).1 = 0) (hq : q < t.length) (hz : rowE (rowAt t q) = z) (hne : z ≠ 0) : shE t = (z, (q : Int)) := by
  have h1 : fsti (fun i => rowE (rowAt t i)) t.length = (z, (q : Int)) := by
    rw [fsti_hit (fun i => rowE (rowAt t i)) q t.length h (by simp only [hz]; exact hne) hq]
    simp only [hz]
  unfold shE
  rw [if_neg (by omega), if_pos (by rw [h1]; exact hne), h1]
theorem shE_wr {t : Sh} {q : Nat} (h8 : t.length ≤ 8) (h : (fsti (fun i => rowE (rowAt t i)) t.length).1 = 0) (h' : (fsti (wrE t) q).1 = 0) (hq : q < t.length) (hz : wrE t q ≠ 0) : shE t = (9, (q : Int)) := by
  have h9 : wrE t q = 9 := by
    unfold wrE at hz ⊢
    split at hz
    · rw [if_pos (by assumption)]
    · exact absurd rfl hz
  unfold shE
  rw [if_neg (by omega), if_neg (by simp [h]), fsti_hit (wrE t) q t.length h' hz hq, h9]
theorem shE_none {t : Sh} (h8 : t.length ≤ 8) (h : (fsti (fun i => rowE (rowAt t i)) t.length).1 = 0) (h' : (fsti (wrE t) t.length).1 = 0) : shE t = (0, 0) := by
  unfold shE
  rw [if_neg (by omega), if_neg (by simp [h]), fsti_none _ _ h']
theorem InS.at {w : World} {A : Option Addr} {n : Nat} {t : Sh} (h : InS w A n t) {q : Nat} (hq : q < n) : ∃ b off B c, A = some ⟨b, off, none⟩ ∧ b < w.heap.size ∧ w.cell? ⟨b, off + q, none⟩ = some (.slice B (rowAt t q).length c) ∧ Rd w 1 B (rowAt t q).length (uw (rowAt t q)) ∧ q < t.length ∧ (rowAt t q).length ≤ 70 ∧ wsmall (rowAt t q) := by
  have hqt : q < t.length := by rw [h.rr.len]; exact hq
  have hrow : t[q]? = some (rowAt t q) := by
    unfold rowAt
    rw [List.getD_eq_getElem?_getD, List.getElem?_eq_getElem hqt]
    rfl
  obtain ⟨b, off, B, c, e, hb, hc, hR⟩ := h.rr.row hrow
  exact ⟨b, off, B, c, e, hb, hc, hR, hqt, h.rows _ (rowAt_mem hqt), h.small _ (rowAt_mem hqt)⟩
theorem word_at {l : List Nat} {p x : Nat} (hp : p < l.length) (hx : l.getD p 0 = x) : l[p]? = some x := by
  rw [List.getElem?_eq_getElem hp, ← hx, List.getD_eq_getElem?_getD, List.getElem?_eq_getElem hp]
  rfl

set_option maxHeartbeats 8000000 in
theorem qCheck_any (A : Option Addr) (n c : Nat) (t : Sh) (w : World) (h : InS w A n t) :
    Calls Tryd.prog 25 #[.slice A n c] w fun e w' => e = .returned (.tuple #[.int .i64 (shE t).1, .int .i64 (shE t).2]) ∧ Below w.heap.size w w' := by
  have HIN := Lib.hid h
  have hn := h.few
  have Hlen := Lib.hid h.rr.len
  clear h
  by_cases h8 : 8 < n
  · have hE : shE t = (5, 0) := by unfold shE; rw [if_pos (by rw [Hlen.out]; exact h8)]
    have HE := Lib.hid hE
    clear hE
    go_enter Tryd.func25, Tryd.ntmps25
    go_wp2
    go_ret2
    exact ⟨by rw [HE.out]; rfl, Below.refl _ _⟩
  have hd8 : decide ((8 : Int) < (n : Int)) = false := by simp; omega
  have H8 := Lib.hid (show t.length ≤ 8 by rw [Hlen.out]; omega)
  have hn8 : n ≤ 8 := by omega
  clear h8
  go_enter Tryd.func25, Tryd.ntmps25
  go_wp2
  go_loopw [4] (fun i wr => ∃ q : Nat, q ≤ n ∧ i = .int .i64 q ∧ (fsti (fun i => rowE (rowAt t i)) q).1 = 0 ∧ Below w.heap.size w wr) (fun i _ => n - (intOf i).toNat)
  case atStart => exact ⟨0, Nat.zero_le _, rfl, rfl, Below.refl _ _⟩
  case round =>
    obtain ⟨q, hq, rfl, hf, hB⟩ := hrel
    have HF := Lib.hid hf
    have HB := Lib.hid hB
    clear hf
    by_cases hlt : q < n
    · have hlt2 : (q : Int) < (n : Int) := by omega
      obtain ⟨bA, off, B, cB, rfl, hbl, hcell, hRl, hqt, hl70, hsm⟩ := (HIN.out.to hB).at hlt
      obtain ⟨m, hm⟩ : ∃ m, m = (rowAt t q).length := ⟨_, rfl⟩
      rw [← hm] at hcell hl70
      have HM := Lib.hid hm
      have HRL := Lib.hid hRl
      have HQT := Lib.hid hqt
      have HSM := Lib.hid hsm
      clear hm hRl hqt hsm hB
      obtain ⟨wo, rfl⟩ : ∃ wo : World, wo = wr := ⟨_, rfl⟩
      by_cases h64 : 64 < m
      · have hz := shE_row H8.out HF.out HQT.out (z := 4) (by unfold rowE; rw [if_pos (by rw [← HM.out]; exact h64)]) (by decide)
        have HZ := Lib.hid hz
        have hd64 : decide ((64 : Int) < (m : Int)) = true := by simp; omega
        clear hz
        go_wp2
        go_ret2
        exact ⟨by rw [HZ.out]; rfl, HB.out⟩
      have hd64 : decide ((64 : Int) < (m : Int)) = false := by simp; omega
      have hm64 : m ≤ 64 := by omega
      have hrE : rowE (rowAt t q) = fst0 (fun k => unpE ((rowAt t q).getD k 0)) m := by unfold rowE; rw [if_neg (by rw [← HM.out]; omega), ← HM.out]
      have HRE := Lib.hid hrE
      clear hrE h64
      go_wp2
      go_loopw [5] (fun i wr => ∃ p : Nat, p ≤ m ∧ i = .int .i64 p ∧ fst0 (fun k => unpE ((rowAt t q).getD k 0)) p = 0 ∧ Below wo.heap.size wo wr) (fun i _ => m - (intOf i).toNat)
      case atStart => exact ⟨0, Nat.zero_le _, rfl, rfl, Below.refl _ _⟩
      case round =>
        obtain ⟨p, hp, rfl, hg, hB2⟩ := hrel
        have HG := Lib.hid hg
        have hcell2 := (hB2.cell (p := ⟨bA, off + q, none⟩) hbl).trans hcell
        have hbl2 : bA < wr.heap.size := Nat.lt_of_lt_of_le hbl hB2.size
        clear hg
        by_cases hltp : p < m
        · have hltp2 : (p : Int) < (m : Int) := by omega
          obtain ⟨bR, ofR, x, rfl, hbR, hx, hxs, hxc⟩ := (HRL.out.below hB2 (Nat.le_refl _)).word HSM.out (i := p) (by rw [← HM.out]; exact hltp)
          have HX := Lib.hid hx
          have HB2 := Lib.hid (bnext HB.out hB2)
          have HB2o := Lib.hid hB2
          clear hx hB2
          go_wp2_with fail
          refine (rUnpack_any x wr hxs).mono ?_
          unfold EnRes
          have hER := unpR_err x
          rw [hER]
          clear hER
          rcases (unpR x).1 with ⟨k0, n0, a0, b0, c0⟩
          rintro e w2 ⟨rfl, hb2⟩
          simp only
          by_cases hu : unpE x = 0
          · have h3 : fst0 (fun k => unpE ((rowAt t q).getD k 0)) (p + 1) = 0 := by
              refine (fst0_zero _ _).2 fun j hj => ?_
              rcases Nat.lt_or_ge j p with h4 | h4
              · exact (fst0_zero _ _).1 HG.out j h4
              · rw [show j = p by omega]
                simp only [HX.out, hu]
            have H3 := Lib.hid h3
            rw [hu]
            clear h3 hu
            go_wp2
            go_roundw
            case rel => exact ⟨p + 1, by omega, by go_num, H3.out, by first | exact balloc (bnext HB2o.out hb2) _ | exact bnext HB2o.out hb2⟩
            case measure => simp [intOf]; omega
          · have hz := shE_row H8.out HF.out HQT.out (z := unpE x) (by rw [HRE.out, fst0_hit _ p m HG.out (by simp only [HX.out]; exact hu) hltp]; simp only [HX.out]) hu
            have HZ := Lib.hid hz
            have hne : (unpE x != 0) = true := by simpa using hu
            clear hz hu
            go_wp2
            go_ret2
            exact ⟨by rw [HZ.out]; rfl, by first | exact balloc (bnext HB2.out hb2) _ | exact bnext HB2.out hb2⟩
        · have hpm : p = m := by omega
          have h3 : (fsti (fun i => rowE (rowAt t i)) (q + 1)).1 = 0 := fsti_step _ _ HF.out (by show rowE (rowAt t q) = 0; rw [HRE.out, ← hpm]; exact HG.out)
          have H3 := Lib.hid h3
          have hnlt : ¬ (p : Int) < (m : Int) := by omega
          have HB3 := Lib.hid (bnext HB.out hB2)
          clear hpm h3 hB2
          go_wp2
          go_roundw
          case rel => exact ⟨q + 1, by omega, by go_num, H3.out, HB3.out⟩
          case measure => simp [intOf]; omega
    · have hqn : q = t.length := by rw [Hlen.out]; omega
      have hall : (fsti (fun i => rowE (rowAt t i)) t.length).1 = 0 := by rw [← hqn]; exact HF.out
      have HALL := Lib.hid hall
      have hok : ∀ l ∈ t, ∀ x ∈ l, unpE x = 0 := by
        intro l hl x hx
        obtain ⟨i, hi, rfl⟩ := List.mem_iff_getElem.1 hl
        have h1 := (fsti_zero _ _).1 hall i hi
        have h2 : rowAt t i = t[i] := by
          unfold rowAt
          rw [List.getD_eq_getElem?_getD, List.getElem?_eq_getElem hi]
          rfl
        rw [h2] at h1
        exact ((rowE_zero _).1 h1).2 x hx
      have HOK := Lib.hid hok
      have hnlt : ¬ (q : Int) < (n : Int) := by omega
      clear hqn hall hok HF hB
      go_wp2
      obtain ⟨w0, rfl⟩ : ∃ w0 : World, w0 = wr := ⟨_, rfl⟩
      go_loopw [8] (fun i wr => ∃ q : Nat, q ≤ n ∧ i = .int .i64 q ∧ (fsti (wrE t) q).1 = 0 ∧ Below w.heap.size w wr) (fun i _ => n - (intOf i).toNat)
      case atStart => exact ⟨0, Nat.zero_le _, rfl, rfl, HB.out⟩
      case round =>
        obtain ⟨q, hq, rfl, hf, hB⟩ := hrel
        have HF := Lib.hid hf
        clear hf
        by_cases hlt : q < n
        · have hlt2 : (q : Int) < (n : Int) := by omega
          obtain ⟨bA, off, B, cB, rfl, hbl, hcell, hRl, hqt, hl70, hsm⟩ := (HIN.out.to hB).at hlt
          have HBq := Lib.hid hB
          obtain ⟨m, hm⟩ : ∃ m, m = (rowAt t q).length := ⟨_, rfl⟩
          rw [← hm] at hcell hl70
          have HM := Lib.hid hm
          have HRL := Lib.hid hRl
          have HQT := Lib.hid hqt
          have HSM := Lib.hid hsm
          have HOKq := Lib.hid (HOK.out _ (rowAt_mem hqt))
          clear hm hRl hqt hsm hB
          obtain ⟨wo, rfl⟩ : ∃ wo : World, wo = wr := ⟨_, rfl⟩
          go_wp2
          go_loopw [9] (fun i wr => ∃ p : Nat, p ≤ m ∧ i = .int .i64 p ∧ (∀ j, j < p → wrB t ((rowAt t q).getD j 0) = false) ∧ Below wo.heap.size wo wr) (fun i _ => m - (intOf i).toNat)
          case atStart => exact ⟨0, Nat.zero_le _, rfl, fun j hj => by omega, Below.refl _ _⟩
          case round =>
            obtain ⟨p, hp, rfl, hg, hB2⟩ := hrel
            have HG := Lib.hid hg
            have hcell2 := (hB2.cell (p := ⟨bA, off + q, none⟩) hbl).trans hcell
            have hbl2 : bA < wr.heap.size := Nat.lt_of_lt_of_le hbl hB2.size
            clear hg
            by_cases hltp : p < m
            · have hltp2 : (p : Int) < (m : Int) := by omega
              obtain ⟨bR, ofR, x, rfl, hbR, hx, hxs, hxc⟩ := (HRL.out.below hB2 (Nat.le_refl _)).word HSM.out (i := p) (by rw [← HM.out]; exact hltp)
              have hxa := word_at (by rw [← HM.out]; exact hltp) hx
              have hux := HOKq.out x (List.mem_of_getElem? hxa)
              have HX := Lib.hid hx
              have HXA := Lib.hid hxa
              rcases hent : entW x with ⟨k0, n0, a0, b0, c0⟩
              have HENT := Lib.hid hent
              have hwx : wrW x = a0 := by unfold wrW; rw [hent]
              have hk1 : a0 = true → useW x = (1, n0) := by
                intro ha
                rcases ent_cases x hux with ⟨e, _⟩ | ⟨z, b, d, e, _, _⟩ | ⟨z, e, _, _⟩ <;> rw [hent] at e
                · injection e with e1 e2; injection e2 with e2 e3; injection e3 with e3 e4; rw [ha] at e3; cases e3
                · injection e with e1 e2; injection e2 with e2 e3; unfold useW; rw [hent, e1, e2]; rfl
                · injection e with e1 e2; injection e2 with e2 e3; injection e3 with e3 e4; rw [ha] at e3; cases e3
              have hwb : wrB t x = (a0 && decide (1 < cntS t (useW x))) := by unfold wrB; rw [hwx]
              have HWB := Lib.hid hwb
              have HK1 := Lib.hid hk1
              have HB2 := Lib.hid (bnext HBq.out hB2)
              have HB2o := Lib.hid hB2
              clear hx hxa hux hent hwx hk1 hwb hB2
              have hstep : wrB t x = false → ∀ j, j < p + 1 → wrB t ((rowAt t q).getD j 0) = false := fun h1 j hj => by
                rcases Nat.lt_or_ge j p with h4 | h4
                · exact HG.out j h4
                · rw [show j = p by omega, HX.out]; exact h1
              have HST := Lib.hid hstep
              clear hstep
              go_wp2_with fail
              refine (rEntry_any x wr hxs k0 n0 a0 b0 c0 HENT.out).mono ?_
              rintro e w2 ⟨rfl, hb2⟩
              cases a0
              · have h3 := Lib.hid (HST.out (by rw [HWB.out]; rfl))
                have HB4 : Hid (Below wo.heap.size wo (w2.alloc (.cells #[.int .i64 k0, .int .i64 n0, .bool false, .bool b0, .bool c0] 61))) := Lib.hid (balloc (bnext HB2o.out hb2) _)
                go_wp2
                go_roundw
                case rel => exact ⟨p + 1, by omega, by go_num, h3.out, HB4.out⟩
                case measure => simp [intOf]; omega
              · have hu1 := HK1.out rfl
                have HB4 : Below wo.heap.size wo (w2.alloc (.cells #[.int .i64 k0, .int .i64 n0, .bool true, .bool b0, .bool c0] 61)) := balloc (bnext HB2o.out hb2) _
                have HBW := Lib.hid (bnext HBq.out HB4)
                have HB4o := Lib.hid HB4
                obtain ⟨u, hu⟩ : ∃ u, u = cntS t (1, n0) := ⟨_, rfl⟩
                have HU := Lib.hid hu
                have hwb2 := HWB.out
                rw [hu1, ← hu] at hwb2
                have HWB2 := Lib.hid hwb2
                have kE := Bk.new w2 #[.int .i64 k0, .int .i64 n0, .bool true, .bool b0, .bool c0] 61
                clear hu hu1 hwb2 HB4
                go_wp2_with fail
                have hus := rUses_any (some ⟨bA, off, none⟩) n c t 1 n0 (w2.alloc (.cells #[.int .i64 k0, .int .i64 n0, .bool true, .bool b0, .bool c0] 61)) (HIN.out.to HBW.out)
                rw [← HU.out] at hus
                refine hus.mono ?_
                rintro e w3 ⟨rfl, hb3⟩
                by_cases h1 : 1 < u
                · have hd : decide ((1 : Int) < (u : Int)) = true := by simp; omega
                  have hwe : wrE t q ≠ 0 := by
                    unfold wrE
                    rw [if_pos (List.any_eq_true.2 ⟨x, List.mem_of_getElem? HXA.out, by rw [HWB2.out]; simp; exact h1⟩)]
                    decide
                  have hz := shE_wr H8.out HALL.out HF.out HQT.out hwe
                  have HZ := Lib.hid hz
                  clear hz hwe h1
                  go_wp2
                  go_ret2
                  exact ⟨by rw [HZ.out]; rfl, bnext HBW.out hb3⟩
                · have hd : decide ((1 : Int) < (u : Int)) = false := by simp; omega
                  have h3 := Lib.hid (HST.out (by rw [HWB2.out]; simp; omega))
                  clear h1
                  go_wp2
                  go_roundw
                  case rel => exact ⟨p + 1, by omega, by go_num, h3.out, bnext HB4o.out hb3⟩
                  case measure => simp [intOf]; omega
            · have hpm : p = (rowAt t q).length := by rw [← HM.out]; omega
              have hw0 : wrE t q = 0 := by
                unfold wrE
                rw [if_neg]
                intro h1
                obtain ⟨x, hx, hb⟩ := List.any_eq_true.1 h1
                obtain ⟨j, hj, rfl⟩ := List.mem_iff_getElem.1 hx
                have h2 := HG.out j (by omega)
                rw [List.getD_eq_getElem?_getD, List.getElem?_eq_getElem hj] at h2
                rw [show (some (rowAt t q)[j]).getD 0 = (rowAt t q)[j] from rfl] at h2
                rw [h2] at hb
                cases hb
              have h3 := Lib.hid (fsti_step (wrE t) q HF.out hw0)
              have hnlt2 : ¬ (p : Int) < (m : Int) := by omega
              have HB3 := Lib.hid (bnext HBq.out hB2)
              clear hpm hw0 hB2
              go_wp2
              go_roundw
              case rel => exact ⟨q + 1, by omega, by go_num, h3.out, HB3.out⟩
              case measure => simp [intOf]; omega
        · have hqn : q = t.length := by rw [Hlen.out]; omega
          have hz := shE_none H8.out HALL.out (by rw [← hqn]; exact HF.out)
          have HZ := Lib.hid hz
          have hnlt2 : ¬ (q : Int) < (n : Int) := by omega
          clear hz hqn
          go_wp2
          go_ret2
          exact ⟨by rw [HZ.out]; rfl, hB⟩
end Go.Proofs.YtomndlnfidkdcaaDoor
/- headgateref26: asked, at, needs, Decide. -/
namespace Go.Proofs.YtomndlnfidkdcaaDoor
open Go Go.Proofs Go.RowKit Go.Maps
set_option linter.unusedSimpArgs false
set_option linter.unusedVariables false
set_option maxRecDepth 100000

/-- The error of a sharing, a table and a page that may be -1. -/
def askQ (t : Sh) (table page : Int) : Int := orE (shE t).1 (if table < 0 ∨ (t.length : Int) ≤ table ∨ page < -1 ∨ ((rowAt t table.toNat).length : Int) ≤ page then 2 else 0)
theorem askQ_at (t : Sh) (table page : Int) : askS t table page = if askQ t table page = 0 ∧ page < 0 then 2 else askQ t table page := by
  unfold askS askQ
  by_cases h : (shE t).1 = 0
  · rw [orE_r _ h, orE_r _ h]
    by_cases h1 : table < 0 ∨ (t.length : Int) ≤ table ∨ page < -1 ∨ ((rowAt t table.toNat).length : Int) ≤ page
    · have h2 : table < 0 ∨ (t.length : Int) ≤ table ∨ page < 0 ∨ ((rowAt t table.toNat).length : Int) ≤ page := by omega
      rw [if_pos h1, if_pos h2, if_neg (fun e => absurd e.1 (by decide))]
    · rw [if_neg h1]
      by_cases h2 : page < 0
      · rw [if_pos (by omega), if_pos ⟨rfl, h2⟩]
      · rw [if_neg (by omega), if_neg (fun e => h2 e.2)]
  · rw [orE_l _ h, orE_l _ h, if_neg (fun e => h e.1)]
theorem askQ_one (t : Sh) (table : Int) : askQ t table (-1) = askT t table := by
  unfold askQ askT
  congr 1
  by_cases h1 : table < 0 ∨ (t.length : Int) ≤ table
  · rw [if_pos h1, if_pos (by omega)]
  · rw [if_neg h1, if_neg (by omega)]

set_option maxHeartbeats 4000000 in
theorem qAsked_any (A : Option Addr) (n c : Nat) (t : Sh) (table page : Int) (w : World) (h : InS w A n t) :
    Calls Tryd.prog 46 #[.slice A n c, .int .i64 table, .int .i64 page] w fun e w' => e = .returned (.int .i64 (askQ t table page)) ∧ Below w.heap.size w w' := by
  have HIN := Lib.hid h
  have HC := Lib.hid (qCheck_any A n c t w h)
  have hn := h.few
  have Hlen := Lib.hid h.rr.len
  clear h
  by_cases h0 : (shE t).1 = 0
  · have hask : askQ t table page = if table < 0 ∨ (n : Int) ≤ table ∨ page < -1 ∨ ((rowAt t table.toNat).length : Int) ≤ page then 2 else 0 := by unfold askQ; rw [orE_r _ h0, Hlen.out]
    have hck := HC.out
    rw [h0] at hck
    have HC0 := Lib.hid hck
    clear hck HC h0
    by_cases h1 : table < 0
    · have HA := Lib.hid (hask.trans (if_pos (.inl h1)))
      clear hask
      go_enter Tryd.func46, Tryd.ntmps46
      go_wp2_with fail
      refine HC0.out.mono ?_
      rintro e w1 ⟨rfl, hb⟩
      go_wp2
      go_ret
      exact ⟨by rw [HA.out]; rfl, hb⟩
    by_cases h2 : (n : Int) ≤ table
    · have HA := Lib.hid (hask.trans (if_pos (.inr (.inl h2))))
      clear hask
      go_enter Tryd.func46, Tryd.ntmps46
      go_wp2_with fail
      refine HC0.out.mono ?_
      rintro e w1 ⟨rfl, hb⟩
      go_wp2
      go_ret
      exact ⟨by rw [HA.out]; rfl, hb⟩
    obtain ⟨i, rfl⟩ : ∃ i : Nat, table = i := ⟨table.toNat, by omega⟩
    have hi : i < n := by omega
    have hi2 : (i : Int) < (n : Int) := by omega
    clear h1 h2
    by_cases h3 : page < -1
    · have HA := Lib.hid (hask.trans (if_pos (.inr (.inr (.inl h3)))))
      clear hask
      go_enter Tryd.func46, Tryd.ntmps46
      go_wp2_with fail
      refine HC0.out.mono ?_
      rintro e w1 ⟨rfl, hb⟩
      go_wp2
      go_ret
      exact ⟨by rw [HA.out]; rfl, hb⟩
    obtain ⟨bA, off, B, cB, rfl, hbl, hcell, hRl, hqt, hl70, hsm⟩ := HIN.out.at hi
    obtain ⟨m, hm⟩ : ∃ m, m = (rowAt t i).length := ⟨_, rfl⟩
    rw [Int.toNat_natCast, ← hm] at hask
    rw [← hm] at hcell hl70
    clear hRl hsm hqt
    by_cases h4 : (m : Int) ≤ page
    · have HA := Lib.hid (hask.trans (if_pos (.inr (.inr (.inr h4)))))
      clear hask
      go_enter Tryd.func46, Tryd.ntmps46
      go_wp2_with fail
      refine HC0.out.mono ?_
      rintro e w1 ⟨rfl, hb⟩
      have hcell1 := cell_later hb hcell
      have hbl1 : bA < w1.heap.size := Nat.lt_of_lt_of_le hbl hb.size
      go_wp2
      go_ret
      exact ⟨by rw [HA.out]; rfl, hb⟩
    have HA := Lib.hid (hask.trans (if_neg (by omega)))
    clear hask
    go_enter Tryd.func46, Tryd.ntmps46
    go_wp2_with fail
    refine HC0.out.mono ?_
    rintro e w1 ⟨rfl, hb⟩
    have hcell1 := cell_later hb hcell
    have hbl1 : bA < w1.heap.size := Nat.lt_of_lt_of_le hbl hb.size
    go_wp2
    go_ret
    exact ⟨by rw [HA.out]; rfl, hb⟩
  · have HA := Lib.hid (show askQ t table page = (shE t).1 by unfold askQ; rw [orE_l _ h0])
    have hne : ((shE t).1 != 0) = true := by simpa using h0
    clear h0
    go_enter Tryd.func46, Tryd.ntmps46
    go_wp2_with fail
    refine HC.out.mono ?_
    rintro e w1 ⟨rfl, hb⟩
    go_wp2
    go_ret
    exact ⟨by rw [HA.out]; rfl, hb⟩

set_option maxHeartbeats 2000000 in
theorem qAt_any (A : Option Addr) (n c : Nat) (t : Sh) (table page : Int) (w : World) (h : InS w A n t) :
    Calls Tryd.prog 54 #[.slice A n c, .int .i64 table, .int .i64 page] w fun e w' => e = .returned (.int .i64 (askS t table page)) ∧ Below w.heap.size w w' := by
  have HC := Lib.hid (qAsked_any A n c t table page w h)
  have hat := askQ_at t table page
  clear h
  by_cases h0 : askQ t table page = 0
  · have hck := HC.out
    rw [h0] at hck
    have HC0 := Lib.hid hck
    rw [h0] at hat
    clear hck HC h0
    by_cases hp : page < 0
    · have HA := Lib.hid (hat.trans (if_pos ⟨rfl, hp⟩))
      clear hat
      go_enter Tryd.func54, Tryd.ntmps54
      go_wp2_with fail
      refine HC0.out.mono ?_
      rintro e w1 ⟨rfl, hb⟩
      go_wp2
      go_ret
      exact ⟨by rw [HA.out]; rfl, hb⟩
    · have HA := Lib.hid (hat.trans (if_neg fun e => hp e.2))
      clear hat
      go_enter Tryd.func54, Tryd.ntmps54
      go_wp2_with fail
      refine HC0.out.mono ?_
      rintro e w1 ⟨rfl, hb⟩
      go_wp2
      go_ret
      exact ⟨by rw [HA.out]; rfl, hb⟩
  · have HA := Lib.hid (hat.trans (if_neg fun e => h0 e.1))
    have hne : (askQ t table page == 0) = false := by simpa using h0
    clear h0 hat
    go_enter Tryd.func54, Tryd.ntmps54
    go_wp2_with fail
    refine HC.out.mono ?_
    rintro e w1 ⟨rfl, hb⟩
    go_wp2
    go_ret
    exact ⟨by rw [HA.out]; rfl, hb⟩

set_option maxHeartbeats 4000000 in
theorem qNeeds_any (A : Option Addr) (n c : Nat) (t : Sh) (i j : Nat) (w : World) (h : InS w A n t) (hv : ShV t) (hi : i < t.length) (hj : j < (rowAt t i).length) :
    Calls Tryd.prog 55 #[.slice A n c, .int .i64 i, .int .i64 j] w fun e w' => e = .returned (.int .i64 (needR t (wordAt t i j))) ∧ Below w.heap.size w w' := by
  have HIN := Lib.hid h
  have hin : i < n := by rw [← h.rr.len]; exact hi
  have hin2 : (i : Int) < (n : Int) := by omega
  have hn := h.few
  obtain ⟨bA, off, B, cB, rfl, hbl, hcell, hRl, hqt, hl70, hsm⟩ := h.at hin
  obtain ⟨m, hm⟩ : ∃ m, m = (rowAt t i).length := ⟨_, rfl⟩
  have hjm : j < m := by omega
  have hjm2 : (j : Int) < (m : Int) := by omega
  obtain ⟨bR, ofR, x, rfl, hbR, hx, hxs, hxc⟩ := hRl.word hsm hj
  have hxw : wordAt t i j = x := hx
  have hux : unpE x = 0 := hv.ok _ (rowAt_mem hi) _ (by rw [← hxw]; exact wordAt_mem hj)
  rw [← hm] at hcell hl70
  have hND : needR t x = if (entW x).1 = 0 then 1 else if (entW x).1 = 2 then 5 else if wrW x = true then 2 else if cntS t (useW x) = 1 then 3 else 4 := rfl
  rw [hxw]
  have hec := ent_cases x hux
  rcases hent : entW x with ⟨k0, n0, a0, b0, c0⟩
  have huw : useW x = (k0, n0) := by unfold useW; rw [hent]; rfl
  have hww : wrW x = a0 := by unfold wrW; rw [hent]
  have hk12 : k0 ≠ 0 → k0 ≠ 2 → k0 = 1 := by
    intro h1 h2
    rcases hec with ⟨e, _⟩ | ⟨z, b, d, e, _, _⟩ | ⟨z, e, _, _⟩ <;> rw [hent] at e <;> injection e with e1 e2 <;> first | exact absurd e1 h1 | exact e1 | exact absurd e1 h2
  rw [hent, huw, hww] at hND
  simp only at hND
  have HENT := Lib.hid hent
  clear hRl hsm hqt hx hxw hux hec hent huw hww hm hi hj hv h
  by_cases h1 : k0 = 0
  · have HA := Lib.hid (hND.trans (if_pos h1))
    subst h1
    clear hND hk12
    go_enter Tryd.func55, Tryd.ntmps55
    go_wp2_with fail
    refine (rEntry_any x w hxs _ _ _ _ _ HENT.out).mono ?_
    rintro e w2 ⟨rfl, hb2⟩
    go_wp2
    go_ret
    exact ⟨by rw [HA.out]; rfl, balloc hb2 _⟩
  rw [if_neg h1] at hND
  have hb1 : (k0 == 0) = false := by simpa using h1
  by_cases h2 : k0 = 2
  · have HA := Lib.hid (hND.trans (if_pos h2))
    subst h2
    clear hND hk12
    go_enter Tryd.func55, Tryd.ntmps55
    go_wp2_with fail
    refine (rEntry_any x w hxs _ _ _ _ _ HENT.out).mono ?_
    rintro e w2 ⟨rfl, hb2⟩
    go_wp2
    go_ret
    exact ⟨by rw [HA.out]; rfl, balloc hb2 _⟩
  rw [if_neg h2] at hND
  have hk := hk12 h1 h2
  subst hk
  clear h1 h2 hk12 hb1
  cases a0
  · have hND2 : needR t x = if cntS t (1, n0) = 1 then 3 else 4 := hND
    obtain ⟨u, hu⟩ : ∃ u, u = cntS t (1, n0) := ⟨_, rfl⟩
    rw [← hu] at hND2
    have HU := Lib.hid hu
    clear hu hND
    have hus : ∀ W, Below w.heap.size w W → Calls Tryd.prog 59 #[.slice (some ⟨bA, off, none⟩) n c, .int .i64 1, .int .i64 n0] W fun e w' => e = .returned (.int .i64 (u : Nat)) ∧ Below W.heap.size W w' := fun W hW => by rw [HU.out]; exact rUses_any _ n c t 1 n0 W (HIN.out.to hW)
    have HUS := Lib.hid hus
    clear hus
    by_cases h1 : u = 1
    · have HA := Lib.hid (hND2.trans (if_pos h1))
      subst h1
      clear hND2
      go_enter Tryd.func55, Tryd.ntmps55
      go_wp2_with fail
      refine (rEntry_any x w hxs _ _ _ _ _ HENT.out).mono ?_
      rintro e w2 ⟨rfl, hb2⟩
      go_wp2_with (go_at_call 59; refine (HUS.out _ (balloc hb2 _)).mono ?_; rintro e w3 ⟨rfl, hb3⟩)
      go_ret
      exact ⟨by rw [HA.out]; rfl, bnext (balloc hb2 _) hb3⟩
    · have HA := Lib.hid (hND2.trans (if_neg h1))
      have hb1 : ((u : Int) == 1) = false := by simp; omega
      clear hND2 h1
      go_enter Tryd.func55, Tryd.ntmps55
      go_wp2_with fail
      refine (rEntry_any x w hxs _ _ _ _ _ HENT.out).mono ?_
      rintro e w2 ⟨rfl, hb2⟩
      go_wp2_with (go_at_call 59; refine (HUS.out _ (balloc hb2 _)).mono ?_; rintro e w3 ⟨rfl, hb3⟩)
      go_ret
      exact ⟨by rw [HA.out]; rfl, bnext (balloc hb2 _) hb3⟩
  · have HA := Lib.hid (hND.trans (if_pos rfl))
    clear hND
    go_enter Tryd.func55, Tryd.ntmps55
    go_wp2_with fail
    refine (rEntry_any x w hxs _ _ _ _ _ HENT.out).mono ?_
    rintro e w2 ⟨rfl, hb2⟩
    go_wp2
    go_ret
    exact ⟨by rw [HA.out]; rfl, balloc hb2 _⟩

set_option maxHeartbeats 2000000 in
theorem qDecide_any (A : Option Addr) (n c : Nat) (t : Sh) (table page : Int) (w : World) (h : InS w A n t) :
    Calls Tryd.prog 30 #[.slice A n c, .int .i64 table, .int .i64 page] w fun e w' => e = .returned (.tuple #[.int .i64 (decR t table page).1, .int .i64 (decR t table page).2]) ∧ Below w.heap.size w w' := by
  have HC := Lib.hid (qAt_any A n c t table page w h)
  have HIN := Lib.hid h
  clear h
  by_cases h0 : askS t table page = 0
  · have hck := HC.out
    rw [h0] at hck
    have HC0 := Lib.hid hck
    obtain ⟨hv, i, j, rfl, rfl, hi, hj⟩ := ask_zero h0
    have hR : decR t i j = (needR t (wordAt t i j), 0) := by unfold decR; rw [if_neg (by simp [h0])]; simp only [Int.toNat_natCast]
    have HRR := Lib.hid hR
    have HV := Lib.hid (And.intro hv (And.intro hi hj))
    clear hck HC h0 hR hv hi hj
    go_enter Tryd.func30, Tryd.ntmps30
    go_wp2_with fail
    refine HC0.out.mono ?_
    rintro e w1 ⟨rfl, hb⟩
    go_wp2_with (go_at_call 55; refine (qNeeds_any _ _ _ _ _ _ _ (HIN.out.to hb) HV.out.1 HV.out.2.1 HV.out.2.2).mono ?_; rintro e w2 ⟨rfl, hb2⟩)
    go_ret2
    exact ⟨by rw [HRR.out]; rfl, bnext hb hb2⟩
  · have hR : decR t table page = (0, askS t table page) := by unfold decR; rw [if_pos h0]
    have hne : (askS t table page != 0) = true := by simpa using h0
    have HRR := Lib.hid hR
    clear hR h0
    go_enter Tryd.func30, Tryd.ntmps30
    go_wp2_with fail
    refine HC.out.mono ?_
    rintro e w1 ⟨rfl, hb⟩
    go_wp2
    go_ret2
    exact ⟨by rw [HRR.out]; rfl, hb⟩
end Go.Proofs.YtomndlnfidkdcaaDoor
/- headgateref26.Counts. -/
namespace Go.Proofs.YtomndlnfidkdcaaDoor
open Go Go.Proofs Go.RowKit Go.Maps
set_option linter.unusedSimpArgs false
set_option linter.unusedVariables false
set_option maxRecDepth 100000

def QntI (t : Sh) (w : World) (G1 G2 k1 : Nat) (i : Value) (wr : World) : Prop :=
  ∃ k : Nat, k ≤ 256 ∧ i = .int .i64 k ∧ wr.rowIs G2 3 256 (cntF t 2 k) ∧ wr.rowIs G1 3 256 (cntF t 1 k1) ∧ Below w.heap.size w wr
def QntJ (t : Sh) (w : World) (G1 G2 : Nat) (i : Value) (wr : World) : Prop :=
  ∃ k : Nat, k ≤ 256 ∧ i = .int .i64 k ∧ wr.rowIs G2 3 256 (cntF t 2 0) ∧ wr.rowIs G1 3 256 (cntF t 1 k) ∧ Below w.heap.size w wr

set_option maxHeartbeats 4000000 in
theorem qCounts_any (A : Option Addr) (n c : Nat) (t : Sh) (w : World) (h : InS w A n t) :
    Calls Tryd.prog 27 #[.slice A n c] w fun e w' => CntR t w w' e := by
  have HC := Lib.hid (qCheck_any A n c t w h)
  have HIN := Lib.hid h
  clear h
  by_cases h0 : (shE t).1 = 0
  · have hck := HC.out
    rw [h0] at hck
    have HC0 := Lib.hid hck
    have hR : cntsR t = (mapsL t 1, mapsL t 2, 0) := by unfold cntsR; rw [if_neg (by simp [h0])]
    have HRR := Lib.hid hR
    have hmk := run_make_row' (P := Tryd.prog) 39 3 (.int .i64 0) 8 Tryd.underlying39 infoIn rfl .i64 .i64 256 (by omega) (by omega)
    replace hmk : ∀ w : World, (Instr.makeSlice 39 (.int .i64 256) (.int .i64 256)).run Tryd.prog w = .ok (.slice (some ⟨w.heap.size, 0, none⟩) 256 256) (w.alloc (.cells (madeCells #[.int .i64 0] 256) 3)) := hmk
    clear hR h0 hck HC
    go_enter Tryd.func27, Tryd.ntmps27
    go_wp2_with fail
    refine HC0.out.mono ?_
    rintro e w1 ⟨rfl, hb⟩
    have HB1 := Lib.hid hb
    clear hb
    go_wp2_with fail
    go_region
    · have hm1 : (World.drew ((w1.alloc (.cells (madeCells #[.int .i64 0] 256) 3)).alloc (.cells (madeCells #[.int .i64 0] 256) 3))).rowIs w1.heap.size 3 256 (cntF t 1 0) := by
        first
          | exact ((World.rowIs_made w1 (.int .i64 0) 256 3).alloc _).congr (fun i hi => by simp [cntF])
          | exact (by have h := (World.rowIs_made (w1.alloc (.cells (madeCells #[.int .i64 0] 256) 3)) (.int .i64 0) 256 3).congr (g := cntF t 1 0) (fun i hi => by simp [cntF]); rwa [World.size_alloc] at h)
      have hm2 : (World.drew ((w1.alloc (.cells (madeCells #[.int .i64 0] 256) 3)).alloc (.cells (madeCells #[.int .i64 0] 256) 3))).rowIs (w1.heap.size + 1) 3 256 (cntF t 2 0) := by
        first
          | exact ((World.rowIs_made w1 (.int .i64 0) 256 3).alloc _).congr (fun i hi => by simp [cntF])
          | exact (by have h := (World.rowIs_made (w1.alloc (.cells (madeCells #[.int .i64 0] 256) 3)) (.int .i64 0) 256 3).congr (g := cntF t 2 0) (fun i hi => by simp [cntF]); rwa [World.size_alloc] at h)
      have hB2 : Below w.heap.size w (World.drew ((w1.alloc (.cells (madeCells #[.int .i64 0] 256) 3)).alloc (.cells (madeCells #[.int .i64 0] 256) 3))) := below_drew (balloc (balloc HB1.out _) _)
      obtain ⟨G1, hG1⟩ : ∃ G1, G1 = w1.heap.size := ⟨_, rfl⟩
      obtain ⟨G2, hG2⟩ : ∃ G2, G2 = (w1.heap.size + 1) := ⟨_, rfl⟩
      have hw1 := HB1.out.size
      have hne : G1 ≠ G2 := by omega
      have hwG1 : w.heap.size ≤ G1 := by omega
      have hwG2 : w.heap.size ≤ G2 := by omega
      rw [← hG2]
      rw [← hG1]
      rw [← hG2] at hm2
      rw [← hG1] at hm1
      generalize (World.drew ((w1.alloc (.cells (madeCells #[.int .i64 0] 256) 3)).alloc (.cells (madeCells #[.int .i64 0] 256) 3))) = w2 at *
      have HM := Lib.hid (And.intro hm1 (And.intro hm2 hB2))
      clear hm1 hm2 hB2 hmk hw1 hG1 hG2
      go_wp2
      go_loopw [9] (QntJ t w G1 G2) (fun i _ => 256 - (intOf i).toNat)
      case atStart => exact ⟨0, by omega, rfl, HM.out.2.1, HM.out.1, HM.out.2.2⟩
      case round =>
        obtain ⟨k, hkn, rfl, hm2, hm1, hB⟩ := hrel
        have HK := Lib.hid (And.intro hm1 (And.intro hm2 hB))
        clear hm1 hm2 hB
        by_cases hlt : k < 256
        · have i1 : (0 : Int) ≤ (k : Int) := by omega
          have i2 : (k : Int) < 256 := by omega
          go_wp2_with fail
          refine (rUses_any A n c t 1 k wr (HIN.out.to HK.out.2.2)).mono ?_
          rintro e w4 ⟨rfl, hb4⟩
          have hm4 := rowIs_block HK.out.1 hb4
          have c4 := hm4.cell hlt
          have f4 := hm4.frozen k
          have l4 := hm4.lt
          have hst := cntF_step hm4
          have hms := (rowIs_block HK.out.2.1 hb4).setOther (a := ⟨G1, k, none⟩) (by show G2 ≠ G1; omega) (.int .i64 (cntS t (1, (k : Int)) : Nat))
          have hBs := (bnext HK.out.2.2 hb4).setCell (p := ⟨G1, k, none⟩) hwG1 (.int .i64 (cntS t (1, (k : Int)) : Nat))
          have HST := Lib.hid (And.intro hst (And.intro hms hBs))
          clear hst hms hBs hm4 hb4
          go_wp2
          go_roundw
          case rel => exact ⟨k + 1, by omega, by go_num, HST.out.2.1, HST.out.1, HST.out.2.2⟩
          case measure => simp [intOf]; omega
        · have hk256 : k = 256 := by omega
          have HK2 := Lib.hid (show wr.rowIs G1 3 256 (cntF t 1 256) by have h1 := HK.out.1; rw [show cntF t 1 k = cntF t 1 256 by rw [hk256]] at h1; exact h1)
          have hge : ¬ ((k : Int) < 256) := by omega
          clear hk256
          go_wp2
          obtain ⟨wo, rfl⟩ : ∃ wo : World, wo = wr := ⟨_, rfl⟩
          go_loopw [10] (QntI t w G1 G2 256) (fun i _ => 256 - (intOf i).toNat)
          case atStart => exact ⟨0, by omega, rfl, HK.out.2.1, HK2.out, HK.out.2.2⟩
          case round =>
            obtain ⟨q, hqn, rfl, hm2, hm1, hB⟩ := hrel
            have HQ := Lib.hid (And.intro hm1 (And.intro hm2 hB))
            clear hm1 hm2 hB
            by_cases hltq : q < 256
            · have i1 : (0 : Int) ≤ (q : Int) := by omega
              have i2 : (q : Int) < 256 := by omega
              go_wp2_with fail
              refine (rUses_any A n c t 2 q wr (HIN.out.to HQ.out.2.2)).mono ?_
              rintro e w4 ⟨rfl, hb4⟩
              have hm4 := rowIs_block HQ.out.2.1 hb4
              have c4 := hm4.cell hltq
              have f4 := hm4.frozen q
              have l4 := hm4.lt
              have hst := cntF_step hm4
              have hms := (rowIs_block HQ.out.1 hb4).setOther (a := ⟨G2, q, none⟩) (by show G1 ≠ G2; omega) (.int .i64 (cntS t (2, (q : Int)) : Nat))
              have hBs := (bnext HQ.out.2.2 hb4).setCell (p := ⟨G2, q, none⟩) hwG2 (.int .i64 (cntS t (2, (q : Int)) : Nat))
              have HST := Lib.hid (And.intro hst (And.intro hms hBs))
              clear hst hms hBs hm4 hb4
              go_wp2
              go_roundw
              case rel => exact ⟨q + 1, by omega, by go_num, HST.out.1, HST.out.2.1, HST.out.2.2⟩
              case measure => simp [intOf]; omega
            · have hq256 : q = 256 := by omega
              have HQ2 := Lib.hid (show wr.rowIs G2 3 256 (cntF t 2 256) by have h1 := HQ.out.2.1; rw [show cntF t 2 q = cntF t 2 256 by rw [hq256]] at h1; exact h1)
              have hge2 : ¬ ((q : Int) < 256) := by omega
              clear hq256
              go_wp2
              go_ret3
              unfold CntR
              rw [HRR.out]
              have hl1 : (mapsL t 1).length = 256 := by simp [mapsL]
              have hl2 : (mapsL t 2).length = 256 := by simp [mapsL]
              simp only [hl1, hl2]
              exact ⟨_, _, _, _, rfl, cntF_done HQ.out.1, cntF_done HQ2.out, HQ.out.2.2⟩
    · have hm1 : (World.drew ((w1.alloc (.cells (madeCells #[.int .i64 0] 256) 3)).alloc (.cells (madeCells #[.int .i64 0] 256) 3))).rowIs (w1.heap.size + 1) 3 256 (cntF t 1 0) := by
        first
          | exact ((World.rowIs_made w1 (.int .i64 0) 256 3).alloc _).congr (fun i hi => by simp [cntF])
          | exact (by have h := (World.rowIs_made (w1.alloc (.cells (madeCells #[.int .i64 0] 256) 3)) (.int .i64 0) 256 3).congr (g := cntF t 1 0) (fun i hi => by simp [cntF]); rwa [World.size_alloc] at h)
      have hm2 : (World.drew ((w1.alloc (.cells (madeCells #[.int .i64 0] 256) 3)).alloc (.cells (madeCells #[.int .i64 0] 256) 3))).rowIs w1.heap.size 3 256 (cntF t 2 0) := by
        first
          | exact ((World.rowIs_made w1 (.int .i64 0) 256 3).alloc _).congr (fun i hi => by simp [cntF])
          | exact (by have h := (World.rowIs_made (w1.alloc (.cells (madeCells #[.int .i64 0] 256) 3)) (.int .i64 0) 256 3).congr (g := cntF t 2 0) (fun i hi => by simp [cntF]); rwa [World.size_alloc] at h)
      have hB2 : Below w.heap.size w (World.drew ((w1.alloc (.cells (madeCells #[.int .i64 0] 256) 3)).alloc (.cells (madeCells #[.int .i64 0] 256) 3))) := below_drew (balloc (balloc HB1.out _) _)
      obtain ⟨G1, hG1⟩ : ∃ G1, G1 = (w1.heap.size + 1) := ⟨_, rfl⟩
      obtain ⟨G2, hG2⟩ : ∃ G2, G2 = w1.heap.size := ⟨_, rfl⟩
      have hw1 := HB1.out.size
      have hne : G1 ≠ G2 := by omega
      have hwG1 : w.heap.size ≤ G1 := by omega
      have hwG2 : w.heap.size ≤ G2 := by omega
      rw [← hG1]
      rw [← hG2]
      rw [← hG1] at hm1
      rw [← hG2] at hm2
      generalize (World.drew ((w1.alloc (.cells (madeCells #[.int .i64 0] 256) 3)).alloc (.cells (madeCells #[.int .i64 0] 256) 3))) = w2 at *
      have HM := Lib.hid (And.intro hm1 (And.intro hm2 hB2))
      clear hm1 hm2 hB2 hmk hw1 hG1 hG2
      go_wp2
      go_loopw [9] (QntJ t w G1 G2) (fun i _ => 256 - (intOf i).toNat)
      case atStart => exact ⟨0, by omega, rfl, HM.out.2.1, HM.out.1, HM.out.2.2⟩
      case round =>
        obtain ⟨k, hkn, rfl, hm2, hm1, hB⟩ := hrel
        have HK := Lib.hid (And.intro hm1 (And.intro hm2 hB))
        clear hm1 hm2 hB
        by_cases hlt : k < 256
        · have i1 : (0 : Int) ≤ (k : Int) := by omega
          have i2 : (k : Int) < 256 := by omega
          go_wp2_with fail
          refine (rUses_any A n c t 1 k wr (HIN.out.to HK.out.2.2)).mono ?_
          rintro e w4 ⟨rfl, hb4⟩
          have hm4 := rowIs_block HK.out.1 hb4
          have c4 := hm4.cell hlt
          have f4 := hm4.frozen k
          have l4 := hm4.lt
          have hst := cntF_step hm4
          have hms := (rowIs_block HK.out.2.1 hb4).setOther (a := ⟨G1, k, none⟩) (by show G2 ≠ G1; omega) (.int .i64 (cntS t (1, (k : Int)) : Nat))
          have hBs := (bnext HK.out.2.2 hb4).setCell (p := ⟨G1, k, none⟩) hwG1 (.int .i64 (cntS t (1, (k : Int)) : Nat))
          have HST := Lib.hid (And.intro hst (And.intro hms hBs))
          clear hst hms hBs hm4 hb4
          go_wp2
          go_roundw
          case rel => exact ⟨k + 1, by omega, by go_num, HST.out.2.1, HST.out.1, HST.out.2.2⟩
          case measure => simp [intOf]; omega
        · have hk256 : k = 256 := by omega
          have HK2 := Lib.hid (show wr.rowIs G1 3 256 (cntF t 1 256) by have h1 := HK.out.1; rw [show cntF t 1 k = cntF t 1 256 by rw [hk256]] at h1; exact h1)
          have hge : ¬ ((k : Int) < 256) := by omega
          clear hk256
          go_wp2
          obtain ⟨wo, rfl⟩ : ∃ wo : World, wo = wr := ⟨_, rfl⟩
          go_loopw [10] (QntI t w G1 G2 256) (fun i _ => 256 - (intOf i).toNat)
          case atStart => exact ⟨0, by omega, rfl, HK.out.2.1, HK2.out, HK.out.2.2⟩
          case round =>
            obtain ⟨q, hqn, rfl, hm2, hm1, hB⟩ := hrel
            have HQ := Lib.hid (And.intro hm1 (And.intro hm2 hB))
            clear hm1 hm2 hB
            by_cases hltq : q < 256
            · have i1 : (0 : Int) ≤ (q : Int) := by omega
              have i2 : (q : Int) < 256 := by omega
              go_wp2_with fail
              refine (rUses_any A n c t 2 q wr (HIN.out.to HQ.out.2.2)).mono ?_
              rintro e w4 ⟨rfl, hb4⟩
              have hm4 := rowIs_block HQ.out.2.1 hb4
              have c4 := hm4.cell hltq
              have f4 := hm4.frozen q
              have l4 := hm4.lt
              have hst := cntF_step hm4
              have hms := (rowIs_block HQ.out.1 hb4).setOther (a := ⟨G2, q, none⟩) (by show G1 ≠ G2; omega) (.int .i64 (cntS t (2, (q : Int)) : Nat))
              have hBs := (bnext HQ.out.2.2 hb4).setCell (p := ⟨G2, q, none⟩) hwG2 (.int .i64 (cntS t (2, (q : Int)) : Nat))
              have HST := Lib.hid (And.intro hst (And.intro hms hBs))
              clear hst hms hBs hm4 hb4
              go_wp2
              go_roundw
              case rel => exact ⟨q + 1, by omega, by go_num, HST.out.1, HST.out.2.1, HST.out.2.2⟩
              case measure => simp [intOf]; omega
            · have hq256 : q = 256 := by omega
              have HQ2 := Lib.hid (show wr.rowIs G2 3 256 (cntF t 2 256) by have h1 := HQ.out.2.1; rw [show cntF t 2 q = cntF t 2 256 by rw [hq256]] at h1; exact h1)
              have hge2 : ¬ ((q : Int) < 256) := by omega
              clear hq256
              go_wp2
              go_ret3
              unfold CntR
              rw [HRR.out]
              have hl1 : (mapsL t 1).length = 256 := by simp [mapsL]
              have hl2 : (mapsL t 2).length = 256 := by simp [mapsL]
              simp only [hl1, hl2]
              exact ⟨_, _, _, _, rfl, cntF_done HQ.out.1, cntF_done HQ2.out, HQ.out.2.2⟩
  · have hR : cntsR t = ([], [], (shE t).1) := by unfold cntsR; rw [if_pos h0]
    have hne : ((shE t).1 != 0) = true := by simpa using h0
    have HRR := Lib.hid hR
    clear hR h0
    go_enter Tryd.func27, Tryd.ntmps27
    go_wp2_with fail
    refine HC.out.mono ?_
    rintro e w1 ⟨rfl, hb⟩
    go_wp2
    go_ret3
    unfold CntR
    rw [HRR.out]
    exact ⟨none, 0, none, 0, rfl, Rd.zero _, Rd.zero _, hb⟩
end Go.Proofs.YtomndlnfidkdcaaDoor
/- Sharings of words in memory of the call's own: headgatekit.OwnSharing, headgateref26.own. -/
namespace Go.Proofs.YtomndlnfidkdcaaDoor
open Go Go.Proofs Go.RowKit Go.Maps
set_option linter.unusedSimpArgs false
set_option linter.unusedVariables false
set_option maxRecDepth 100000

/-- Tables of entries in blocks of the call's own, from block base on: the outer row vs, and one row a table, no two in one block. -/
structure WOv (w : World) (base : Nat) (vu : Value) (U : List (List Nat)) (vs : List Value) : Prop where
  outer : w.ownsRow base 54 1 vu U.length vs
  rows : ∀ (i : Nat) (l : List Nat), U[i]? = some l → ∃ r : Value, vs[i]? = some r ∧ w.ownsRow base 52 1 r l.length (uw l)
  off : ∀ (i : Nat) (r : Value) (g : Nat), vs[i]? = some r → r.ownBlock = some g → vu.ownBlock ≠ some g
  apart : ∀ (i j : Nat) (ri rj : Value) (g : Nat), i ≠ j → vs[i]? = some ri → vs[j]? = some rj → ri.ownBlock = some g → rj.ownBlock ≠ some g
def WO (w : World) (base : Nat) (vu : Value) (U : List (List Nat)) : Prop := ∃ vs : List Value, WOv w base vu U vs
section
variable {w w' w1 : World} {base : Nat} {vu : Value} {U : List (List Nat)} {vs : List Value}
theorem WOv.kept (h : WOv w base vu U vs) {row : Option Nat} (hg : w.grownBy w' row) (hrow : ∀ g, row = some g → g < base ∨ w.heap.size ≤ g) : WOv w' base vu U vs := by
  have key : ∀ {e : TypeId} {sz n : Nat} {v : Value} {xs : List Value}, w.ownsRow base e sz v n xs → w'.ownsRow base e sz v n xs := by
    intro e sz n v xs h
    refine own_kept h hg fun g hv e1 => ?_
    have := h.lt g hv
    rcases hrow g e1 with h1 | h1 <;> omega
  exact ⟨key h.outer, fun i l hl => by
    obtain ⟨r, hr, ho⟩ := h.rows i l hl
    exact ⟨r, hr, key ho⟩, h.off, h.apart⟩
theorem WOv.to (h : WOv w base vu U vs) (hb : Below w.heap.size w w') : WOv w' base vu U vs := h.kept (grown_of hb) (fun g e => by cases e)
theorem WO.kept (h : WO w base vu U) {row : Option Nat} (hg : w.grownBy w' row) (hrow : ∀ g, row = some g → g < base ∨ w.heap.size ≤ g) : WO w' base vu U := by
  obtain ⟨vs, h⟩ := h
  exact ⟨vs, h.kept hg hrow⟩
theorem WO.to (h : WO w base vu U) (hb : Below w.heap.size w w') : WO w' base vu U := by
  obtain ⟨vs, h⟩ := h
  exact ⟨vs, h.to hb⟩
theorem WO.alloc (h : WO w base vu U) (o : Obj) : WO (w.alloc o) base vu U := h.to (balloc (Below.refl _ _) _)
theorem WO.shape (h : WO w base vu U) : ∃ A c, vu = .slice A U.length c := by
  obtain ⟨vs, h1⟩ := h
  obtain ⟨A, c, e, _⟩ := own_slice h1.outer
  exact ⟨A, c, e⟩
theorem WO.rr {A : Option Addr} {n c : Nat} (h : WO w base (.slice A n c) U) (hn : U.length = n) : RR uw 1 w A n U := by
  obtain ⟨vs, h1, h2, _⟩ := h
  rw [hn] at h1
  refine ⟨hn, vs, Rd.own h1, fun i l hl => ?_⟩
  obtain ⟨r, hr, ho⟩ := h2 i l hl
  obtain ⟨B, cB, rfl, hR⟩ := own_slice ho
  exact ⟨B, cB, hr, hR⟩
theorem WOv.len (h : WOv w base vu U vs) : vs.length = U.length := by have := h.outer.1; omega
theorem WOv.row_lt (h : WOv w base vu U vs) {i : Nat} {r : Value} {g : Nat} (hr : vs[i]? = some r) (hg : r.ownBlock = some g) : base ≤ g ∧ g < w.heap.size := by
  have hi : i < U.length := by rw [← h.len]; exact (List.getElem?_eq_some_iff.1 hr).1
  obtain ⟨r', h1, h2⟩ := h.rows i _ (List.getElem?_eq_getElem hi)
  rw [hr] at h1
  injection h1 with h1
  subst h1
  exact h2.lt g hg
end
/-- A table more, of a row that was made before. -/
theorem WOv.push2 {w w2 : World} {base : Nat} {vu : Value} {U : List (List Nat)} {vs : List Value} (h : WOv w base vu U vs) {r : Value} {l : List Nat} (hr : w.ownsRow base 52 1 r l.length (uw l)) (o : Obj)
    (hru : ∀ g, r.ownBlock = some g → vu.ownBlock ≠ some g) (hrr : ∀ (i : Nat) (q : Value) (g : Nat), vs[i]? = some q → r.ownBlock = some g → q.ownBlock ≠ some g) {v' : Value}
    (hown : w2.ownsRow base 54 1 v' (U.length + 1) (vs ++ [r])) (hg : (w.alloc o).grownBy w2 vu.ownBlock) (hloc : v'.ownBlock = vu.ownBlock ∨ v'.ownBlock = some (w.alloc o).heap.size) : WOv w2 base v' (U ++ [l]) (vs ++ [r]) := by
  have hA := h.to (balloc (Below.refl _ _) o)
  have hrA := hr.alloc o
  have hlen := h.len
  have hr2 : ∀ g, r.ownBlock = some g → g < (w.alloc o).heap.size := fun g hg => (hrA.lt g hg).2
  have rOld : ∀ (i : Nat) (q : Value) (g : Nat), vs[i]? = some q → q.ownBlock = some g → g < (w.alloc o).heap.size := fun i q g h1 h2 => (hA.row_lt h1 h2).2
  have at_ : ∀ (i : Nat) (q : Value), (vs ++ [r])[i]? = some q → (i < vs.length ∧ vs[i]? = some q) ∨ (i = vs.length ∧ q = r) := by
    intro i q hq
    rcases Nat.lt_or_ge i vs.length with h1 | h1
    · rw [List.getElem?_append_left h1] at hq
      exact .inl ⟨h1, hq⟩
    · rw [List.getElem?_append_right h1] at hq
      rcases Nat.eq_zero_or_pos (i - vs.length) with h2 | h2
      · rw [h2] at hq
        simp at hq
        exact .inr ⟨by omega, hq.symm⟩
      · rw [List.getElem?_eq_none (by simp; omega)] at hq
        cases hq
  refine ⟨by simpa using hown, fun i m hm => ?_, fun i q g hq hqg => ?_, fun i j qi qj g hij hqi hqj hg1 => ?_⟩
  · rcases Nat.lt_or_ge i U.length with h1 | h1
    · rw [List.getElem?_append_left h1] at hm
      obtain ⟨q, hq, ho⟩ := hA.rows i m hm
      refine ⟨q, by rw [List.getElem?_append_left (by omega)]; exact hq, own_kept ho hg fun g hqg => ?_⟩
      exact h.off i q g hq hqg
    · rw [List.getElem?_append_right h1] at hm
      have h2 : i - U.length = 0 := by
        rcases Nat.eq_zero_or_pos (i - U.length) with h2 | h2
        · exact h2
        · rw [List.getElem?_eq_none (by simp; omega)] at hm
          cases hm
      rw [h2] at hm
      simp at hm
      subst hm
      exact ⟨r, by rw [List.getElem?_append_right (by omega), show i - vs.length = 0 by omega]; rfl, own_kept hrA hg fun g hqg => hru g hqg⟩
  · have hq2 : vu.ownBlock ≠ some g := by
      rcases at_ i q hq with ⟨_, h1⟩ | ⟨_, rfl⟩
      · exact h.off i q g h1 hqg
      · exact hru g hqg
    have hql : g < (w.alloc o).heap.size := by
      rcases at_ i q hq with ⟨_, h1⟩ | ⟨_, rfl⟩
      · exact rOld i q g h1 hqg
      · exact hr2 g hqg
    rcases hloc with h2 | h2
    · rw [h2]; exact hq2
    · rw [h2]
      intro h3
      injection h3 with h3
      omega
  · rcases at_ i qi hqi with ⟨_, h1⟩ | ⟨h1', rfl⟩
    · rcases at_ j qj hqj with ⟨_, h2⟩ | ⟨_, rfl⟩
      · exact h.apart i j qi qj g hij h1 h2 hg1
      · exact fun h3 => hrr i qi g h1 h3 hg1
    · rcases at_ j qj hqj with ⟨_, h2⟩ | ⟨h2', rfl⟩
      · exact hrr j qj g h2 hg1
      · omega
theorem WOv.cell {w : World} {base ga n c i : Nat} {U : List (List Nat)} {vs : List Value} {r : Value} (h : WOv w base (.slice (some ⟨ga, 0, none⟩) n c) U vs) (hn : U.length = n) (hv : vs[i]? = some r) : w.cell? ⟨ga, i, none⟩ = some r := by
  have hi : i < vs.length := (List.getElem?_eq_some_iff.1 hv).1
  have hU : w.ownsRow base 54 1 (.slice (some ⟨ga, 0, none⟩) n c) n vs := hn ▸ h.outer
  have hl := h.len
  exact (hU.cellAt i (by omega)).trans hv

theorem uw_setW (l : List Nat) (j x : Nat) : (uw l).set j (.int .u64 (x : Int)) = uw (l.set j x) := by
  unfold uw
  rw [List.map_set]
theorem uw_one (l : List Nat) : ∀ u ∈ uw l, u.oneCell' = true := by
  intro u hu
  obtain ⟨x, _, rfl⟩ := List.mem_map.1 hu
  rfl
/-- A word is changed. -/
theorem WOv.put_at {w : World} {base ga g n c m cR : Nat} {U : List (List Nat)} {vs : List Value} (h : WOv w base (.slice (some ⟨ga, 0, none⟩) n c) U vs) (hn : U.length = n) {i j : Nat} {l : List Nat} {x : Nat} (hi : U[i]? = some l) (hj : l[j]? = some x)
    (hv : vs[i]? = some (.slice (some ⟨g, 0, none⟩) m cR)) :
    (∀ o, w.frozen? ⟨g, o, none⟩ = false) ∧ w.cell? ⟨g, j, none⟩ = some (.int .u64 (x : Int)) ∧ base ≤ g ∧ g < w.heap.size ∧ ∀ y : Nat, WOv (w.setCell ⟨g, j, none⟩ (.int .u64 (y : Int))) base (.slice (some ⟨ga, 0, none⟩) n c) (U.set i (l.set j y)) vs := by
  have hiU : i < U.length := (List.getElem?_eq_some_iff.1 hi).1
  have hjl : j < l.length := (List.getElem?_eq_some_iff.1 hj).1
  obtain ⟨r, hr, ho⟩ := h.rows i l hi
  rw [hv] at hr
  injection hr with hr
  subst hr
  obtain ⟨g', cR', e1, hbg, hlg⟩ := ho.form (by omega)
  injection e1 with e1 e2 e3
  injection e1 with e1
  injection e1 with e1
  subst e1 e2 e3
  have hne : ga ≠ g := fun e => h.off i _ g hv rfl (by rw [← e]; rfl)
  have hgr : ∀ y : Nat, w.grownBy (w.setCell ⟨g, j, none⟩ (.int .u64 (y : Int))) (some g) := fun y => ⟨rfl, rfl, rfl, by simp, fun k _ hk => Below.heap_setCell w ⟨g, j, none⟩ _ k (fun e => hk (by rw [e]))⟩
  refine ⟨fun o => ho.frozenAt o, (ho.cellAt _ (by omega)).trans (by unfold uw; rw [List.getElem?_map, hj]; rfl), hbg, hlg, fun y => ?_⟩
  refine ⟨by rw [List.length_set]; exact own_kept h.outer (hgr y) (fun q hq e1 => h.off i _ g hv rfl (by rw [hq]; exact e1.symm)), fun k m hm => ?_, h.off, h.apart⟩
  by_cases hk : k = i
  · subst hk
    rw [List.getElem?_set_self (by omega)] at hm
    injection hm with hm
    subst hm
    refine ⟨_, hv, ?_⟩
    rw [List.length_set, ← uw_setW]
    exact (ho.stored j _).1
  · rw [List.getElem?_set_ne (fun e1 => hk e1.symm)] at hm
    obtain ⟨q, hq, hoq⟩ := h.rows k m hm
    exact ⟨q, hq, own_kept hoq (hgr y) (fun b hb e1 => h.apart k i q _ b hk hq hv hb (by injection e1 with e1; rw [← e1]; rfl))⟩


def OwnV (t : Sh) (w : World) (vu i : Value) (wr : World) : Prop := ∃ k : Nat, k ≤ t.length ∧ i = .int .i64 k ∧ (∃ vs, WOv wr w.heap.size vu (t.take k) vs) ∧ Below w.heap.size w wr
theorem WOv.nil (w : World) (base : Nat) : WOv w base (.slice none 0 0) [] [] :=
  ⟨World.ownsRow_nil _ _ _ _, fun i l h => by simp at h, fun i r g h => by simp at h, fun i j ri rj g _ h => by simp at h⟩

set_option maxHeartbeats 4000000 in
theorem OwnSh_any (A : Option Addr) (n c : Nat) (t : Sh) (w : World) (h : InS w A n t) :
    Calls Tryd.prog 12 #[.slice A n c] w fun e w' => ∃ v, e = .returned v ∧ WO w' w.heap.size v t ∧ Below w.heap.size w w' := by
  have HIN := Lib.hid h
  have hn := h.few
  have hlen := h.rr.len
  have Hlen := Lib.hid hlen
  have hst : OwnV t w (.slice none 0 0) (.int .i64 ((0 : Nat) : Int)) w := ⟨0, Nat.zero_le _, rfl, ⟨[], WOv.nil w _⟩, Below.refl _ _⟩
  have HST := Lib.hid hst
  obtain ⟨i0, hi0, hz0, hz1, hz2⟩ := info_parts infoWd
  obtain ⟨i1, hi1, hy0, hy1, hy2⟩ := info_parts infoSl
  clear h hst hlen
  go_enter Tryd.func12, Tryd.ntmps12
  go_wp2
  go_loopw [3, 4] (OwnV t w) (fun _ i _ => n - (intOf i).toNat)
  case atStart => exact HST.out
  case round =>
    obtain ⟨k, hkt, rfl, ⟨vs, hW⟩, hB⟩ := hrel
    have hkn : k ≤ n := by rw [← Hlen.out]; exact hkt
    clear hkt
    by_cases hlt : k < n
    · have hlt2 : (k : Int) < (n : Int) := by omega
      obtain ⟨bA, off, B, cB, rfl, hbl, hcell, hRl, hqt, hl70, hsm⟩ := (HIN.out.to hB).at hlt
      obtain ⟨m, hm⟩ : ∃ m, m = (rowAt t k).length := ⟨_, rfl⟩
      rw [← hm] at hcell hl70
      have htk : (t.take k).length = k := by rw [List.length_take]; omega
      obtain ⟨Au, cu, rfl, _⟩ := own_slice hW.outer
      rw [htk] at hW ⊢
      have HW := Lib.hid hW
      have HB := Lib.hid hB
      have HRL := Lib.hid hRl
      have HTK := Lib.hid htk
      have HQT := Lib.hid hqt
      have HL70 := Lib.hid hl70
      have HM := Lib.hid hm
      clear hW hB hRl htk hqt hl70 hsm hm
      go_wp2_with (first
        | (at_builtin; refine wpList_append_rd _ rfl _ _ 54 rfl wr.heap.size 52 i0 (.int .u64 0) 1 8 Tryd.underlying54 hi0 hz0 hz1 hz2 rfl (by decide) _ _ _ rfl (own_empty wr 52 1) _ m cB (uw (rowAt t k)) rfl (by rw [HM.out]; exact HRL.out.alloc _) (uw_one _) (by have := HL70.out; simp only [maxLen]; omega) (by have := HL70.out; omega) (by simp) ?_; intro v' w1 hown' hgrow; rw [Nat.zero_add, List.nil_append] at hown'; obtain ⟨Ar, cr, rfl, hRr⟩ := own_slice hown'; have HO := Lib.hid hown'; have hb1 : Below wr.heap.size wr w1 := (((Below.refl _ wr).alloc (Nat.le_refl _) _).grown hgrow (by simp) (fun k e => by cases e; exact Nat.le_refl _)); have HB1 := Lib.hid hb1; clear hown' hRr hgrow hb1; have hwo : (w1.alloc (.cells #[.slice Ar m cr] 54)).ownsRow w.heap.size 54 1 (.slice Au k cu) k vs := (by have h1 := (HW.out.to HB1.out).outer; rw [HTK.out] at h1; exact h1.alloc _); have HWO := Lib.hid hwo; clear hwo)
        | (at_builtin; refine wpList_append_own_at _ rfl _ _ 22 rfl w.heap.size 54 i1 (.slice none 0 0) 1 24 Tryd.underlying22 hi1 hy0 hy1 hy2 rfl (by decide) _ _ _ rfl HWO.out ⟨w1.heap.size, 0, none⟩ 1 1 [.slice Ar m cr] rfl rfl (cell_one_new _ _ _) (by intro u hu; rw [List.mem_singleton.1 hu]; exact own_one HO.out) (by unfold maxLen; omega) (by omega) (by have := HB1.out.size; have := HB.out.size; simp; omega) ?_; intro v2 w2 hown2 hgrow2 hnil2 hloc2))
      have hrow2 : World.ownsRow w1 w.heap.size 52 1 (.slice Ar m cr) (rowAt t k).length (uw (rowAt t k)) := by rw [← HM.out]; exact own_less HO.out HB.out.size
      have hru : ∀ g, (Value.slice Ar m cr).ownBlock = some g → wr.heap.size ≤ g := fun g hg => (HO.out.lt g hg).1
      have hpush := (HW.out.to HB1.out).push2 hrow2 (.cells #[.slice Ar m cr] 54) (fun g h1 h2 => by have := hru g h1; have := (HW.out.outer.lt g h2).2; omega) (fun j q g hq h1 h2 => by have := hru g h1; have := (HW.out.row_lt hq h2).2; omega) (by rw [HTK.out]; exact hown2) hgrow2 hloc2
      have hB2 : Below w.heap.size w w2 := (balloc (bnext HB.out HB1.out) (.cells #[.slice Ar m cr] 54)).grown hgrow2 (by have := (balloc (bnext HB.out HB1.out) (.cells #[.slice Ar m cr] 54)).size; exact this) (fun g hg => (HW.out.outer.lt g hg).1)
      have htk1 : t.take (k + 1) = t.take k ++ [rowAt t k] := by
        rw [List.take_add_one]
        unfold rowAt
        rw [List.getD_eq_getElem?_getD, List.getElem?_eq_getElem HQT.out]
        rfl
      rw [← htk1] at hpush
      have HN := Lib.hid (And.intro hpush hB2)
      clear hpush hB2 htk1 hru hrow2 hown2 hgrow2 hnil2 hloc2
      go_wp2
      go_roundw
      case rel => exact ⟨k + 1, HQT.out, by go_num, ⟨_, HN.out.1⟩, HN.out.2⟩
      case measure => simp [intOf]; omega
    · have hkl : k = t.length := by rw [Hlen.out]; omega
      rw [hkl, List.take_length] at hW
      have hnlt : ¬ (k : Int) < (n : Int) := by omega
      clear hkl
      go_wp2
      go_ret
      exact ⟨_, rfl, ⟨_, hW⟩, hB⟩

set_option maxHeartbeats 4000000 in
theorem qOwn_any (A : Option Addr) (n c : Nat) (t : Sh) (w : World) (h : InS w A n t) :
    Calls Tryd.prog 47 #[.slice A n c] w fun e w' => ∃ v, e = .returned v ∧ WO w' w.heap.size v t ∧ Below w.heap.size w w' := by
  have HIN := Lib.hid h
  have hn := h.few
  have hlen := h.rr.len
  have Hlen := Lib.hid hlen
  have hst : OwnV t w (.slice none 0 0) (.int .i64 ((0 : Nat) : Int)) w := ⟨0, Nat.zero_le _, rfl, ⟨[], WOv.nil w _⟩, Below.refl _ _⟩
  have HST := Lib.hid hst
  obtain ⟨i0, hi0, hz0, hz1, hz2⟩ := info_parts infoWd
  obtain ⟨i1, hi1, hy0, hy1, hy2⟩ := info_parts infoSl
  clear h hst hlen
  go_enter Tryd.func47, Tryd.ntmps47
  go_wp2
  go_loopw [3, 4] (OwnV t w) (fun _ i _ => n - (intOf i).toNat)
  case atStart => exact HST.out
  case round =>
    obtain ⟨k, hkt, rfl, ⟨vs, hW⟩, hB⟩ := hrel
    have hkn : k ≤ n := by rw [← Hlen.out]; exact hkt
    clear hkt
    by_cases hlt : k < n
    · have hlt2 : (k : Int) < (n : Int) := by omega
      obtain ⟨bA, off, B, cB, rfl, hbl, hcell, hRl, hqt, hl70, hsm⟩ := (HIN.out.to hB).at hlt
      obtain ⟨m, hm⟩ : ∃ m, m = (rowAt t k).length := ⟨_, rfl⟩
      rw [← hm] at hcell hl70
      have htk : (t.take k).length = k := by rw [List.length_take]; omega
      obtain ⟨Au, cu, rfl, _⟩ := own_slice hW.outer
      rw [htk] at hW ⊢
      have HW := Lib.hid hW
      have HB := Lib.hid hB
      have HRL := Lib.hid hRl
      have HTK := Lib.hid htk
      have HQT := Lib.hid hqt
      have HL70 := Lib.hid hl70
      have HM := Lib.hid hm
      clear hW hB hRl htk hqt hl70 hsm hm
      go_wp2_with (first
        | (at_builtin; refine wpList_append_rd _ rfl _ _ 54 rfl wr.heap.size 52 i0 (.int .u64 0) 1 8 Tryd.underlying54 hi0 hz0 hz1 hz2 rfl (by decide) _ _ _ rfl (own_empty wr 52 1) _ m cB (uw (rowAt t k)) rfl (by rw [HM.out]; exact HRL.out.alloc _) (uw_one _) (by have := HL70.out; simp only [maxLen]; omega) (by have := HL70.out; omega) (by simp) ?_; intro v' w1 hown' hgrow; rw [Nat.zero_add, List.nil_append] at hown'; obtain ⟨Ar, cr, rfl, hRr⟩ := own_slice hown'; have HO := Lib.hid hown'; have hb1 : Below wr.heap.size wr w1 := (((Below.refl _ wr).alloc (Nat.le_refl _) _).grown hgrow (by simp) (fun k e => by cases e; exact Nat.le_refl _)); have HB1 := Lib.hid hb1; clear hown' hRr hgrow hb1; have hwo : (w1.alloc (.cells #[.slice Ar m cr] 54)).ownsRow w.heap.size 54 1 (.slice Au k cu) k vs := (by have h1 := (HW.out.to HB1.out).outer; rw [HTK.out] at h1; exact h1.alloc _); have HWO := Lib.hid hwo; clear hwo)
        | (at_builtin; refine wpList_append_own_at _ rfl _ _ 22 rfl w.heap.size 54 i1 (.slice none 0 0) 1 24 Tryd.underlying22 hi1 hy0 hy1 hy2 rfl (by decide) _ _ _ rfl HWO.out ⟨w1.heap.size, 0, none⟩ 1 1 [.slice Ar m cr] rfl rfl (cell_one_new _ _ _) (by intro u hu; rw [List.mem_singleton.1 hu]; exact own_one HO.out) (by unfold maxLen; omega) (by omega) (by have := HB1.out.size; have := HB.out.size; simp; omega) ?_; intro v2 w2 hown2 hgrow2 hnil2 hloc2))
      have hrow2 : World.ownsRow w1 w.heap.size 52 1 (.slice Ar m cr) (rowAt t k).length (uw (rowAt t k)) := by rw [← HM.out]; exact own_less HO.out HB.out.size
      have hru : ∀ g, (Value.slice Ar m cr).ownBlock = some g → wr.heap.size ≤ g := fun g hg => (HO.out.lt g hg).1
      have hpush := (HW.out.to HB1.out).push2 hrow2 (.cells #[.slice Ar m cr] 54) (fun g h1 h2 => by have := hru g h1; have := (HW.out.outer.lt g h2).2; omega) (fun j q g hq h1 h2 => by have := hru g h1; have := (HW.out.row_lt hq h2).2; omega) (by rw [HTK.out]; exact hown2) hgrow2 hloc2
      have hB2 : Below w.heap.size w w2 := (balloc (bnext HB.out HB1.out) (.cells #[.slice Ar m cr] 54)).grown hgrow2 (by have := (balloc (bnext HB.out HB1.out) (.cells #[.slice Ar m cr] 54)).size; exact this) (fun g hg => (HW.out.outer.lt g hg).1)
      have htk1 : t.take (k + 1) = t.take k ++ [rowAt t k] := by
        rw [List.take_add_one]
        unfold rowAt
        rw [List.getD_eq_getElem?_getD, List.getElem?_eq_getElem HQT.out]
        rfl
      rw [← htk1] at hpush
      have HN := Lib.hid (And.intro hpush hB2)
      clear hpush hB2 htk1 hru hrow2 hown2 hgrow2 hnil2 hloc2
      go_wp2
      go_roundw
      case rel => exact ⟨k + 1, HQT.out, by go_num, ⟨_, HN.out.1⟩, HN.out.2⟩
      case measure => simp [intOf]; omega
    · have hkl : k = t.length := by rw [Hlen.out]; omega
      rw [hkl, List.take_length] at hW
      have hnlt : ¬ (k : Int) < (n : Int) := by omega
      clear hkl
      go_wp2
      go_ret
      exact ⟨_, rfl, ⟨_, hW⟩, hB⟩
end Go.Proofs.YtomndlnfidkdcaaDoor
/- The comparisons of package headgatekit, at equal lists of numbers and words. -/
namespace Go.Proofs.YtomndlnfidkdcaaDoor
open Go Go.Proofs Go.RowKit
set_option linter.unusedSimpArgs false
set_option linter.unusedVariables false

set_option maxHeartbeats 400000 in
theorem SameInts_eq (A B : Option Addr) (n c d : Nat) (zs : List Int) (w : World) (ha : Rd w 1 A n (zs.map (Value.int .i64))) (hb : Rd w 1 B n (zs.map (Value.int .i64))) (hn : n ≤ 1000000) :
    Calls Tryd.prog 28 #[.slice A n c, .slice B n d] w fun e w' => e = .returned (.bool true) ∧ Below w.heap.size w w' := by
  go_enter Tryd.func28, Tryd.ntmps28
  go_wp2
  go_loopw [5] (fun i wr => ∃ k : Nat, k ≤ n ∧ i = .int .i64 k ∧ Below w.heap.size w wr) (fun i _ => n - (intOf i).toNat)
  case atStart => exact ⟨0, Nat.zero_le _, rfl, Below.refl _ _⟩
  case round =>
    obtain ⟨k, hk, rfl, hbw⟩ := hrel
    by_cases hlt : k < n
    · obtain ⟨b, off, r, rfl, hbl, hr, hc1⟩ := (ha.below hbw (Nat.le_refl _)).num hlt
      obtain ⟨b', off', r', rfl, hbl', hr', hc1'⟩ := (hb.below hbw (Nat.le_refl _)).num hlt
      rw [hr] at hr'
      injection hr' with hr'
      subst hr'
      clear hr ha hb
      go_wp2_with fail
      go_quiet (fail)
      go_wp2
      go_roundw
      case rel => exact ⟨k + 1, by omega, by go_num, below_drawn hbw _⟩
      case measure => simp [intOf]; omega
    · go_wp2
      go_ret
      exact ⟨rfl, hbw⟩

set_option maxHeartbeats 400000 in
theorem SameWords_eq (A B : Option Addr) (n c d : Nat) (ws : List Nat) (w : World) (ha : Rd w 1 A n (uw ws)) (hb : Rd w 1 B n (uw ws)) (hs : wsmall ws) (hn : n ≤ 1000000) :
    Calls Tryd.prog 50 #[.slice A n c, .slice B n d] w fun e w' => e = .returned (.bool true) ∧ Below w.heap.size w w' := by
  go_enter Tryd.func50, Tryd.ntmps50
  go_wp2
  go_loopw [5] (fun i wr => ∃ k : Nat, k ≤ n ∧ i = .int .i64 k ∧ Below w.heap.size w wr) (fun i _ => n - (intOf i).toNat)
  case atStart => exact ⟨0, Nat.zero_le _, rfl, Below.refl _ _⟩
  case round =>
    obtain ⟨k, hk, rfl, hbw⟩ := hrel
    by_cases hlt : k < n
    · obtain ⟨b, off, x, rfl, hbl, hx, hxl, hc1⟩ := (ha.below hbw (Nat.le_refl _)).word hs hlt
      obtain ⟨b', off', x', rfl, hbl', hx', hxl', hc1'⟩ := (hb.below hbw (Nat.le_refl _)).word hs hlt
      rw [hx] at hx'
      subst hx'
      clear hx ha hb
      go_wp2_with fail
      go_quiet (fail)
      go_wp2
      go_roundw
      case rel => exact ⟨k + 1, by omega, by go_num, below_drawn hbw _⟩
      case measure => simp [intOf]; omega
    · go_wp2
      go_ret
      exact ⟨rfl, hbw⟩

theorem Rd.to {w w' : World} {sz n : Nat} {A : Option Addr} {xs : List Value} (h : Rd w sz A n xs) (hb : Below w.heap.size w w') : Rd w' sz A n xs := h.below hb (Nat.le_refl _)
theorem Rd.drew1 {w : World} {sz n : Nat} {A : Option Addr} {xs : List Value} (h : Rd w sz A n xs) : Rd w.drew sz A n xs := h
end Go.Proofs.YtomndlnfidkdcaaDoor
/- headgatekit: equal rows of words, equal sharings. -/
namespace Go.Proofs.YtomndlnfidkdcaaDoor
open Go Go.Proofs Go.RowKit Go.Maps
set_option linter.unusedSimpArgs false
set_option linter.unusedVariables false
set_option maxRecDepth 100000

set_option maxHeartbeats 1000000 in
theorem SameShr_eq (A B : Option Addr) (n c d : Nat) (t : Sh) (w : World) (ha : RR uw 1 w A n t) (hb : RR uw 1 w B n t) (hs : shsmall t) (hl : ∀ l ∈ t, l.length ≤ 1000) (hn : n ≤ 1000) :
    Calls Tryd.prog 15 #[.slice A n c, .slice B n d] w fun e w' => e = .returned (.bool true) ∧ Below w.heap.size w w' := by
  have HA := Lib.hid ha
  have HB := Lib.hid hb
  have Hlen := Lib.hid ha.len
  have HS := Lib.hid hs
  have HL := Lib.hid hl
  clear ha hb hs hl
  go_enter Tryd.func15, Tryd.ntmps15
  go_wp2
  go_loopw [5] (fun i wr => ∃ k : Nat, k ≤ n ∧ i = .int .i64 k ∧ Below w.heap.size w wr) (fun i _ => n - (intOf i).toNat)
  case atStart => exact ⟨0, Nat.zero_le _, rfl, Below.refl _ _⟩
  case round =>
    obtain ⟨k, hk, rfl, hbw⟩ := hrel
    by_cases hlt : k < n
    · have hlt2 : (k : Int) < (n : Int) := by omega
      have hkt : k < t.length := by rw [Hlen.out]; exact hlt
      have hrow : t[k]? = some (rowAt t k) := by
        unfold rowAt
        rw [List.getD_eq_getElem?_getD, List.getElem?_eq_getElem hkt]
        rfl
      obtain ⟨b, off, X, cx, rfl, hbl, hc1, hR1⟩ := (HA.out.to hbw).row hrow
      obtain ⟨b', off', Y, cy, rfl, hbl', hc2, hR2⟩ := (HB.out.to hbw).row hrow
      have HR1 := Lib.hid hR1
      have HR2 := Lib.hid hR2
      have HSM := Lib.hid (HS.out _ (rowAt_mem hkt))
      have HLM := Lib.hid (HL.out _ (rowAt_mem hkt))
      have HBW := Lib.hid hbw
      clear hrow hkt hR1 hR2 hbw
      go_wp2_with fail
      go_region_held3 (fun w' => w'.cell? ⟨b, off + k, none⟩ = some (.slice X (rowAt t k).length cx) ∧ w'.cell? ⟨b', off' + k, none⟩ = some (.slice Y (rowAt t k).length cy))
        (refine ⟨?_, ?_⟩ <;> (repeat (with_reducible first | exact hc1 | exact hc2 | refine cell_drew ?_ | refine cell_later hb1 ?_)))
        (first
          | (go_at_call 50; refine (SameWords_eq _ _ _ _ _ (rowAt t k) _ (rd_drew HR1.out) (rd_drew HR2.out) HSM.out (by have := HLM.out; omega)).mono ?_; rintro e w1 ⟨rfl, hb1⟩))
      have HB2 := Lib.hid (bnext (below_drew HBW.out) hb1)
      go_wp2
      go_roundw
      case rel => exact ⟨k + 1, by omega, by go_num, HB2.out⟩
      case measure => simp [intOf]; omega
    · have hnlt : ¬ (k : Int) < (n : Int) := by omega
      go_wp2
      go_ret
      exact ⟨rfl, hbw⟩
end Go.Proofs.YtomndlnfidkdcaaDoor
/- headgateref26.Take. -/
namespace Go.Proofs.YtomndlnfidkdcaaDoor
open Go Go.Proofs Go.RowKit Go.Maps
set_option linter.unusedSimpArgs false
set_option linter.unusedVariables false
set_option maxRecDepth 100000

theorem WO.sho {w : World} {base : Nat} {v : Value} {U : Sh} (h : WO w base v U) : ShO w v U := by
  obtain ⟨vs, h1⟩ := id h
  rcases h1.outer.2 with ⟨rfl, h0⟩ | ⟨g, cap, cur, rfl, _, _, hnc, _⟩
  · have hU : U = [] := List.eq_nil_of_length_eq_zero h0
    subst hU
    exact ShO.nil w
  · exact ⟨_, cap, rfl, h.rr rfl, hnc⟩
set_option maxHeartbeats 8000000 in
theorem qTake_any (A : Option Addr) (n c : Nat) (t : Sh) (table page : Int) (w : World) (h : InS w A n t) :
    Calls Tryd.prog 17 #[.slice A n c, .int .i64 table, .int .i64 page] w fun e w' => TkO (takeR t table page) w w' e := by
  have HC := Lib.hid (qAt_any A n c t table page w h)
  have HIN := Lib.hid h
  have hn := h.few
  have Hlen := Lib.hid h.rr.len
  clear h
  by_cases h0 : askS t table page = 0
  · have hck := HC.out
    rw [h0] at hck
    have HC0 := Lib.hid hck
    obtain ⟨hv, i, j, rfl, rfl, hi, hj⟩ := ask_zero h0
    have hBE : takeE t i j = (if needR t (wordAt t i j) ≠ 3 then 9 else 0) := by unfold takeE; rw [orE_r _ h0]; simp only [Int.toNat_natCast]
    have HV := Lib.hid (And.intro hv (And.intro hi hj))
    clear hck HC h0
    obtain ⟨N, hNN⟩ : ∃ N, N = needR t (wordAt t i j) := ⟨_, rfl⟩
    have hnd : ∀ W, Below w.heap.size w W → Calls Tryd.prog 55 #[.slice A n c, .int .i64 i, .int .i64 j] W fun e w' => e = .returned (.int .i64 N) ∧ Below W.heap.size W w' := fun W hW => by rw [hNN]; exact qNeeds_any A n c t i j W (HIN.out.to hW) HV.out.1 HV.out.2.1 HV.out.2.2
    have HND := Lib.hid hnd
    rw [← hNN] at hBE
    clear hnd
    by_cases hN : N = 3
    · subst hN
      have hunp : unpE (wordAt t i j) = 0 := hv.ok _ (rowAt_mem hi) _ (wordAt_mem hj)
      have hok : takeR t i j = (setW t i j (packE (ownE (entW (wordAt t i j)))), 0) := by unfold takeR; rw [if_neg (by rw [hBE]; simp)]; simp only [Int.toNat_natCast]
      rcases hent : entW (wordAt t i j) with ⟨k0, n0, a0, b0, c0⟩
      have hck : chkE (k0, n0, true, false, c0) = 0 := by
        obtain ⟨m, d, he, hm0, hm1, _⟩ := need_three hunp hNN.symm
        rw [hent] at he
        injection he with he1 he
        injection he with he2 he
        rw [he1, he2]
        exact chk_own m true false c0 hm0 hm1 (by decide)
      rw [hent] at hok
      have HRR := Lib.hid hok
      have HENT := Lib.hid hent
      have HCK := Lib.hid hck
      have hin : i < n := by rw [← Hlen.out]; exact hi
      have hin2 : (i : Int) < (n : Int) := by omega
      clear hBE hNN hunp hok hent hck hv
      go_enter Tryd.func17, Tryd.ntmps17
      go_wp2_with fail
      refine HC0.out.mono ?_
      rintro e w1 ⟨rfl, hb1⟩
      go_wp2_with (first
        | (go_at_call 55; refine (HND.out _ hb1).mono ?_; rintro e w2 ⟨rfl, hb2⟩)
        | fail)
      refine (qOwn_any A n c t w2 (HIN.out.to (bnext hb1 hb2))).mono ?_
      rintro e w3 ⟨v3, rfl, ⟨vs, hW⟩, hb3⟩
      have hB3 := bnext (bnext hb1 hb2) hb3
      have HB3 := Lib.hid hB3
      have hsz := (bnext hb1 hb2).size
      obtain ⟨ga, capa, rfl, hba, hla⟩ := hW.outer.form (by rw [Hlen.out]; omega)
      rw [Hlen.out] at hW ⊢
      have hrow : t[i]? = some (rowAt t i) := by
        unfold rowAt
        rw [List.getD_eq_getElem?_getD, List.getElem?_eq_getElem hi]
        rfl
      obtain ⟨r, hr, ho⟩ := hW.rows i _ hrow
      obtain ⟨g, cR, rfl, hbg, hgl⟩ := ho.form (by omega)
      have hrc := hW.cell Hlen.out hr
      obtain ⟨bA, off, B, cB, rfl, hbl, hcell, hRl, hqt, hl70, hsm⟩ := (HIN.out.to hB3).at hin
      obtain ⟨bR, ofR, x, rfl, hbR, hx, hxs, hxc⟩ := hRl.word hsm hj
      have hxw : wordAt t i j = x := hx
      have hxa := word_at hj hx
      obtain ⟨m, hm⟩ : ∃ m, m = (rowAt t i).length := ⟨_, rfl⟩
      rw [← hm] at hcell hrc hr hj
      have hjm2 : (j : Int) < (m : Int) := by omega
      have hent2 := HENT.out
      rw [hxw] at hent2
      have HE2 := Lib.hid hent2
      have HW := Lib.hid hW
      have HROW := Lib.hid hrow
      have HXA := Lib.hid hxa
      have HR := Lib.hid hr
      have hm70 : m ≤ 70 := by omega
      clear hW ho hRl hqt hl70 hsm hx hxw hxa hm hent2 hrow hr hB3 hb1 hb2 hb3
      go_wp2_with fail
      refine (rEntry_any x w3 hxs _ _ _ _ _ HE2.out).mono ?_
      rintro e w4 ⟨rfl, hb4⟩
      replace hrc := cell_later hb4 hrc
      go_wp2_with fail
      have hA2 : Below w4.heap.size w4 (w4.alloc (.cells #[.int .i64 k0, .int .i64 n0, .bool true, .bool false, .bool c0] 61)) := balloc (Below.refl _ _) _
      have kE := Bk.new w4 #[.int .i64 k0, .int .i64 n0, .bool true, .bool false, .bool c0] 61
      have hgeg : w4.heap.size ≠ g := by have := hb4.size; omega
      have hgag : ga ≠ g := fun e1 => HW.out.off i _ g HR.out rfl (by rw [← e1]; rfl)
      generalize w4.alloc (.cells #[.int .i64 k0, .int .i64 n0, .bool true, .bool false, .bool c0] 61) = w5 at *
      replace hrc := cell_later hA2 hrc
      have hB5 : Below w3.heap.size w3 w5 := bnext hb4 hA2
      have HB5 := Lib.hid hB5
      have g0 := kE.cell 0
      have g1 := kE.cell 1
      have g2 := kE.cell 2
      have g3 := kE.cell 3
      have g4 := kE.cell 4
      simp at g0 g1 g2 g3 g4
      clear hA2 hB5 hb4 kE
      go_region_held3 (fun w' => w'.cell? ⟨w4.heap.size, 0, none⟩ = some (.int .i64 k0) ∧ w'.cell? ⟨w4.heap.size, 1, none⟩ = some (.int .i64 n0) ∧ w'.cell? ⟨w4.heap.size, 2, none⟩ = some (.bool true) ∧ w'.cell? ⟨w4.heap.size, 3, none⟩ = some (.bool false) ∧ w'.cell? ⟨w4.heap.size, 4, none⟩ = some (.bool c0) ∧ w'.cell? ⟨ga, i, none⟩ = some (.slice (some ⟨g, 0, none⟩) m cR))
        (refine ⟨?_, ?_, ?_, ?_, ?_, ?_⟩ <;> (repeat (with_reducible first | exact g0 | exact g1 | exact g2 | exact g3 | exact g4 | exact hrc | exact hgeg | exact hgag | refine cell_drew ?_ | refine cell_farB ?_ ?_ _ | refine cell_later hb7 ?_)))
        (first
          | (go_at_call 49; refine (rWord_any (k0, n0, true, false, c0) _ HCK.out).mono ?_; rintro e w7 ⟨rfl, hb7⟩; obtain ⟨fz, r0, _, _, hput⟩ := (HW.out.to (bnext (below_drew HB5.out) hb7)).put_at Hlen.out HROW.out HXA.out HR.out))
      have hp := hput (packE (k0, n0, true, false, c0))
      have hB7 := ((bnext HB3.out (bnext (below_drew HB5.out) hb7)).setCell (p := ⟨g, j, none⟩) (by show w.heap.size ≤ g; omega) (.int .u64 ((packE (k0, n0, true, false, c0) : Nat) : Int)))
      have HP := Lib.hid (And.intro hp hB7)
      clear hp hB7 hput fz r0 hb7 hrc g0 g1 g2 g3 g4
      go_wp2
      go_ret2
      rw [HRR.out]
      exact ⟨⟨_, rfl, WO.sho ⟨_, HP.out.1⟩⟩, HP.out.2⟩
    · have HRR : Hid (takeR t i j = ([], 9)) := Lib.hid (by unfold takeR; rw [if_pos (by rw [hBE, if_pos hN]; decide), hBE, if_pos hN])
      have hne : (N != 3) = true := by simpa using hN
      clear hBE hNN hN hv hi hj
      go_enter Tryd.func17, Tryd.ntmps17
      go_wp2_with fail
      refine HC0.out.mono ?_
      rintro e w1 ⟨rfl, hb1⟩
      go_wp2_with (go_at_call 55; refine (HND.out _ hb1).mono ?_; rintro e w2 ⟨rfl, hb2⟩)
      go_ret2
      rw [HRR.out]
      exact ⟨⟨_, rfl, ShO.nil _⟩, bnext hb1 hb2⟩
  · have hR : takeR t table page = ([], askS t table page) := by unfold takeR takeE; rw [orE_l _ h0, if_pos h0]
    have hne : (askS t table page != 0) = true := by simpa using h0
    have HRR := Lib.hid hR
    clear hR h0
    go_enter Tryd.func17, Tryd.ntmps17
    go_wp2_with fail
    refine HC.out.mono ?_
    rintro e w1 ⟨rfl, hb⟩
    go_wp2
    go_ret2
    rw [HRR.out]
    exact ⟨⟨_, rfl, ShO.nil _⟩, hb⟩
end Go.Proofs.YtomndlnfidkdcaaDoor
/- headgateref26.Break. -/
namespace Go.Proofs.YtomndlnfidkdcaaDoor
open Go Go.Proofs Go.RowKit Go.Maps
set_option linter.unusedSimpArgs false
set_option linter.unusedVariables false
set_option maxRecDepth 100000

theorem field_num (k n : Int) (a b c : Bool) (W : World) : (Instr.field 61 (.agg #[.int .i64 k, .int .i64 n, .bool a, .bool b, .bool c]) 1).run Tryd.prog W = .ok (.int .i64 n) W := by kernel_rfl
set_option maxHeartbeats 8000000 in
theorem qBreak_any (A : Option Addr) (n c : Nat) (t : Sh) (table page frame : Int) (w : World) (h : InS w A n t) :
    Calls Tryd.prog 19 #[.slice A n c, .int .i64 table, .int .i64 page, .int .i64 frame] w fun e w' => BrkO (brkR t table page frame) w w' e := by
  have HC := Lib.hid (qAt_any A n c t table page w h)
  have HIN := Lib.hid h
  have hn := h.few
  have Hlen := Lib.hid h.rr.len
  clear h
  by_cases h0 : askS t table page = 0
  · have hck := HC.out
    rw [h0] at hck
    have HC0 := Lib.hid hck
    obtain ⟨hv, i, j, rfl, rfl, hi, hj⟩ := ask_zero h0
    have hBE : brkE t i j frame = (if needR t (wordAt t i j) ≠ 4 then 9 else if frame < 0 ∨ 256 ≤ frame then 2 else if 0 < cntS t (1, frame) then 7 else 0) := by unfold brkE; rw [orE_r _ h0]; simp only [Int.toNat_natCast]
    have hbad : ∀ z, brkE t i j frame = z → z ≠ 0 → brkR t i j frame = ([], 0, z) := fun z hz hne => by unfold brkR; rw [if_pos (by rw [hz]; exact hne), hz]
    have HV := Lib.hid (And.intro hv (And.intro hi hj))
    clear hck HC h0
    obtain ⟨N, hNN⟩ : ∃ N, N = needR t (wordAt t i j) := ⟨_, rfl⟩
    have hnd : ∀ W, Below w.heap.size w W → Calls Tryd.prog 55 #[.slice A n c, .int .i64 i, .int .i64 j] W fun e w' => e = .returned (.int .i64 N) ∧ Below W.heap.size W w' := fun W hW => by rw [hNN]; exact qNeeds_any A n c t i j W (HIN.out.to hW) HV.out.1 HV.out.2.1 HV.out.2.2
    have HND := Lib.hid hnd
    rw [← hNN] at hBE
    clear hnd hNN
    by_cases hN : N = 4
    · subst hN
      rw [if_neg (by simp)] at hBE
      by_cases h1 : frame < 0
      · have HRR := Lib.hid (hbad 2 (by rw [hBE, if_pos (.inl h1)]) (by decide))
        clear hBE hbad hv hi hj
        go_enter Tryd.func19, Tryd.ntmps19
        go_wp2_with fail
        refine HC0.out.mono ?_
        rintro e w1 ⟨rfl, hb1⟩
        go_wp2_with (go_at_call 55; refine (HND.out _ hb1).mono ?_; rintro e w2 ⟨rfl, hb2⟩)
        go_ret3
        rw [HRR.out]
        exact ⟨⟨_, rfl, ShO.nil _⟩, bnext hb1 hb2⟩
      by_cases h2 : 256 ≤ frame
      · have HRR := Lib.hid (hbad 2 (by rw [hBE, if_pos (.inr h2)]) (by decide))
        clear hBE hbad hv hi hj
        go_enter Tryd.func19, Tryd.ntmps19
        go_wp2_with fail
        refine HC0.out.mono ?_
        rintro e w1 ⟨rfl, hb1⟩
        go_wp2_with (go_at_call 55; refine (HND.out _ hb1).mono ?_; rintro e w2 ⟨rfl, hb2⟩)
        go_ret3
        rw [HRR.out]
        exact ⟨⟨_, rfl, ShO.nil _⟩, bnext hb1 hb2⟩
      obtain ⟨f, rfl⟩ : ∃ f : Nat, frame = f := ⟨frame.toNat, by omega⟩
      have hf : f < 256 := by omega
      have hf2 : (f : Int) < 256 := by omega
      rw [if_neg (by omega)] at hBE
      obtain ⟨u, hu⟩ : ∃ u, u = cntS t (1, (f : Int)) := ⟨_, rfl⟩
      have hus : ∀ W, Below w.heap.size w W → Calls Tryd.prog 59 #[.slice A n c, .int .i64 1, .int .i64 f] W fun e w' => e = .returned (.int .i64 (u : Nat)) ∧ Below W.heap.size W w' := fun W hW => by rw [hu]; exact rUses_any A n c t 1 f W (HIN.out.to hW)
      have HUS := Lib.hid hus
      rw [← hu] at hBE
      clear hus hu h1 h2
      by_cases hc : 0 < u
      · have hd : decide ((0 : Int) < (u : Int)) = true := by simp; omega
        have HRR := Lib.hid (hbad 7 (by rw [hBE, if_pos hc]) (by decide))
        clear hBE hbad hv hi hj
        go_enter Tryd.func19, Tryd.ntmps19
        go_wp2_with fail
        refine HC0.out.mono ?_
        rintro e w1 ⟨rfl, hb1⟩
        go_wp2_with (first | (go_at_call 55; refine (HND.out _ hb1).mono ?_; rintro e w2 ⟨rfl, hb2⟩) | (go_at_call 59; refine (HUS.out _ (bnext hb1 hb2)).mono ?_; rintro e w3 ⟨rfl, hb3⟩))
        go_ret3
        rw [HRR.out]
        exact ⟨⟨_, rfl, ShO.nil _⟩, bnext (bnext hb1 hb2) hb3⟩
      have hz : u = 0 := by omega
      subst hz
      have hok : brkR t i j f = (setW t i j (packE (1, (f : Int), true, false, false)), (entW (wordAt t i j)).2.1, 0) := by unfold brkR; rw [if_neg (by rw [hBE]; simp)]; simp only [Int.toNat_natCast]
      rcases hent : entW (wordAt t i j) with ⟨k0, n0, a0, b0, c0⟩
      rw [hent] at hok
      have HRR := Lib.hid hok
      have HCK := Lib.hid (chk_own (f : Int) true false false (by omega) (by omega) (by decide))
      have hin : i < n := by rw [← Hlen.out]; exact hi
      have hin2 : (i : Int) < (n : Int) := by omega
      obtain ⟨bA, off, B, cB, rfl, hbl, hcell, hRl, hqt, hl70, hsm⟩ := HIN.out.at hin
      obtain ⟨bR, ofR, x, rfl, hbR, hx, hxs, hxc⟩ := hRl.word hsm hj
      have hxw : wordAt t i j = x := hx
      rw [hxw] at hent
      have HENT := Lib.hid hent
      have HXA := Lib.hid (word_at hj hx)
      have hrow : t[i]? = some (rowAt t i) := by
        unfold rowAt
        rw [List.getD_eq_getElem?_getD, List.getElem?_eq_getElem hi]
        rfl
      have HROW := Lib.hid hrow
      obtain ⟨m, hm⟩ : ∃ m, m = (rowAt t i).length := ⟨_, rfl⟩
      have HM := Lib.hid hm
      rw [← hm] at hcell hj hl70
      have hjm2 : (j : Int) < (m : Int) := by omega
      have HCELL := Lib.hid hcell
      have HXC := Lib.hid hxc
      clear hBE hbad hok hent hv hRl hqt hsm hx hxw hrow hm hc hcell hxc
      go_enter Tryd.func19, Tryd.ntmps19
      go_wp2_with fail
      refine HC0.out.mono ?_
      rintro e w1 ⟨rfl, hb1⟩
      go_wp2_with (first | (go_at_call 55; refine (HND.out _ hb1).mono ?_; rintro e w2 ⟨rfl, hb2⟩) | (go_at_call 59; refine (HUS.out _ (bnext hb1 hb2)).mono ?_; rintro e w3 ⟨rfl, hb3⟩))
      refine (qOwn_any _ n c t w3 (HIN.out.to (bnext (bnext hb1 hb2) hb3))).mono ?_
      rintro e w4 ⟨v3, rfl, ⟨vs, hW⟩, hb4⟩
      have hB3 := bnext (bnext hb1 hb2) hb3
      have hsz := hB3.size
      have HB4 := Lib.hid (bnext hB3 hb4)
      obtain ⟨ga, capa, rfl, hba, hla⟩ := hW.outer.form (by rw [Hlen.out]; omega)
      rw [Hlen.out] at hW ⊢
      obtain ⟨r, hr, ho⟩ := hW.rows i _ HROW.out
      obtain ⟨g, cR, rfl, hbg, hgl⟩ := ho.form (by rw [← HM.out]; omega)
      rw [← HM.out] at hr
      have hrc := hW.cell Hlen.out hr
      have hgag : ga ≠ g := fun e1 => hW.off i _ g hr rfl (by rw [← e1]; rfl)
      have HW := Lib.hid hW
      have HR := Lib.hid hr
      clear hW ho hr hb1 hb2 hb3 hb4 hB3
      go_wp2_with fail
      go_region_held3 (fun w' => w'.cell? ⟨ga, i, none⟩ = some (.slice (some ⟨g, 0, none⟩) m cR))
        (repeat (with_reducible first | exact hrc | exact hgag | refine cell_drew ?_ | refine cell_farB ?_ ?_ _ | refine cell_later hb7 ?_))
        (first
          | (go_at_call 49; refine (rWord_any (1, (f : Int), true, false, false) _ HCK.out).mono ?_; rintro e w7 ⟨rfl, hb7⟩; obtain ⟨fz, r0, _, _, hput⟩ := (HW.out.to (bnext (below_drew (Below.refl _ _)) hb7)).put_at Hlen.out HROW.out HXA.out HR.out))
      have hp := hput (packE (1, (f : Int), true, false, false))
      have hB7 := ((bnext HB4.out (bnext (below_drew (Below.refl _ _)) hb7)).setCell (p := ⟨g, j, none⟩) (by show w.heap.size ≤ g; omega) (.int .u64 ((packE (1, (f : Int), true, false, false) : Nat) : Int)))
      have HP := Lib.hid hp
      clear hp hput fz r0 hb7 hrc
      generalize w7.setCell ⟨g, j, none⟩ (.int .u64 ((packE (1, (f : Int), true, false, false) : Nat) : Int)) = w8 at *
      have hcell8 := (hB7.cell (p := ⟨bA, off + i, none⟩) hbl).trans HCELL.out
      have hxc8 := (hB7.cell (p := ⟨bR, ofR + j, none⟩) hbR).trans HXC.out
      have HB8 := Lib.hid hB7
      have hbl8 : bA < w8.heap.size := Nat.lt_of_lt_of_le hbl hB7.size
      have hbR8 : bR < w8.heap.size := Nat.lt_of_lt_of_le hbR hB7.size
      clear hB7
      go_wp2_with fail
      refine (rEntry_any x w8 hxs _ _ _ _ _ HENT.out).mono ?_
      rintro e w9 ⟨rfl, hb9⟩
      have hfd := field_num k0 n0 a0 b0 c0
      go_wp2
      go_ret3
      rw [HRR.out]
      exact ⟨⟨_, rfl, (WO.sho ⟨_, HP.out⟩).to hb9⟩, bnext HB8.out hb9⟩
    · have HRR : Hid (brkR t i j frame = ([], 0, 9)) := Lib.hid (hbad 9 (by rw [hBE, if_pos hN]) (by decide))
      have hne : (N != 4) = true := by simpa using hN
      clear hBE hbad hN hv hi hj
      go_enter Tryd.func19, Tryd.ntmps19
      go_wp2_with fail
      refine HC0.out.mono ?_
      rintro e w1 ⟨rfl, hb1⟩
      go_wp2_with (go_at_call 55; refine (HND.out _ hb1).mono ?_; rintro e w2 ⟨rfl, hb2⟩)
      go_ret3
      rw [HRR.out]
      exact ⟨⟨_, rfl, ShO.nil _⟩, bnext hb1 hb2⟩
  · have hR : brkR t table page frame = ([], 0, askS t table page) := by unfold brkR brkE; rw [orE_l _ h0, if_pos h0]
    have hne : (askS t table page != 0) = true := by simpa using h0
    have HRR := Lib.hid hR
    clear hR h0
    go_enter Tryd.func19, Tryd.ntmps19
    go_wp2_with fail
    refine HC.out.mono ?_
    rintro e w1 ⟨rfl, hb⟩
    go_wp2
    go_ret3
    rw [HRR.out]
    exact ⟨⟨_, rfl, ShO.nil _⟩, hb⟩
end Go.Proofs.YtomndlnfidkdcaaDoor
