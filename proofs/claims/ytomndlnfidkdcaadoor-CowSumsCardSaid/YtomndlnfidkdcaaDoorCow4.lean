/- Tables of entries in memory (package cow), and how many entries use each frame and each slot. -/
import Derived.Test.YtomndlnfidkdcaaDoorCowK
import Derived.Deep.RegionHeld3
import Derived.IntWalk
namespace Go.Proofs.YtomndlnfidkdcaaDoor
open Go Go.Proofs Go.RowKit Go.Maps
set_option linter.unusedSimpArgs false
set_option linter.unusedVariables false
set_option maxRecDepth 100000

/-- Entries as cells. -/
def ew (l : List En5) : List Value := l.flatMap fun e => (enC e).toList
theorem ew_nil : ew [] = [] := rfl
theorem ew_cons (e : En5) (l : List En5) : ew (e :: l) = .int .i64 e.1 :: .int .i64 e.2.1 :: .bool e.2.2.1 :: .bool e.2.2.2.1 :: .bool e.2.2.2.2 :: ew l := by simp [ew, enC]
theorem ew_append (a b : List En5) : ew (a ++ b) = ew a ++ ew b := by simp [ew]
theorem ew_len (l : List En5) : (ew l).length = l.length * 5 := by
  induction l with
  | nil => rfl
  | cons e l ih => rw [ew_cons]; simp [ih]; omega
theorem ew_one : ∀ (l : List En5), ∀ u ∈ ew l, u.oneCell' = true
  | [], u, h => by simp [ew] at h
  | e :: l, u, h => by
    rw [ew_cons] at h
    simp only [List.mem_cons] at h
    rcases h with rfl | rfl | rfl | rfl | rfl | h
    · rfl
    · rfl
    · rfl
    · rfl
    · rfl
    · exact ew_one l u h
theorem ew_at : ∀ (l : List En5) (j : Nat) (e : En5), l[j]? = some e → (ew l)[j * 5]? = some (.int .i64 e.1) ∧ (ew l)[j * 5 + 1]? = some (.int .i64 e.2.1) ∧ (ew l)[j * 5 + 2]? = some (.bool e.2.2.1) ∧ (ew l)[j * 5 + 3]? = some (.bool e.2.2.2.1) ∧ (ew l)[j * 5 + 4]? = some (.bool e.2.2.2.2)
  | [], j, e, h => by simp at h
  | x :: l, 0, e, h => by
    simp at h
    subst h
    rw [ew_cons]
    exact ⟨rfl, rfl, rfl, rfl, rfl⟩
  | x :: l, j + 1, e, h => by
    have := ew_at l j e (by simpa using h)
    rw [ew_cons, show (j + 1) * 5 = j * 5 + 1 + 1 + 1 + 1 + 1 by omega]
    simpa using this
theorem Rd.ent {w : World} {B : Option Addr} {n : Nat} {l : List En5} (h : Rd w 5 B n (ew l)) {j : Nat} {e : En5} (he : l[j]? = some e) :
    ∃ b off, B = some ⟨b, off, none⟩ ∧ b < w.heap.size ∧ w.cell? ⟨b, off + j * 5, none⟩ = some (.int .i64 e.1) ∧ w.cell? ⟨b, off + j * 5 + 1, none⟩ = some (.int .i64 e.2.1) ∧ w.cell? ⟨b, off + j * 5 + 2, none⟩ = some (.bool e.2.2.1) ∧
      w.cell? ⟨b, off + j * 5 + 3, none⟩ = some (.bool e.2.2.2.1) ∧ w.cell? ⟨b, off + j * 5 + 4, none⟩ = some (.bool e.2.2.2.2) := by
  have hl : j < l.length := (List.getElem?_eq_some_iff.1 he).1
  have hlen := h.1
  rw [ew_len] at hlen
  obtain ⟨b, off, e1, hb, hc⟩ := h.2 (by omega)
  obtain ⟨a0, a1, a2, a3, a4⟩ := ew_at l j e he
  exact ⟨b, off, e1, hb, hc _ _ a0, by rw [Nat.add_assoc]; exact hc _ _ a1, by rw [Nat.add_assoc]; exact hc _ _ a2, by rw [Nat.add_assoc]; exact hc _ _ a3, by rw [Nat.add_assoc]; exact hc _ _ a4⟩

/-- A slice of slices that reads as L. -/
def RR {α : Type} (f : List α → List Value) (sz : Nat) (w : World) (A : Option Addr) (n : Nat) (L : List (List α)) : Prop :=
  L.length = n ∧ ∃ vs : List Value, Rd w 1 A n vs ∧ ∀ (i : Nat) (l : List α), L[i]? = some l → ∃ (B : Option Addr) (c : Nat), vs[i]? = some (Value.slice B l.length c) ∧ Rd w sz B l.length (f l)
section
variable {α : Type} {f : List α → List Value} {sz : Nat} {w w' : World} {A : Option Addr} {n : Nat} {L : List (List α)}
theorem RR.to (h : RR f sz w A n L) (hb : Below w.heap.size w w') : RR f sz w' A n L := by
  obtain ⟨h1, vs, h2, h3⟩ := h
  refine ⟨h1, vs, h2.below hb (Nat.le_refl _), fun i l hl => ?_⟩
  obtain ⟨B, c, e, hr⟩ := h3 i l hl
  exact ⟨B, c, e, hr.below hb (Nat.le_refl _)⟩
theorem RR.alloc (h : RR f sz w A n L) (o : Obj) : RR f sz (w.alloc o) A n L := h.to (balloc (Below.refl _ _) _)
theorem RR.len (h : RR f sz w A n L) : L.length = n := h.1
theorem RR.row (h : RR f sz w A n L) {i : Nat} {l : List α} (hl : L[i]? = some l) : ∃ b off B c, A = some ⟨b, off, none⟩ ∧ b < w.heap.size ∧ w.cell? ⟨b, off + i, none⟩ = some (.slice B l.length c) ∧ Rd w sz B l.length (f l) := by
  obtain ⟨h1, vs, h2, h3⟩ := h
  obtain ⟨B, c, e, hr⟩ := h3 i l hl
  obtain ⟨b, off, e1, hb, hc⟩ := h2.cell1 e
  exact ⟨b, off, B, c, e1, hb, hc, hr⟩
theorem RR.nil (w : World) : RR f sz w none 0 [] := ⟨rfl, [], Rd.zero _, fun i l h => by simp at h⟩
end

/-- How many entries use a frame or a slot. -/
def cntU (U : List (List En5)) (a : Int × Int) : Nat := (U.map fun l => l.countP fun e => decide (useE e = a)).sum
def tlyU (U : List (List En5)) (a : Int × Int) : Int := if a.1 = 0 then 0 else (cntU U a : Int)
theorem cntU_append (U V : List (List En5)) (a : Int × Int) : cntU (U ++ V) a = cntU U a + cntU V a := by simp [cntU]
theorem cntU_one (l : List En5) (a : Int × Int) : cntU [l] a = l.countP fun e => decide (useE e = a) := by simp [cntU]
theorem tly_skip (U : List (List En5)) (l : List En5) (e : En5) (h : e.1 = 0) : tlyU (U ++ [l ++ [e]]) = tlyU (U ++ [l]) := by
  funext a
  unfold tlyU
  by_cases h0 : a.1 = 0
  · rw [if_pos h0, if_pos h0]
  · rw [if_neg h0, if_neg h0, cntU_append, cntU_append, cntU_one, cntU_one, List.countP_append]
    have : useE e ≠ a := by rintro rfl; exact h0 h
    simp [this]
theorem tly_more (U : List (List En5)) (l : List En5) (e : En5) (h : e.1 ≠ 0) : tlyU (U ++ [l ++ [e]]) = fun b => if b = useE e then tlyU (U ++ [l]) (useE e) + 1 else tlyU (U ++ [l]) b := by
  funext a
  by_cases h1 : a = useE e
  · subst h1
    rw [if_pos rfl]
    unfold tlyU
    have h' : (useE e).1 ≠ 0 := h
    rw [if_neg h', if_neg h', cntU_append, cntU_append, cntU_one, cntU_one, List.countP_append]
    simp
    omega
  · rw [if_neg h1]
    unfold tlyU
    by_cases h0 : a.1 = 0
    · rw [if_pos h0, if_pos h0]
    · rw [if_neg h0, if_neg h0, cntU_append, cntU_append, cntU_one, cntU_one, List.countP_append]
      have : useE e ≠ a := fun e' => h1 e'.symm
      simp [this]
theorem tly_row (U : List (List En5)) : tlyU (U ++ [[]]) = tlyU U := by
  funext a
  unfold tlyU
  rw [cntU_append, cntU_one]
  simp
theorem cntU_le (U : List (List En5)) (N : Nat) (h : ∀ l ∈ U, l.length ≤ N) (a : Int × Int) : cntU U a ≤ U.length * N := by
  induction U with
  | nil => simp [cntU]
  | cons l U ih =>
    have h1 := ih fun m hm => h m (by simp [hm])
    have h2 : l.countP (fun e => decide (useE e = a)) ≤ l.length := List.countP_le_length
    have h3 := h l (by simp)
    have : cntU (l :: U) a = l.countP (fun e => decide (useE e = a)) + cntU U a := by simp [cntU]
    rw [this, List.length_cons, Nat.succ_mul]
    omega
theorem tlyU_bd (U : List (List En5)) (N : Nat) (h : ∀ l ∈ U, l.length ≤ N) (a : Int × Int) : 0 ≤ tlyU U a ∧ tlyU U a ≤ (U.length * N : Nat) := by
  unfold tlyU
  split
  · omega
  · have := cntU_le U N h a
    omega
/-- The counts of a table of entries, as a map. -/
abbrev TlyM (w : World) (B : Nat) (U : List (List En5)) : Prop := TallyG Tryd.prog 61 kf w B (tlyU U)
theorem TlyM.start (w : World) : TlyM (w.alloc (.map #[] 0)) w.heap.size [] := by
  have h := TallyG.new (P := Tryd.prog) (k := 61) (kf := kf) w
  have e : tlyU [] = fun _ => 0 := by
    funext a
    unfold tlyU cntU
    simp
  unfold TlyM
  rw [e]
  exact h
theorem zeroI (w : World) : (zeroValue 3).run Tryd.prog w = .ok (.int .i64 0) w := by kernel_rfl
/-- Entries of which kind and number are numbers. -/
def uok (U : List (List En5)) : Prop := ∀ l ∈ U, ∀ e ∈ l, i64ok e.1 ∧ i64ok e.2.1
theorem take_one {α : Type} (L : List α) (i : Nat) (l : α) (h : L[i]? = some l) : L.take (i + 1) = L.take i ++ [l] := by rw [List.take_add_one, h]; rfl

set_option maxHeartbeats 2000000 in
theorem tally_any (A : Option Addr) (n c : Nat) (U : List (List En5)) (w : World) (hn : n ≤ 11) (hU : RR ew 5 w A n U) (hl : ∀ l ∈ U, l.length ≤ 70) (hk : uok U) :
    Calls Tryd.prog 56 #[.slice A n c] w fun e w' => e = .returned (.map (some w.heap.size)) ∧ TlyM w' w.heap.size U ∧ Below w.heap.size w w' := by
  have hmm := @run_makeMap Tryd.prog
  have Hlen := Lib.hid hU.len
  have HL := Lib.hid hl
  have HK := Lib.hid hk
  clear hl hk
  go_enter Tryd.func56, Tryd.ntmps56
  go_wp2
  go_loopw [11] (fun i wr => ∃ k : Nat, k ≤ n ∧ i = .int .i64 k ∧ TlyM wr w.heap.size (U.take k) ∧ Below w.heap.size w wr)
    (fun i _ => n - (intOf i).toNat)
  case atStart => exact ⟨0, by omega, rfl, TlyM.start w, balloc (Below.refl _ _) _⟩
  case round =>
    obtain ⟨k, hkn, rfl, hT, hB⟩ := hrel
    by_cases hlt : k < n
    · obtain ⟨l, hrow⟩ : ∃ l, U[k]? = some l := ⟨_, List.getElem?_eq_getElem (by rw [Hlen.out]; exact hlt)⟩
      have hmem : l ∈ U := List.mem_of_getElem? hrow
      obtain ⟨bA, off, B, cB, rfl, hbl, hcell0, hR⟩ := hU.row hrow
      have hcell := (hB.cell (p := ⟨bA, off + k, none⟩) hbl).trans hcell0
      have htk := take_one U k _ hrow
      have hl70 := HL.out _ hmem
      have HKr := Lib.hid (HK.out _ hmem)
      have Hpre := Lib.hid (fun (m : List En5) (hm : m ∈ U.take k) => HL.out m (List.mem_of_mem_take hm))
      have Hlk : (U.take k).length = k := by have := Hlen.out; simp; omega
      have HLk := Lib.hid Hlk
      have Htk := Lib.hid htk
      have HR := Lib.hid hR
      clear htk hrow hmem Hlk hcell0 hR
      generalize hV : U.take k = V at *
      clear hV
      go_wp2
      obtain ⟨wo, rfl⟩ : ∃ wo : World, wo = wr := ⟨_, rfl⟩
      go_loopw [17] (fun i wr => ∃ q : Nat, q ≤ l.length ∧ i = .int .i64 q ∧ TlyM wr w.heap.size (V ++ [l.take q]) ∧ Below w.heap.size w wr)
        (fun i _ => l.length - (intOf i).toNat)
      case atStart => exact ⟨0, by omega, rfl, by rw [List.take_zero]; unfold TlyM; rw [tly_row]; exact hT, hB⟩
      case round =>
        obtain ⟨q, hq, rfl, hT2, hB2⟩ := hrel
        by_cases hqt : q < l.length
        · obtain ⟨e, hent⟩ : ∃ e, l[q]? = some e := ⟨_, List.getElem?_eq_getElem hqt⟩
          obtain ⟨bB, of2, rfl, hbl2, e0, e1, e2, e3, e4⟩ := (HR.out.below hB2 (Nat.le_refl _)).ent hent
          have htq := take_one l q _ hent
          have hlq : (l.take q).length ≤ 70 := by have := List.length_take_le q l; simp; omega
          obtain ⟨hk1, hk2⟩ := HKr.out e (List.mem_of_getElem? hent)
          obtain ⟨k0, n0, a0, b0, c0⟩ := e
          simp only at e0 e1 e2 e3 e4
          have hbd := tlyU_bd (V ++ [l.take q]) 70 (fun m hm => by
            rcases List.mem_append.1 hm with hm | hm
            · exact Hpre.out m hm
            · simp at hm; subst hm; exact hlq) (k0, n0)
          have hb900 : 0 ≤ tlyU (V ++ [l.take q]) (k0, n0) ∧ tlyU (V ++ [l.take q]) (k0, n0) ≤ 1000 := by
            have := HLk.out
            simp at hbd
            omega
          clear hbd
          by_cases hk0 : k0 = 0
          · subst hk0
            have hst := tly_skip V (l.take q) (0, n0, a0, b0, c0) rfl
            rw [← htq] at hst
            have HST := Lib.hid hst
            have HTQ := Lib.hid htq
            clear hst htq hent
            go_wp2
            go_roundw
            case rel => exact ⟨q + 1, by omega, by go_num, by unfold TlyM; rw [HST.out]; exact hT2.alloc _, balloc hB2 _⟩
            case measure => simp [intOf]; omega
          · have hne : (k0 != 0) = true := by simpa using hk0
            have hst := tly_more V (l.take q) (k0, n0, a0, b0, c0) hk0
            rw [← htq] at hst
            have HST := Lib.hid hst
            have HTQ := Lib.hid htq
            obtain ⟨lit, hkey⟩ := keyE (k0, n0) hk1 hk2
            have HKEY := Lib.hid hkey
            clear hst htq hkey hent hk0
            go_wp2
            have hTA : TallyG Tryd.prog 61 kf (wr.alloc (.cells #[.int .i64 k0, .int .i64 n0, .bool a0, .bool b0, .bool c0] 61)).drew w.heap.size (tlyU (V ++ [l.take q])) := hT2.alloc _
            have hBA : Below w.heap.size w (wr.alloc (.cells #[.int .i64 k0, .int .i64 n0, .bool a0, .bool b0, .bool c0] 61)).drew := below_drew (balloc hB2 _)
            have hwr : IntKind.i64.wrap (tlyU (V ++ [l.take q]) (k0, n0) + 1) = tlyU (V ++ [l.take q]) (k0, n0) + 1 := IntWalk.i64_in _ (by omega)
            go_region_with ((go_at_call 60; refine (use_any _ _ _ _ _ _).mono ?_; rintro e w1 ⟨rfl, hb1⟩; have hB3 := bnext hBA hb1; obtain ⟨st, w2, hme, hl1, hl2, hg12, hst⟩ := TallyG.entry lawE kf_inj Tryd.underlying81 zeroI (hTA.to hb1) (k0, n0) HKEY.out; obtain ⟨w3, hes, hT3, hg23⟩ := hst (tlyU (V ++ [l.take q]) (k0, n0) + 1); simp only [kf, goInt] at hme hl1 hl2 hes; clear hst))
            all_goals
              go_wp2
              have hB4 : Below w.heap.size w w3 := (hB3.grown hg12 hB3.size (fun j e => by cases e; exact Nat.le_refl _)).grown hg23 (Nat.le_trans hB3.size hg12.size) (fun j e => by cases e; exact Nat.le_refl _)
              go_roundw
              case rel => exact ⟨q + 1, by omega, by go_num, by unfold TlyM; rw [HST.out]; exact hT3, hB4⟩
              case measure => simp [intOf]; omega
        · obtain rfl : q = l.length := by omega
          rw [List.take_of_length_le (Nat.le_refl _), ← Htk.out] at hT2
          go_wp2
          go_roundw
          case rel => exact ⟨k + 1, by omega, by go_num, hT2, hB2⟩
          case measure => simp [intOf]; omega
    · obtain rfl : k = n := by omega
      have htk : U.take k = U := List.take_of_length_le (by rw [Hlen.out]; omega)
      rw [htk] at hT
      go_wp2
      go_ret
      exact ⟨rfl, hT, hB⟩
end Go.Proofs.YtomndlnfidkdcaaDoor
