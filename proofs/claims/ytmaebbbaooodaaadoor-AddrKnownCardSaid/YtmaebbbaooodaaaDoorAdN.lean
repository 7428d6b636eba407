/- Texts of ranges: numbers, by the program and by the reference. -/
import Derived.Test.YtmaebbbaooodaaaDoorAdT
import Derived.Laws.IdiomStrings
namespace Go.Proofs.YtmaebbbaooodaaaDoor
open Go Go.Proofs Go.RowKit
set_option linter.unusedSimpArgs false
set_option linter.unusedVariables false
/-- The bytes of a text as cells. -/
def byW (l : List UInt8) : List Value := l.map fun b => Value.int .u8 (b.toNat : Int)
theorem bytes_new (w : World) (l : List UInt8) : ∃ cp w1, (convert 9 63 (.string ⟨l.toArray⟩)).run Tryd.prog w = .ok (.slice (some ⟨w.heap.size, 0, none⟩) l.length cp) w1 ∧ Rd w1 1 (some ⟨w.heap.size, 0, none⟩) l.length (byW l) ∧ Below w.heap.size w w1 := by
  have h := run_bytes_of_string (P := Tryd.prog) w 9 63 5 ⟨l.toArray⟩ Tryd.underlying9 Tryd.underlying63 Tryd.underlying5
  have hsz : (⟨l.toArray⟩ : ByteArray).size = l.length := by show l.toArray.size = _; simp
  generalize hc : grownCap w (⟨l.toArray⟩ : ByteArray).size 0 5 = cp at h
  rw [hsz] at h
  refine ⟨cp, _, h, ⟨by simp [byW], fun hn => ⟨w.heap.size, 0, rfl, ?_, fun j u hu => ?_⟩⟩, balloc (below_drew (Below.refl _ _)) _⟩
  · rw [World.size_alloc]; exact Nat.lt_succ_self _
  · rw [Nat.zero_add]
    have hj : j < l.length := by have := (List.getElem?_eq_some_iff.1 hu).1; simpa [byW] using this
    have h2 := bytesRow_at ⟨l.toArray⟩ cp j (by simpa using hj)
    have h3 : u = .int .u8 ((⟨l.toArray⟩ : ByteArray).data[j]'(by simpa using hj)).toNat := by
      simp [byW, List.getElem?_eq_getElem hj] at hu
      simp [← hu]
    rw [h3, ← h2]
    exact cell_of_row _ w.heap.size j _ _ _ (heap_alloc_new w.drew _)

set_option maxHeartbeats 1000000 in
theorem number_any (l : List UInt8) (w : World) (hl : l.length ≤ 100000) :
    Calls Tryd.prog 27 #[.string ⟨l.toArray⟩] w fun e w' => e = .returned (.tuple #[.int .i64 ((numM 18 l).getD 0), .bool (numM 18 l).isSome]) ∧ Below w.heap.size w w' := by
  rcases l with _ | ⟨a, t⟩
  · go_enter Tryd.func27, Tryd.ntmps27
    go_wp2
    go_ret2
    exact ⟨rfl, Below.refl _ _⟩
  · simp only [List.length_cons] at hl
    have ha : ((⟨(a :: t).toArray⟩ : ByteArray)[0]'(by show 0 < (a :: t).toArray.size; simp)) = a := rfl
    by_cases h1 : 18 < t.length + 1
    · have hv : numM 18 (a :: t) = none := numM_bad _ _ (.inr (.inl (by simpa using h1)))
      rw [hv]
      have h1' : (18 : Int) < (t.length : Int) + 1 := by omega
      clear h1 hv ha
      go_enter Tryd.func27, Tryd.ntmps27
      go_wp2
      go_ret2
      exact ⟨rfl, Below.refl _ _⟩
    by_cases h2 : 1 < t.length + 1 ∧ a = 48
    · have hv : numM 18 (a :: t) = none := numM_bad _ _ (.inr (.inr (.inl ⟨by simpa using h2.1, by simpa using h2.2⟩)))
      rw [hv]
      have h1' : (t.length : Int) + 1 ≤ 18 := by omega
      have h2' : 1 < (t.length : Int) + 1 := by omega
      obtain ⟨_, rfl⟩ := h2
      have h3 : (((⟨(48 :: t).toArray⟩ : ByteArray)[0]'(by show 0 < (48 :: t).toArray.size; simp)).toNat : Int) = 48 := rfl
      clear h1 hv ha
      go_enter Tryd.func27, Tryd.ntmps27
      go_wp2
      go_ret2
      exact ⟨rfl, Below.refl _ _⟩
    have HR : Hid ((a :: t).all isD = true → numM 18 (a :: t) = some (numV (a :: t))) := Lib.hid fun h => by
      refine numM_ok _ _ ?_ h
      rintro (h3 | h3 | h3)
      · simp at h3
      · simp at h3; omega
      · exact h2 ⟨by simpa using h3.1, by simpa using h3.2⟩
    have HRn : Hid ((a :: t).all isD = false → numM 18 (a :: t) = none) := Lib.hid fun h => numM_bad _ _ (.inr (.inr (.inr h)))
    obtain ⟨cp, w1, hcv, hr, hb⟩ := bytes_new w (a :: t)
    have h3 : t.length + 1 ≤ 18 := by omega
    have h2' : 1 < t.length + 1 → a ≠ 48 := fun h h' => h2 ⟨h, h'⟩
    have hi1 : (t.length : Int) + 1 ≤ 18 := by omega
    have hcase : (t.length = 0) ∨ (0 < t.length ∧ (((⟨(a :: t).toArray⟩ : ByteArray)[0]'(by show 0 < (a :: t).toArray.size; simp)).toNat : Int) ≠ 48) := by
      rcases Nat.eq_zero_or_pos t.length with h | h
      · exact .inl h
      · refine .inr ⟨h, ?_⟩
        rw [ha]
        intro h4
        exact h2' (by omega) (UInt8.toNat_inj.1 (by show a.toNat = (48 : UInt8).toNat; have : (48 : UInt8).toNat = 48 := rfl; omega))
    clear ha h1 h2 h2'
    obtain ⟨cells⟩ : Nonempty (Hid (∀ k c, (a :: t)[k]? = some c → w1.cell? ⟨w.heap.size, k, none⟩ = some (.int .u8 (c.toNat : Int)))) := ⟨Lib.hid fun k c hk => by
      obtain ⟨b, off, e, _, hc⟩ := hr.2 (by simp)
      injection e with e
      injection e with e1 e2
      subst e1 e2
      have := hc k (.int .u8 (c.toNat : Int)) (by simp only [byW, List.getElem?_map, hk]; rfl)
      rwa [Nat.zero_add] at this⟩
    clear hr
    have hb0 : ((t.length : Int) + 1 == 0) = false := by simp; omega
    have hpre : (decide (1 < (t.length : Int) + 1) = false) ∨ (1 < (t.length : Int) + 1 ∧ ((((⟨(a :: t).toArray⟩ : ByteArray)[0]'(by show 0 < (a :: t).toArray.size; simp)).toNat : Int) == 48) = false) := by
      rcases hcase with h0 | ⟨h0, h4⟩
      · left; simp; omega
      · right; exact ⟨by omega, by simpa using h4⟩
    clear hcase
    rcases hpre with hb1 | ⟨hb1, hb2⟩
    all_goals
      go_enter Tryd.func27, Tryd.ntmps27
      go_wp2_with fail
      go_loop [4, 28] (fun n i => ∃ k : Nat, k ≤ t.length + 1 ∧ i = .int .i64 k ∧ n = .int .i64 (numV ((a :: t).take k)) ∧ Hid (((a :: t).take k).all isD = true)) (fun _ i => t.length + 1 - (intOf i).toNat)
      case atStart => exact ⟨0, by omega, rfl, rfl, Lib.hid rfl⟩
      case round =>
        obtain ⟨k, hk, rfl, rfl, Hall⟩ := hrel
        have hbd := numV_lt _ Hall.out
        have hlen : ((a :: t).take k).length = k := by simp; omega
        rw [hlen] at hbd
        by_cases hlt : k < t.length + 1
        · have hkc : (a :: t)[k]? = some ((a :: t)[k]'(by simpa using hlt)) := List.getElem?_eq_getElem _
          have hcell := cells.out k _ hkc
          have HT : Hid ((a :: t).take (k + 1) = (a :: t).take k ++ [(a :: t)[k]'(by simpa using hlt)]) := Lib.hid (by rw [List.take_succ_eq_append_getElem])
          generalize (a :: t)[k]'(by simpa using hlt) = c at hcell HT hkc
          have Hkc := Lib.hid hkc
          have hk2 : k ≤ 17 := by omega
          have hbd2 : numV ((a :: t).take k) < 100000000000000000 := by
            have : 10 ^ k ≤ 10 ^ 17 := Nat.pow_le_pow_right (by omega) hk2
            omega
          have HV := Lib.hid (numV_snoc ((a :: t).take k) c)
          have hc256 := c.toNat_lt
          generalize numV ((a :: t).take k) = v at HV hbd2
          clear hkc hbd hlen
          by_cases hd : isD c = true
          · have hd2 := hd
            unfold isD at hd2
            simp at hd2
            obtain ⟨hd3, hd4⟩ := hd2
            have HD := Lib.hid hd
            have hd5 : ¬ ((c.toNat : Int) < 48) := by omega
            have hd6 : ¬ ((57 : Int) < (c.toNat : Int)) := by omega
            clear hd
            go_wp2_with fail
            go_round
            case rel =>
              refine ⟨k + 1, by omega, by go_num, ?_, Lib.hid (by rw [HT.out, List.all_append, Hall.out]; simp [HD.out])⟩
              rw [HT.out, HV.out]
              refine val_int ?_
              omega
            case measure => simp [intOf]; omega
          · have hnd : c.toNat < 48 ∨ (48 ≤ c.toNat ∧ 57 < c.toNat) := by
              unfold isD at hd; simp at hd; omega
            have hv := HRn.out (by
              rw [Bool.eq_false_iff]
              intro hall
              exact hd (List.all_eq_true.1 hall c (List.mem_of_getElem? Hkc.out)))
            have HN := Lib.hid hv
            clear hd hv
            rcases hnd with h5 | ⟨h5, h6⟩
            · have h7 : (c.toNat : Int) < 48 := by omega
              go_wp2_with fail
              go_ret2
              exact ⟨by rw [HN.out]; rfl, hb⟩
            · have h7 : ¬ ((c.toNat : Int) < 48) := by omega
              have h8 : (57 : Int) < (c.toNat : Int) := by omega
              go_wp2_with fail
              go_ret2
              exact ⟨by rw [HN.out]; rfl, hb⟩
        · obtain hke : k = t.length + 1 := by omega
          have hv := HR.out (by have := Hall.out; rwa [hke, show t.length + 1 = (a :: t).length from rfl, List.take_length] at this)
          have HN := Lib.hid hv
          have HT : Hid ((a :: t).take k = a :: t) := Lib.hid (by rw [hke, show t.length + 1 = (a :: t).length from rfl, List.take_length])
          clear hv hke
          go_wp2_with fail
          go_ret2
          exact ⟨by rw [HN.out, HT.out]; rfl, hb⟩

theorem bsize (l : List UInt8) : (⟨l.toArray⟩ : ByteArray).size = l.length := by show l.toArray.size = _; simp
theorem bget (l : List UInt8) (k : Nat) (h : k < l.length) : (⟨l.toArray⟩ : ByteArray)[k]'(by rw [bsize]; exact h) = l[k] := rfl
set_option maxHeartbeats 1000000 in
theorem rnumber_any (l : List UInt8) (w : World) (hl : l.length ≤ 100000) :
    Calls Tryd.prog 28 #[.string ⟨l.toArray⟩] w fun e w' => e = .returned (.tuple #[.int .i64 ((numM 18 l).getD 0), .bool (numM 18 l).isSome]) ∧ w = w' := by
  rcases l with _ | ⟨a, t⟩
  · go_enter Tryd.func28, Tryd.ntmps28
    go_wp2
    go_ret2
    exact ⟨rfl, rfl⟩
  · simp only [List.length_cons] at hl
    by_cases h1 : 18 < t.length + 1
    · have hv : numM 18 (a :: t) = none := numM_bad _ _ (.inr (.inl (by simpa using h1)))
      rw [hv]
      have h1' : (18 : Int) < (t.length : Int) + 1 := by omega
      clear h1 hv
      go_enter Tryd.func28, Tryd.ntmps28
      go_wp2
      go_ret2
      exact ⟨rfl, rfl⟩
    have h1' : (t.length : Int) + 1 ≤ 18 := by omega
    go_enter Tryd.func28, Tryd.ntmps28
    go_wp2_with fail
    all_goals first
      | (have e1 : (((⟨(a :: t).toArray⟩ : ByteArray)[0]'(by show 0 < (a :: t).toArray.size; simp)).toNat : Int) = 48 := by assumption
         have e2 : 18 < (t.length : Int) + 1 ∨ (!a == 48) = true ∨ (!t.isEmpty) = true := by assumption
         go_ret2
         have ea : a = 48 := UInt8.toNat_inj.1 (by show a.toNat = 48; have e3 : ((a.toNat : Nat) : Int) = 48 := e1; omega)
         have et : 0 < t.length := by
           rcases e2 with h | h | h
           · omega
           · rw [ea] at h; exact absurd h (by decide)
           · cases t with
             | nil => simp at h
             | cons b u => simp
         rw [numM_bad 18 (a :: t) (.inr (.inr (.inl ⟨by simp; omega, by simpa using ea⟩)))]
         exact ⟨rfl, rfl⟩)
      | (have hnz : ¬ (1 < (a :: t).length ∧ (a :: t).getD 0 0 = 48) := by
           rintro ⟨g1, g2⟩
           have g2 : a = 48 := by simpa using g2
           subst g2
           first
             | (have e2 : (t.length : Int) + 1 ≤ 18 ∧ (!(48 : UInt8) == 48) = false ∧ (!t.isEmpty) = false := by assumption
                have e3 := e2.2.2
                cases t with
                | nil => simp at g1
                | cons b u => simp at e3)
             | (have e2 : ¬ (((⟨(48 :: t).toArray⟩ : ByteArray)[0]'(by show 0 < (48 :: t).toArray.size; simp)).toNat : Int) = 48 := by assumption
                exact e2 rfl)
         have HR : Hid ((a :: t).all isD = true → numM 18 (a :: t) = some (numV (a :: t))) := Lib.hid fun h => by
           refine numM_ok _ _ ?_ h
           rintro (h3 | h3 | h3)
           · simp at h3
           · simp at h3; omega
           · exact hnz h3
         have HRn : Hid ((a :: t).all isD = false → numM 18 (a :: t) = none) := Lib.hid fun h => numM_bad _ _ (.inr (.inr (.inr h)))
         clear hnz
         go_loop [4, 5] (fun n i => ∃ k : Nat, k ≤ t.length + 1 ∧ i = .int .i64 k ∧ n = .int .i64 (numV ((a :: t).take k)) ∧ Hid (((a :: t).take k).all isD = true)) (fun _ i => t.length + 1 - (intOf i).toNat)
         case atStart => exact ⟨0, by omega, rfl, rfl, Lib.hid rfl⟩
         case round =>
           obtain ⟨k, hk, rfl, rfl, Hall⟩ := hrel
           have hbd := numV_lt _ Hall.out
           have hlen : ((a :: t).take k).length = k := by simp; omega
           rw [hlen] at hbd
           by_cases hlt : k < t.length + 1
           · have hbd2 : numV ((a :: t).take k) < 100000000000000000 := by
               have : 10 ^ k ≤ 10 ^ 17 := Nat.pow_le_pow_right (by omega) (by omega)
               omega
             obtain ⟨c, hc⟩ : ∃ c, (⟨(a :: t).toArray⟩ : ByteArray)[k]'(by rw [bsize]; simpa using hlt) = c := ⟨_, rfl⟩
             have hc2 : (a :: t)[k]'(by simpa using hlt) = c := hc
             have HT : Hid ((a :: t).take (k + 1) = (a :: t).take k ++ [c]) := Lib.hid (by rw [← hc2, List.take_succ_eq_append_getElem])
             have HV := Lib.hid (numV_snoc ((a :: t).take k) c)
             have HM : Hid (c ∈ a :: t) := Lib.hid (by rw [← hc2]; exact List.getElem_mem _)
             have hc256 := c.toNat_lt
             clear hc2
             generalize numV ((a :: t).take k) = v at HV hbd2
             clear hbd hlen
             by_cases hd : isD c = true
             · have HD := Lib.hid hd
               have hd2 := hd
               unfold isD at hd2
               simp at hd2
               obtain ⟨hd3, hd4⟩ := hd2
               have hd5 : ¬ ((c.toNat : Int) < 48) := by omega
               have hd6 : ¬ ((57 : Int) < (c.toNat : Int)) := by omega
               clear hd
               go_wp2_with fail
               go_round
               case rel =>
                 refine ⟨k + 1, by omega, by go_num, ?_, Lib.hid (by rw [HT.out, List.all_append, Hall.out]; simp [HD.out])⟩
                 rw [HT.out, HV.out]
                 refine val_int ?_
                 omega
               case measure => simp [intOf]; omega
             · have hnd : c.toNat < 48 ∨ (48 ≤ c.toNat ∧ 57 < c.toNat) := by
                 unfold isD at hd; simp at hd; omega
               have hv := HRn.out (by
                 rw [Bool.eq_false_iff]
                 intro hall
                 exact hd (List.all_eq_true.1 hall _ HM.out))
               have HN := Lib.hid hv
               clear hd hv
               rcases hnd with h5 | ⟨h5, h6⟩
               · have h7 : (c.toNat : Int) < 48 := by omega
                 go_wp2_with fail
                 go_ret2
                 exact ⟨by rw [HN.out]; rfl, rfl⟩
               · have h7 : ¬ ((c.toNat : Int) < 48) := by omega
                 have h8 : (57 : Int) < (c.toNat : Int) := by omega
                 go_wp2_with fail
                 go_ret2
                 exact ⟨by rw [HN.out]; rfl, rfl⟩
           · have HT : Hid ((a :: t).take k = (a :: t)) := Lib.hid (List.take_of_length_le (by simp; omega))
             have hv := HR.out (by have := Hall.out; rwa [HT.out] at this)
             have HN := Lib.hid hv
             clear hv hbd hlen
             go_wp2_with fail
             go_ret2
             exact ⟨by rw [HN.out, HT.out]; rfl, rfl⟩)
end Go.Proofs.YtmaebbbaooodaaaDoor
