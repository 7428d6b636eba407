/- Texts of sets: the size in a text. -/
import Derived.Test.YtihbdndigfnhkaaDoorBitV
import Derived.Test.YtihbdndigfnhkaaDoorBit21
import Derived.Test.YtihbdndigfnhkaaDoorShelf01
import Derived.Laws.IdiomStrings
namespace Go.Proofs.YtihbdndigfnhkaaDoor
open Go Go.Proofs Go.RowKit
set_option linter.unusedSimpArgs false
set_option linter.unusedVariables false
set_option maxRecDepth 100000
/-- The bytes of a text as cells. -/
def byW (l : List UInt8) : List Value := l.map fun b => Value.int .u8 (b.toNat : Int)
theorem bytes_new (w : World) (l : List UInt8) : ∃ cp w1, (convert 9 74 (.string ⟨l.toArray⟩)).run Tryd.prog w = .ok (.slice (some ⟨w.heap.size, 0, none⟩) l.length cp) w1 ∧ Rd w1 1 (some ⟨w.heap.size, 0, none⟩) l.length (byW l) ∧ Below w.heap.size w w1 := by
  have h := run_bytes_of_string (P := Tryd.prog) w 9 74 5 ⟨l.toArray⟩ Tryd.underlying9 Tryd.underlying74 Tryd.underlying5
  have hsz : (⟨l.toArray⟩ : ByteArray).size = l.length := by show l.toArray.size = _; simp
  generalize hc : grownCap w (⟨l.toArray⟩ : ByteArray).size 0 5 = cp at h
  rw [hsz] at h
  refine ⟨cp, _, h, ⟨by simp [byW], fun hn => ⟨w.heap.size, 0, rfl, ?_, fun j u hu => ?_⟩⟩, balloc (below_drew (Below.refl _ _)) _⟩
  · rw [World.size_alloc]; exact Nat.lt_succ_self _
  · rw [Nat.zero_add]
    have hj : j < l.length := by have := (List.getElem?_eq_some_iff.1 hu).1; simpa [byW] using this
    have h2 := bytesRow_at ⟨l.toArray⟩ cp j (by simpa using hj)
    have h3 : u = .int .u8 ((⟨l.toArray⟩ : ByteArray).data[j]'(by simpa using hj)).toNat := by
      simp [byW, List.getElem?_eq_getElem hj] at hu
      simp [← hu]
    rw [h3, ← h2]
    exact cell_of_row _ w.heap.size j _ _ _ (heap_alloc_new w.drew _)

set_option maxHeartbeats 1000000 in
theorem size_any (l : List UInt8) (w : World) (hl : l.length ≤ 100000) :
    Calls Tryd.prog 60 #[.string ⟨l.toArray⟩] w fun e w' => e = .returned (.tuple #[.int .i64 ((numM 4 l).getD 0), .bool (numM 4 l).isSome]) ∧ Below w.heap.size w w' := by
  rcases l with _ | ⟨a, t⟩
  · go_enter Tryd.func60, Tryd.ntmps60
    go_wp2
    go_ret2
    exact ⟨rfl, Below.refl _ _⟩
  · simp only [List.length_cons] at hl
    have ha : ((⟨(a :: t).toArray⟩ : ByteArray)[0]'(by show 0 < (a :: t).toArray.size; simp)) = a := rfl
    by_cases h1 : 4 < t.length + 1
    · have hv : numM 4 (a :: t) = none := numM_bad _ _ (.inr (.inl (by simpa using h1)))
      rw [hv]
      have h1' : (4 : Int) < (t.length : Int) + 1 := by omega
      clear h1 hv ha
      go_enter Tryd.func60, Tryd.ntmps60
      go_wp2
      go_ret2
      exact ⟨rfl, Below.refl _ _⟩
    by_cases h2 : 1 < t.length + 1 ∧ a = 48
    · have hv : numM 4 (a :: t) = none := numM_bad _ _ (.inr (.inr (.inl ⟨by simpa using h2.1, by simpa using h2.2⟩)))
      rw [hv]
      have h1' : (t.length : Int) + 1 ≤ 4 := by omega
      have h2' : 1 < (t.length : Int) + 1 := by omega
      obtain ⟨_, rfl⟩ := h2
      have h3 : (((⟨(48 :: t).toArray⟩ : ByteArray)[0]'(by show 0 < (48 :: t).toArray.size; simp)).toNat : Int) = 48 := rfl
      clear h1 hv ha
      go_enter Tryd.func60, Tryd.ntmps60
      go_wp2
      go_ret2
      exact ⟨rfl, Below.refl _ _⟩
    have HR : Hid ((a :: t).all isD = true → numM 4 (a :: t) = some (numV (a :: t))) := Lib.hid fun h => by
      refine numM_ok _ _ ?_ h
      rintro (h3 | h3 | h3)
      · simp at h3
      · simp at h3; omega
      · exact h2 ⟨by simpa using h3.1, by simpa using h3.2⟩
    have HRn : Hid ((a :: t).all isD = false → numM 4 (a :: t) = none) := Lib.hid fun h => numM_bad _ _ (.inr (.inr (.inr h)))
    obtain ⟨cp, w1, hcv, hr, hb⟩ := bytes_new w (a :: t)
    have h3 : t.length + 1 ≤ 4 := by omega
    have h2' : 1 < t.length + 1 → a ≠ 48 := fun h h' => h2 ⟨h, h'⟩
    have hi1 : (t.length : Int) + 1 ≤ 4 := by omega
    have hcase : (t.length = 0) ∨ (0 < t.length ∧ (((⟨(a :: t).toArray⟩ : ByteArray)[0]'(by show 0 < (a :: t).toArray.size; simp)).toNat : Int) ≠ 48) := by
      rcases Nat.eq_zero_or_pos t.length with h | h
      · exact .inl h
      · refine .inr ⟨h, ?_⟩
        rw [ha]
        intro h4
        exact h2' (by omega) (UInt8.toNat_inj.1 (by show a.toNat = (48 : UInt8).toNat; have : (48 : UInt8).toNat = 48 := rfl; omega))
    clear ha h1 h2 h2'
    obtain ⟨cells⟩ : Nonempty (Hid (∀ k c, (a :: t)[k]? = some c → w1.cell? ⟨w.heap.size, k, none⟩ = some (.int .u8 (c.toNat : Int)))) := ⟨Lib.hid fun k c hk => by
      obtain ⟨b, off, e, _, hc⟩ := hr.2 (by simp)
      injection e with e
      injection e with e1 e2
      subst e1 e2
      have := hc k (.int .u8 (c.toNat : Int)) (by simp only [byW, List.getElem?_map, hk]; rfl)
      rwa [Nat.zero_add] at this⟩
    clear hr
    have hb0 : ((t.length : Int) + 1 == 0) = false := by simp; omega
    have hpre : (decide (1 < (t.length : Int) + 1) = false) ∨ (1 < (t.length : Int) + 1 ∧ ((((⟨(a :: t).toArray⟩ : ByteArray)[0]'(by show 0 < (a :: t).toArray.size; simp)).toNat : Int) == 48) = false) := by
      rcases hcase with h0 | ⟨h0, h4⟩
      · left; simp; omega
      · right; exact ⟨by omega, by simpa using h4⟩
    clear hcase
    rcases hpre with hb1 | ⟨hb1, hb2⟩
    all_goals
      go_enter Tryd.func60, Tryd.ntmps60
      go_wp2_with fail
      go_loop [4, 28] (fun n i => ∃ k : Nat, k ≤ t.length + 1 ∧ i = .int .i64 k ∧ n = .int .i64 (numV ((a :: t).take k)) ∧ Hid (((a :: t).take k).all isD = true)) (fun _ i => t.length + 1 - (intOf i).toNat)
      case atStart => exact ⟨0, by omega, rfl, rfl, Lib.hid rfl⟩
      case round =>
        obtain ⟨k, hk, rfl, rfl, Hall⟩ := hrel
        have hbd := numV_lt _ Hall.out
        have hlen : ((a :: t).take k).length = k := by simp; omega
        rw [hlen] at hbd
        by_cases hlt : k < t.length + 1
        · have hkc : (a :: t)[k]? = some ((a :: t)[k]'(by simpa using hlt)) := List.getElem?_eq_getElem _
          have hcell := cells.out k _ hkc
          have HT : Hid ((a :: t).take (k + 1) = (a :: t).take k ++ [(a :: t)[k]'(by simpa using hlt)]) := Lib.hid (by rw [List.take_succ_eq_append_getElem])
          generalize (a :: t)[k]'(by simpa using hlt) = c at hcell HT hkc
          have Hkc := Lib.hid hkc
          have hk2 : k ≤ 3 := by omega
          have hbd2 : numV ((a :: t).take k) < 1000 := by
            have : 10 ^ k ≤ 10 ^ 3 := Nat.pow_le_pow_right (by omega) hk2
            omega
          have HV := Lib.hid (numV_snoc ((a :: t).take k) c)
          have hc256 := c.toNat_lt
          generalize numV ((a :: t).take k) = v at HV hbd2
          clear hkc hbd hlen
          by_cases hd : isD c = true
          · have hd2 := hd
            unfold isD at hd2
            simp at hd2
            obtain ⟨hd3, hd4⟩ := hd2
            have HD := Lib.hid hd
            have hd5 : ¬ ((c.toNat : Int) < 48) := by omega
            have hd6 : ¬ ((57 : Int) < (c.toNat : Int)) := by omega
            clear hd
            go_wp2_with fail
            go_round
            case rel =>
              refine ⟨k + 1, by omega, by go_num, ?_, Lib.hid (by rw [HT.out, List.all_append, Hall.out]; simp [HD.out])⟩
              rw [HT.out, HV.out]
              refine val_int ?_
              omega
            case measure => simp [intOf]; omega
          · have hnd : c.toNat < 48 ∨ (48 ≤ c.toNat ∧ 57 < c.toNat) := by
              unfold isD at hd; simp at hd; omega
            have hv := HRn.out (by
              rw [Bool.eq_false_iff]
              intro hall
              exact hd (List.all_eq_true.1 hall c (List.mem_of_getElem? Hkc.out)))
            have HN := Lib.hid hv
            clear hd hv
            rcases hnd with h5 | ⟨h5, h6⟩
            · have h7 : (c.toNat : Int) < 48 := by omega
              go_wp2_with fail
              go_ret2
              exact ⟨by rw [HN.out]; rfl, hb⟩
            · have h7 : ¬ ((c.toNat : Int) < 48) := by omega
              have h8 : (57 : Int) < (c.toNat : Int) := by omega
              go_wp2_with fail
              go_ret2
              exact ⟨by rw [HN.out]; rfl, hb⟩
        · obtain hke : k = t.length + 1 := by omega
          have hv := HR.out (by have := Hall.out; rwa [hke, show t.length + 1 = (a :: t).length from rfl, List.take_length] at this)
          have HN := Lib.hid hv
          have HT : Hid ((a :: t).take k = a :: t) := Lib.hid (by rw [hke, show t.length + 1 = (a :: t).length from rfl, List.take_length])
          have hok : (numV ((a :: t).take k) : Int) ≤ 9999 := by have h9 := numM_lt 4 _ _ hv; rw [HT.out]; omega
          clear hv hke
          go_wp2_with fail
          go_ret2
          exact ⟨by rw [HN.out, HT.out]; rfl, hb⟩
theorem bsize (l : List UInt8) : (⟨l.toArray⟩ : ByteArray).size = l.length := by show l.toArray.size = _; simp
/-- The library's variable of this name holds some number. -/
def CutOK (w : World) : Prop := ∃ m, w.cell? ⟨1, 0, none⟩ = some (.int .i64 m)
theorem CutOK.below {w w' : World} (h : CutOK w) (hb : Below w.heap.size w w') : CutOK w' := by
  obtain ⟨m, h⟩ := h
  exact ⟨m, cell_later hb h⟩
theorem CutOK.alloc {w : World} (h : CutOK w) (o : Obj) : CutOK (w.alloc o) := h.below ((Below.refl _ _).alloc (Nat.le_refl _) _)
theorem CutOK.drew {w : World} (h : CutOK w) : CutOK w.drew := h
theorem Cut_any (l sep : List UInt8) (w : World) (hl : l.length ≤ 100000) (hC : CutOK w) :
    Calls Tryd.prog 59 #[.string ⟨l.toArray⟩, .string ⟨sep.toArray⟩] w fun e w' => e = .returned (.tuple #[.string ⟨(Lib.cut l sep).1.toArray⟩, .string ⟨(Lib.cut l sep).2.1.toArray⟩, .bool (Lib.cut l sep).2.2]) ∧ Below w.heap.size w w' := by
  obtain ⟨m, hm⟩ := hC
  refine (Tryd.strings_Cut ⟨l.toArray⟩ ⟨sep.toArray⟩ m w (by rw [bsize]; omega) hm).mono ?_
  rintro e w' ⟨rfl, n, rfl⟩
  exact ⟨rfl, below_drawn (Below.refl _ _) n⟩
theorem cut_len (l sep : List UInt8) : (Lib.cut l sep).1.length ≤ l.length ∧ (Lib.cut l sep).2.1.length ≤ l.length := by
  unfold Lib.cut
  split
  · exact ⟨by simp; omega, by simp⟩
  · exact ⟨Nat.le_refl _, by simp⟩
theorem IB_any (c : UInt8) (w : World) :
    Calls Tryd.prog 61 #[.string ⟨#[48, 49, 50, 51, 52, 53, 54, 55, 56, 57, 97, 98, 99, 100, 101, 102]⟩, .int .u8 (c.toNat : Int)] w fun e w' => e = .returned (.int .i64 (hexV c)) ∧ w = w' := by
  refine (Tryd.strings_IndexByte _ (c.toNat : Int) w).mono ?_
  rintro e w' ⟨rfl, rfl⟩
  refine ⟨?_, rfl⟩
  rw [Int.toNat_natCast, Nat.toUInt8_eq, UInt8.ofNat_toNat]
  rfl
end Go.Proofs.YtihbdndigfnhkaaDoor
